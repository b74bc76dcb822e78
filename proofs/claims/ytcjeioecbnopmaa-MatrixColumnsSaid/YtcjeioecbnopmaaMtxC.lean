/- Apply and Identity, program and reference: the same. Conditions: none. -/
import Derived.Test.YtcjeioecbnopmaaMtxB
set_option linter.unusedVariables false
set_option linter.unusedSimpArgs false
set_option maxRecDepth 40000
set_option maxHeartbeats 4000000
namespace Go.Vam
open Go.Proofs

theorem rowL_len {a i : Nat} {l : List Int} (h : (i + 1) * a ≤ l.length) : (rowL a l i).length = a := by
  unfold rowL
  rw [List.length_take, List.length_drop]
  rw [Nat.add_mul, Nat.one_mul] at h
  omega
theorem rowL_get {a i c : Nat} {l : List Int} (h : c < a) : (rowL a l i)[c]? = l[i * a + c]? := by
  unfold rowL
  rw [List.getElem?_take_of_lt h, List.getElem?_drop]
theorem rowsL_get {a n i : Nat} {l : List Int} (h : i < n) : (rowsL a l n)[i]?.getD [] = rowL a l i := by
  unfold rowsL
  rw [List.getElem?_map, List.getElem?_range h]
  rfl
theorem rowsL_len (a n : Nat) (l : List Int) : (rowsL a l n).length = n := by simp [rowsL]
theorem getC {l : List Int} (h : l.all coefX = true) (i : Nat) : -131072 ≤ l[i]?.getD 0 ∧ l[i]?.getD 0 ≤ 131072 := by
  by_cases hi : i < l.length
  · rw [List.getElem?_eq_getElem hi]; exact coefX_in (List.all_eq_true.1 h _ (List.getElem_mem hi))
  · rw [List.getElem?_eq_none (by omega)]; decide
theorem getS {l : List Int} (h : l.all smpX = true) (i : Nat) : -8388608 ≤ l[i]?.getD 0 ∧ l[i]?.getD 0 ≤ 8388607 := by
  by_cases hi : i < l.length
  · rw [List.getElem?_eq_getElem hi]; exact smpX_in (List.all_eq_true.1 h _ (List.getElem_mem hi))
  · rw [List.getElem?_eq_none (by omega)]; decide
/-- Products in a row, added up. -/
def dotN (f g : Nat → Int) : Nat → Int
  | 0 => 0
  | n + 1 => dotN f g n + f n * g n
theorem dotN_in {f g : Nat → Int} (hf : ∀ i, -131072 ≤ f i ∧ f i ≤ 131072) (hg : ∀ i, -8388608 ≤ g i ∧ g i ≤ 8388608) : ∀ n : Nat, -((n : Int) * 1099511627776) ≤ dotN f g n ∧ dotN f g n ≤ (n : Int) * 1099511627776
  | 0 => by simp [dotN]
  | n + 1 => by
    have ih := dotN_in hf hg n
    have h1 := hf n
    have h2 := hg n
    have h3 : -1099511627776 ≤ f n * g n ∧ f n * g n ≤ 1099511627776 := by
      by_cases h0 : 0 ≤ g n
      · have := mul_bd (x := f n) (y := g n) (A := 131072) (B := 8388608) h1.1 h1.2 h0 h2.2 (by decide)
        omega
      · have := mul_bd (x := f n) (y := - g n) (A := 131072) (B := 8388608) h1.1 h1.2 (by omega) (by omega) (by decide)
        rw [Int.mul_neg] at this
        omega
    show -(((n + 1 : Nat) : Int) * 1099511627776) ≤ dotN f g n + f n * g n ∧ dotN f g n + f n * g n ≤ ((n + 1 : Nat) : Int) * 1099511627776
    rw [Int.natCast_add, Int.add_mul]
    omega
def atL (l : List Int) (i : Nat) : Int := l[i]?.getD 0
def apV (a b : Nat) (m l : List Int) (j : Nat) : Int := satG ((dotN (fun c => atL m (j % b * a + c)) (fun c => atL l (j / b * a + c)) a + 16384) / 32768)
def apL (a b : Nat) (m l : List Int) (n : Nat) : List Int := (List.range n).map (apV a b m l)
theorem apL_len (a b : Nat) (m l : List Int) (n : Nat) : (apL a b m l n).length = n := by simp [apL]
theorem apL_succ (a b : Nat) (m l : List Int) (n : Nat) : apL a b m l (n + 1) = apL a b m l n ++ [apV a b m l n] := by simp [apL, List.range_succ]
theorem apV_at {a b q r : Nat} {m l : List Int} (h : r < b) : apV a b m l (q * b + r) = satG ((dotN (fun c => atL m (r * a + c)) (fun c => atL l (q * a + c)) a + 16384) / 32768) := by
  unfold apV
  have e1 : (q * b + r) % b = r := by rw [Nat.add_comm, Nat.add_mul_mod_self_right, Nat.mod_eq_of_lt h]
  have e2 : (q * b + r) / b = q := by rw [Nat.add_comm, Nat.add_mul_div_right _ _ (by omega), Nat.div_eq_of_lt h, Nat.zero_add]
  rw [e1, e2]
def apE (a b : Int) (m : List Int) (c : Int) (l : List Int) : Int := if (!mxV a b m || !blkV c l) = true then 1 else if c ≠ a then 11 else 0
def apC (a b : Int) (m : List Int) (c : Int) (l : List Int) : Int := if apE a b m c l = 0 then b else 0
def apO (a b : Int) (m : List Int) (c : Int) (l : List Int) : List Int := if apE a b m c l = 0 then apL a.toNat b.toNat m l (l.length / a.toNat * b.toNat) else []
theorem apE_ok {a b : Int} {m : List Int} {c : Int} {l : List Int} (h1 : mxV a b m = true) (h2 : blkV c l = true) (h3 : c = a) : apE a b m c l = 0 := by
  unfold apE; rw [h1, h2, h3]; simp
theorem shr15 (n : Int) : n.fdiv (2 ^ Nat.min 15 IntKind.i64.bits) = n / 32768 := Int.fdiv_eq_ediv_of_nonneg n (show (0 : Int) ≤ 32768 by decide)
theorem apE_one {a b : Int} {m : List Int} {c : Int} {l : List Int} (h : (!mxV a b m || !blkV c l) = true) : apE a b m c l = 1 := by unfold apE; rw [if_pos h]
theorem apE_eleven {a b : Int} {m : List Int} {c : Int} {l : List Int} (h : (!mxV a b m || !blkV c l) = false) (h2 : c ≠ a) : apE a b m c l = 11 := by
  unfold apE; rw [h, if_neg (by decide), if_pos h2]
theorem blkV_in {k : Int} {l : List Int} (h : blkV k l = true) : chBk k l.length = false ∧ l.all smpX = true := by
  unfold blkV at h
  simpa using h

theorem spec_apply (a b : Int) (m : List Int) (c : Int) (l : List Int) (hml : m.length ≤ 1000000) (hl : l.length ≤ 1000000) : Spec Try.prog 0 16 [.agg [.d (.int .i64 a), .d (.int .i64 b), .d (.list (LI .i64 m))], .agg [.d (.int .i64 c), .d (.list (LI .i32 l))]] [] [] (.tup [.agg [.int .i64 (apC a b m c l), .list (LI .i32 (apO a b m c l))], .int .i64 (apE a b m c l)]) [] [] := by
  refine spec_of_E (X := ⟨Try.prog, tt, Try.f16.ntmps, 1, fun _ => 0, (tab [(18, E_mvalid), (33, E_bvalid), (34, E_rows), (35, E_sat)])⟩) (M := []) (m := 1080996126978489855) rfl rfl ⟨tt_ok, tab_ok (tabs_cons E_mvalid_ok (tabs_cons E_bvalid_ok (tabs_cons E_rows_ok (tabs_cons E_sat_ok tabs_nil)))) _ rfl rfl⟩ tt_mixed Try.func16 rfl (by decide) (by show (2 : Nat) ≤ _; exact Nat.le_of_ble_eq_true rfl) ⟨fun m hm => (V.bare_has rfl m hm).elim, by simp, by simp⟩ ?_
  simp only [↓gPre, gPost, handV, V.bufs, buildArr, toCs, List.set_cons_succ, List.set_cons_zero, List.foldr_cons, List.foldr_nil, List.append_eq, Nat.reduceShiftRight, Nat.reduceMod, List.mem_cons, addB, addK, zeroOp, callSem, resName, keepsB, newB, V.pure, C.pure, V.ptrs, C.ptrs, C.bufs, appendSem, dstOk, lk, V.cells, Op.eff, partV, partD, cut, lay, zeroD, C.toDs, C.toD, V.toD, toDs, buildCells, List.flatMap_nil, List.flatMap_cons, List.all_nil, List.all_cons, List.map_nil, List.map_cons, List.zip_cons_cons, List.zip_nil_left, List.nil_append, List.append_nil, List.cons_append, List.drop_zero, List.drop_succ_cons, List.take_succ_cons, List.take_zero, List.length_cons, List.length_nil, List.getElem?_cons_succ, List.getElem?_cons_zero, Option.getD_some, Option.getD_none, Option.map_some, Option.map_none, Option.some.injEq, Option.isSome_none, Option.isSome_some, Option.toList_some, Option.toList_none, if_true, if_false, ↓reduceIte, reduceCtorEq, Nat.reduceEqDiff, Nat.reduceLT, Nat.reduceLeDiff, List.not_mem_nil, false_implies, implies_true, true_and, and_true, forall_const, Nat.succ_ne_self, Bool.false_eq_true, Bool.true_and, Bool.and_true, eq_self, ne_eq, not_true_eq_false, not_false_eq_true, or_true, true_or, and_self, imp_self, bne_self_eq_false, beq_self_eq_true, Bool.or_false, Bool.false_or, Bool.and_false, Bool.false_and, false_or, or_false, Nat.reduceAdd, Nat.reduceMul, beq_true, beq_false, Name.mk.injEq, decide_true, decide_false, Bool.or_true, Bool.true_or, Bool.or_self, Bool.not_eq_true', Bool.not_true, Bool.not_false, Bool.true_eq_false, Bool.cond_true_left, Bool.cond_false_right, Nat.zero_add, Int.reduceLE, Int.reduceLT, Int.reduceNeg, Int.reduceAdd, Int.reduceToNat, List.range_succ, List.range_zero, Int.toNat_natCast, List.mem_nil_iff, List.mem_append, E_mvalid_eq, E_bvalid_eq, E_rows_eq, E_sat_eq, E_rows_eqB, Try.ntmps16, Try.results16, tt_1, tt_2, tt_3, tt_4, tt_5, tt_6, tt_7, tt_8, tt_12, tt_15, tt_16, tt_17, tt_18, tt_19, tt_21, tt_22, tt_23, tt_24, tt_25, tt_26, tt_27, tt_28, tt_29, tt_30, tt_31, tt_32, tt_33, tt_34, tt_35, tt_36, tt_37, tt_38, tt_39, tt_41, tt_42, tt_44, tt_45, tt_46, tt_47, tt_48, tt_49, tt_50, tt_51, tt_52, tt_53, tt_54, tt_55, tt_56, tt_57, tt_58, tt_59, tt_60, tt_61, tt_62, tt_63, tt_64, tt_65, tt_66, tt_67, tt_68, tt_69, tt_70, tt_71, tt_72, tt_73, tt_74, tt_75, tt_78, tt_79, tt_80, tt_81, tt_82, tt_83, tt_84, tt_85, tt_86, tt_87, tt_88, tt_89, tt_90, tt_91]
  refine ⟨hml, fun _ => hl, fun h => ?_, fun h => ?_⟩
  · have e := apE_one h
    simp [apC, apO, e, LI_nil]
  refine ⟨fun h2 => ?_, fun h2 => ?_⟩
  · have e := apE_eleven h (show c ≠ a by simpa using h2)
    simp [apC, apO, e, LI_nil]
  have hv : mxV a b m = true := by simp at h; exact h.1
  have hb : blkV c l = true := by simp at h; exact h.2
  have hca : c = a := by simpa using h2
  have hE := apE_ok hv hb hca
  obtain ⟨ha, hbb, hm, hmc⟩ := mxV_in hv
  obtain ⟨hc0, hsm⟩ := blkV_in hb
  obtain ⟨k1, k2, k3⟩ := chBk_in hc0
  rw [hca] at k3
  have hC : apC a b m c l = b := by simp [apC, hE]
  have hO : apO a b m c l = apL a.toNat b.toNat m l (l.length / a.toNat * b.toNat) := by simp [apO, hE]
  rw [hC, hO, hE]
  have hAa : ((a.toNat : Nat) : Int) = a := by omega
  have hBb : ((b.toNat : Nat) : Int) = b := by omega
  have hA8 : 1 ≤ a.toNat ∧ a.toNat ≤ 8 := by omega
  have hB8 : 1 ≤ b.toNat ∧ b.toNat ≤ 8 := by omega
  generalize hA : a.toNat = A at *
  generalize hB : b.toNat = B at *
  have hz : l.length / A ≤ l.length := Nat.div_le_self ..
  generalize l.length / A = z at *
  refine ⟨⟨ha, hbb, hm⟩, ?_⟩
  refine ELoop_nilB ⟨1, 7⟩ 1 1 ⟨1, 99⟩ rfl rfl (by simp only [↓gPre, gPost, handV, V.bufs, buildArr, toCs, List.set_cons_succ, List.set_cons_zero, List.foldr_cons, List.foldr_nil, List.append_eq, Nat.reduceShiftRight, Nat.reduceMod, List.mem_cons, addB, addK, zeroOp, callSem, resName, keepsB, newB, V.pure, C.pure, V.ptrs, C.ptrs, C.bufs, appendSem, dstOk, lk, V.cells, Op.eff, partV, partD, cut, lay, zeroD, C.toDs, C.toD, V.toD, toDs, buildCells, List.flatMap_nil, List.flatMap_cons, List.all_nil, List.all_cons, List.map_nil, List.map_cons, List.zip_cons_cons, List.zip_nil_left, List.nil_append, List.append_nil, List.cons_append, List.drop_zero, List.drop_succ_cons, List.take_succ_cons, List.take_zero, List.length_cons, List.length_nil, List.getElem?_cons_succ, List.getElem?_cons_zero, Option.getD_some, Option.getD_none, Option.map_some, Option.map_none, Option.some.injEq, Option.isSome_none, Option.isSome_some, Option.toList_some, Option.toList_none, if_true, if_false, ↓reduceIte, reduceCtorEq, Nat.reduceEqDiff, Nat.reduceLT, Nat.reduceLeDiff, List.not_mem_nil, false_implies, implies_true, true_and, and_true, forall_const, Nat.succ_ne_self, Bool.false_eq_true, Bool.true_and, Bool.and_true, eq_self, ne_eq, not_true_eq_false, not_false_eq_true, or_true, true_or, and_self, imp_self, bne_self_eq_false, beq_self_eq_true, Bool.or_false, Bool.false_or, Bool.and_false, Bool.false_and, false_or, or_false, Nat.reduceAdd, Nat.reduceMul, beq_true, beq_false, Name.mk.injEq, decide_true, decide_false, Bool.or_true, Bool.true_or, Bool.or_self, Bool.not_eq_true', Bool.not_true, Bool.not_false, Bool.true_eq_false, Bool.cond_true_left, Bool.cond_false_right, Nat.zero_add, Int.reduceLE, Int.reduceLT, Int.reduceNeg, Int.reduceAdd, Int.reduceToNat, List.range_succ, List.range_zero, Int.toNat_natCast, List.mem_nil_iff, List.mem_append, E_mvalid_eq, E_bvalid_eq, E_rows_eq, E_sat_eq, E_rows_eqB, Try.ntmps16, Try.results16, tt_1, tt_2, tt_3, tt_4, tt_5, tt_6, tt_7, tt_8, tt_12, tt_15, tt_16, tt_17, tt_18, tt_19, tt_21, tt_22, tt_23, tt_24, tt_25, tt_26, tt_27, tt_28, tt_29, tt_30, tt_31, tt_32, tt_33, tt_34, tt_35, tt_36, tt_37, tt_38, tt_39, tt_41, tt_42, tt_44, tt_45, tt_46, tt_47, tt_48, tt_49, tt_50, tt_51, tt_52, tt_53, tt_54, tt_55, tt_56, tt_57, tt_58, tt_59, tt_60, tt_61, tt_62, tt_63, tt_64, tt_65, tt_66, tt_67, tt_68, tt_69, tt_70, tt_71, tt_72, tt_73, tt_74, tt_75, tt_78, tt_79, tt_80, tt_81, tt_82, tt_83, tt_84, tt_85, tt_86, tt_87, tt_88, tt_89, tt_90, tt_91]) (Nat.le_refl _) ?_
  simp only [↓gPre, gPost, handV, V.bufs, buildArr, toCs, List.set_cons_succ, List.set_cons_zero, List.foldr_cons, List.foldr_nil, List.append_eq, Nat.reduceShiftRight, Nat.reduceMod, List.mem_cons, addB, addK, zeroOp, callSem, resName, keepsB, newB, V.pure, C.pure, V.ptrs, C.ptrs, C.bufs, appendSem, dstOk, lk, V.cells, Op.eff, partV, partD, cut, lay, zeroD, C.toDs, C.toD, V.toD, toDs, buildCells, List.flatMap_nil, List.flatMap_cons, List.all_nil, List.all_cons, List.map_nil, List.map_cons, List.zip_cons_cons, List.zip_nil_left, List.nil_append, List.append_nil, List.cons_append, List.drop_zero, List.drop_succ_cons, List.take_succ_cons, List.take_zero, List.length_cons, List.length_nil, List.getElem?_cons_succ, List.getElem?_cons_zero, Option.getD_some, Option.getD_none, Option.map_some, Option.map_none, Option.some.injEq, Option.isSome_none, Option.isSome_some, Option.toList_some, Option.toList_none, if_true, if_false, ↓reduceIte, reduceCtorEq, Nat.reduceEqDiff, Nat.reduceLT, Nat.reduceLeDiff, List.not_mem_nil, false_implies, implies_true, true_and, and_true, forall_const, Nat.succ_ne_self, Bool.false_eq_true, Bool.true_and, Bool.and_true, eq_self, ne_eq, not_true_eq_false, not_false_eq_true, or_true, true_or, and_self, imp_self, bne_self_eq_false, beq_self_eq_true, Bool.or_false, Bool.false_or, Bool.and_false, Bool.false_and, false_or, or_false, Nat.reduceAdd, Nat.reduceMul, beq_true, beq_false, Name.mk.injEq, decide_true, decide_false, Bool.or_true, Bool.true_or, Bool.or_self, Bool.not_eq_true', Bool.not_true, Bool.not_false, Bool.true_eq_false, Bool.cond_true_left, Bool.cond_false_right, Nat.zero_add, Int.reduceLE, Int.reduceLT, Int.reduceNeg, Int.reduceAdd, Int.reduceToNat, List.range_succ, List.range_zero, Int.toNat_natCast, List.mem_nil_iff, List.mem_append, E_mvalid_eq, E_bvalid_eq, E_rows_eq, E_sat_eq, E_rows_eqB, Try.ntmps16, Try.results16, tt_1, tt_2, tt_3, tt_4, tt_5, tt_6, tt_7, tt_8, tt_12, tt_15, tt_16, tt_17, tt_18, tt_19, tt_21, tt_22, tt_23, tt_24, tt_25, tt_26, tt_27, tt_28, tt_29, tt_30, tt_31, tt_32, tt_33, tt_34, tt_35, tt_36, tt_37, tt_38, tt_39, tt_41, tt_42, tt_44, tt_45, tt_46, tt_47, tt_48, tt_49, tt_50, tt_51, tt_52, tt_53, tt_54, tt_55, tt_56, tt_57, tt_58, tt_59, tt_60, tt_61, tt_62, tt_63, tt_64, tt_65, tt_66, tt_67, tt_68, tt_69, tt_70, tt_71, tt_72, tt_73, tt_74, tt_75, tt_78, tt_79, tt_80, tt_81, tt_82, tt_83, tt_84, tt_85, tt_86, tt_87, tt_88, tt_89, tt_90, tt_91]
  refine ELoop_keep (fun q => ⟨[(8, vI .i64 ((q * A : Nat) : Int))], [(⟨1, 7⟩, [.d (.int .i64 b), .own ⟨1, 99⟩ (LI .i32 (apL A B m l (q * B)))])], [(⟨1, 99⟩, ⟨false, 1, LI .i32 (apL A B m l (q * B))⟩)]⟩) (fun q => q ≤ z) (fun q => z - q) (· + 1) 0 (Nat.zero_le _) ?_ ?_
  · simp only [↓gPre, gPost, handV, V.bufs, buildArr, toCs, List.set_cons_succ, List.set_cons_zero, List.foldr_cons, List.foldr_nil, List.append_eq, Nat.reduceShiftRight, Nat.reduceMod, List.mem_cons, addB, addK, zeroOp, callSem, resName, keepsB, newB, V.pure, C.pure, V.ptrs, C.ptrs, C.bufs, appendSem, dstOk, lk, V.cells, Op.eff, partV, partD, cut, lay, zeroD, C.toDs, C.toD, V.toD, toDs, buildCells, List.flatMap_nil, List.flatMap_cons, List.all_nil, List.all_cons, List.map_nil, List.map_cons, List.zip_cons_cons, List.zip_nil_left, List.nil_append, List.append_nil, List.cons_append, List.drop_zero, List.drop_succ_cons, List.take_succ_cons, List.take_zero, List.length_cons, List.length_nil, List.getElem?_cons_succ, List.getElem?_cons_zero, Option.getD_some, Option.getD_none, Option.map_some, Option.map_none, Option.some.injEq, Option.isSome_none, Option.isSome_some, Option.toList_some, Option.toList_none, if_true, if_false, ↓reduceIte, reduceCtorEq, Nat.reduceEqDiff, Nat.reduceLT, Nat.reduceLeDiff, List.not_mem_nil, false_implies, implies_true, true_and, and_true, forall_const, Nat.succ_ne_self, Bool.false_eq_true, Bool.true_and, Bool.and_true, eq_self, ne_eq, not_true_eq_false, not_false_eq_true, or_true, true_or, and_self, imp_self, bne_self_eq_false, beq_self_eq_true, Bool.or_false, Bool.false_or, Bool.and_false, Bool.false_and, false_or, or_false, Nat.reduceAdd, Nat.reduceMul, beq_true, beq_false, Name.mk.injEq, decide_true, decide_false, Bool.or_true, Bool.true_or, Bool.or_self, Bool.not_eq_true', Bool.not_true, Bool.not_false, Bool.true_eq_false, Bool.cond_true_left, Bool.cond_false_right, Nat.zero_add, Int.reduceLE, Int.reduceLT, Int.reduceNeg, Int.reduceAdd, Int.reduceToNat, List.range_succ, List.range_zero, Int.toNat_natCast, List.mem_nil_iff, List.mem_append, E_mvalid_eq, E_bvalid_eq, E_rows_eq, E_sat_eq, E_rows_eqB, Try.ntmps16, Try.results16, tt_1, tt_2, tt_3, tt_4, tt_5, tt_6, tt_7, tt_8, tt_12, tt_15, tt_16, tt_17, tt_18, tt_19, tt_21, tt_22, tt_23, tt_24, tt_25, tt_26, tt_27, tt_28, tt_29, tt_30, tt_31, tt_32, tt_33, tt_34, tt_35, tt_36, tt_37, tt_38, tt_39, tt_41, tt_42, tt_44, tt_45, tt_46, tt_47, tt_48, tt_49, tt_50, tt_51, tt_52, tt_53, tt_54, tt_55, tt_56, tt_57, tt_58, tt_59, tt_60, tt_61, tt_62, tt_63, tt_64, tt_65, tt_66, tt_67, tt_68, tt_69, tt_70, tt_71, tt_72, tt_73, tt_74, tt_75, tt_78, tt_79, tt_80, tt_81, tt_82, tt_83, tt_84, tt_85, tt_86, tt_87, tt_88, tt_89, tt_90, tt_91]
    simp [apL, LI_nil]
  intro q hq
  simp only [↓gPre, gPost, handV, V.bufs, buildArr, toCs, List.set_cons_succ, List.set_cons_zero, List.foldr_cons, List.foldr_nil, List.append_eq, Nat.reduceShiftRight, Nat.reduceMod, List.mem_cons, addB, addK, zeroOp, callSem, resName, keepsB, newB, V.pure, C.pure, V.ptrs, C.ptrs, C.bufs, appendSem, dstOk, lk, V.cells, Op.eff, partV, partD, cut, lay, zeroD, C.toDs, C.toD, V.toD, toDs, buildCells, List.flatMap_nil, List.flatMap_cons, List.all_nil, List.all_cons, List.map_nil, List.map_cons, List.zip_cons_cons, List.zip_nil_left, List.nil_append, List.append_nil, List.cons_append, List.drop_zero, List.drop_succ_cons, List.take_succ_cons, List.take_zero, List.length_cons, List.length_nil, List.getElem?_cons_succ, List.getElem?_cons_zero, Option.getD_some, Option.getD_none, Option.map_some, Option.map_none, Option.some.injEq, Option.isSome_none, Option.isSome_some, Option.toList_some, Option.toList_none, if_true, if_false, ↓reduceIte, reduceCtorEq, Nat.reduceEqDiff, Nat.reduceLT, Nat.reduceLeDiff, List.not_mem_nil, false_implies, implies_true, true_and, and_true, forall_const, Nat.succ_ne_self, Bool.false_eq_true, Bool.true_and, Bool.and_true, eq_self, ne_eq, not_true_eq_false, not_false_eq_true, or_true, true_or, and_self, imp_self, bne_self_eq_false, beq_self_eq_true, Bool.or_false, Bool.false_or, Bool.and_false, Bool.false_and, false_or, or_false, Nat.reduceAdd, Nat.reduceMul, beq_true, beq_false, Name.mk.injEq, decide_true, decide_false, Bool.or_true, Bool.true_or, Bool.or_self, Bool.not_eq_true', Bool.not_true, Bool.not_false, Bool.true_eq_false, Bool.cond_true_left, Bool.cond_false_right, Nat.zero_add, Int.reduceLE, Int.reduceLT, Int.reduceNeg, Int.reduceAdd, Int.reduceToNat, List.range_succ, List.range_zero, Int.toNat_natCast, List.mem_nil_iff, List.mem_append, E_mvalid_eq, E_bvalid_eq, E_rows_eq, E_sat_eq, E_rows_eqB, Try.ntmps16, Try.results16, tt_1, tt_2, tt_3, tt_4, tt_5, tt_6, tt_7, tt_8, tt_12, tt_15, tt_16, tt_17, tt_18, tt_19, tt_21, tt_22, tt_23, tt_24, tt_25, tt_26, tt_27, tt_28, tt_29, tt_30, tt_31, tt_32, tt_33, tt_34, tt_35, tt_36, tt_37, tt_38, tt_39, tt_41, tt_42, tt_44, tt_45, tt_46, tt_47, tt_48, tt_49, tt_50, tt_51, tt_52, tt_53, tt_54, tt_55, tt_56, tt_57, tt_58, tt_59, tt_60, tt_61, tt_62, tt_63, tt_64, tt_65, tt_66, tt_67, tt_68, tt_69, tt_70, tt_71, tt_72, tt_73, tt_74, tt_75, tt_78, tt_79, tt_80, tt_81, tt_82, tt_83, tt_84, tt_85, tt_86, tt_87, tt_88, tt_89, tt_90, tt_91]
  refine ⟨fun h3 => ?_, fun h3 => ?_⟩
  · have h3' := of_decide_eq_true h3
    have hqz : q < z := by
      rcases Nat.lt_or_ge q z with h | h
      · exact h
      · have := Nat.mul_le_mul_right A h
        omega
    have hle := Nat.mul_le_mul_right A (show q + 1 ≤ z from hqz)
    have hqs : (q + 1) * A = q * A + A := by rw [Nat.add_mul, Nat.one_mul]
    have hqb : (q + 1) * B = q * B + B := by rw [Nat.add_mul, Nat.one_mul]
    have hqB : q * B ≤ 8 * z := by
      have := Nat.mul_le_mul (show q ≤ z by omega) hB8.2
      omega
    refine ELoop_keep (fun r => ⟨[(45, vI .i64 (r : Nat))], [(⟨1, 7⟩, [.d (.int .i64 b), .own ⟨1, 99⟩ (LI .i32 (apL A B m l (q * B + r)))])], [(⟨1, 99⟩, ⟨false, 1, LI .i32 (apL A B m l (q * B + r))⟩)]⟩) (fun r => r ≤ B) (fun r => B - r) (· + 1) 0 (Nat.zero_le _) ?_ ?_
    · simp only [↓gPre, gPost, handV, V.bufs, buildArr, toCs, List.set_cons_succ, List.set_cons_zero, List.foldr_cons, List.foldr_nil, List.append_eq, Nat.reduceShiftRight, Nat.reduceMod, List.mem_cons, addB, addK, zeroOp, callSem, resName, keepsB, newB, V.pure, C.pure, V.ptrs, C.ptrs, C.bufs, appendSem, dstOk, lk, V.cells, Op.eff, partV, partD, cut, lay, zeroD, C.toDs, C.toD, V.toD, toDs, buildCells, List.flatMap_nil, List.flatMap_cons, List.all_nil, List.all_cons, List.map_nil, List.map_cons, List.zip_cons_cons, List.zip_nil_left, List.nil_append, List.append_nil, List.cons_append, List.drop_zero, List.drop_succ_cons, List.take_succ_cons, List.take_zero, List.length_cons, List.length_nil, List.getElem?_cons_succ, List.getElem?_cons_zero, Option.getD_some, Option.getD_none, Option.map_some, Option.map_none, Option.some.injEq, Option.isSome_none, Option.isSome_some, Option.toList_some, Option.toList_none, if_true, if_false, ↓reduceIte, reduceCtorEq, Nat.reduceEqDiff, Nat.reduceLT, Nat.reduceLeDiff, List.not_mem_nil, false_implies, implies_true, true_and, and_true, forall_const, Nat.succ_ne_self, Bool.false_eq_true, Bool.true_and, Bool.and_true, eq_self, ne_eq, not_true_eq_false, not_false_eq_true, or_true, true_or, and_self, imp_self, bne_self_eq_false, beq_self_eq_true, Bool.or_false, Bool.false_or, Bool.and_false, Bool.false_and, false_or, or_false, Nat.reduceAdd, Nat.reduceMul, beq_true, beq_false, Name.mk.injEq, decide_true, decide_false, Bool.or_true, Bool.true_or, Bool.or_self, Bool.not_eq_true', Bool.not_true, Bool.not_false, Bool.true_eq_false, Bool.cond_true_left, Bool.cond_false_right, Nat.zero_add, Int.reduceLE, Int.reduceLT, Int.reduceNeg, Int.reduceAdd, Int.reduceToNat, List.range_succ, List.range_zero, Int.toNat_natCast, List.mem_nil_iff, List.mem_append, E_mvalid_eq, E_bvalid_eq, E_rows_eq, E_sat_eq, E_rows_eqB, Try.ntmps16, Try.results16, tt_1, tt_2, tt_3, tt_4, tt_5, tt_6, tt_7, tt_8, tt_12, tt_15, tt_16, tt_17, tt_18, tt_19, tt_21, tt_22, tt_23, tt_24, tt_25, tt_26, tt_27, tt_28, tt_29, tt_30, tt_31, tt_32, tt_33, tt_34, tt_35, tt_36, tt_37, tt_38, tt_39, tt_41, tt_42, tt_44, tt_45, tt_46, tt_47, tt_48, tt_49, tt_50, tt_51, tt_52, tt_53, tt_54, tt_55, tt_56, tt_57, tt_58, tt_59, tt_60, tt_61, tt_62, tt_63, tt_64, tt_65, tt_66, tt_67, tt_68, tt_69, tt_70, tt_71, tt_72, tt_73, tt_74, tt_75, tt_78, tt_79, tt_80, tt_81, tt_82, tt_83, tt_84, tt_85, tt_86, tt_87, tt_88, tt_89, tt_90, tt_91]
      simp [rowsL_len]
    intro r hr
    simp only [↓gPre, gPost, handV, V.bufs, buildArr, toCs, List.set_cons_succ, List.set_cons_zero, List.foldr_cons, List.foldr_nil, List.append_eq, Nat.reduceShiftRight, Nat.reduceMod, List.mem_cons, addB, addK, zeroOp, callSem, resName, keepsB, newB, V.pure, C.pure, V.ptrs, C.ptrs, C.bufs, appendSem, dstOk, lk, V.cells, Op.eff, partV, partD, cut, lay, zeroD, C.toDs, C.toD, V.toD, toDs, buildCells, List.flatMap_nil, List.flatMap_cons, List.all_nil, List.all_cons, List.map_nil, List.map_cons, List.zip_cons_cons, List.zip_nil_left, List.nil_append, List.append_nil, List.cons_append, List.drop_zero, List.drop_succ_cons, List.take_succ_cons, List.take_zero, List.length_cons, List.length_nil, List.getElem?_cons_succ, List.getElem?_cons_zero, Option.getD_some, Option.getD_none, Option.map_some, Option.map_none, Option.some.injEq, Option.isSome_none, Option.isSome_some, Option.toList_some, Option.toList_none, if_true, if_false, ↓reduceIte, reduceCtorEq, Nat.reduceEqDiff, Nat.reduceLT, Nat.reduceLeDiff, List.not_mem_nil, false_implies, implies_true, true_and, and_true, forall_const, Nat.succ_ne_self, Bool.false_eq_true, Bool.true_and, Bool.and_true, eq_self, ne_eq, not_true_eq_false, not_false_eq_true, or_true, true_or, and_self, imp_self, bne_self_eq_false, beq_self_eq_true, Bool.or_false, Bool.false_or, Bool.and_false, Bool.false_and, false_or, or_false, Nat.reduceAdd, Nat.reduceMul, beq_true, beq_false, Name.mk.injEq, decide_true, decide_false, Bool.or_true, Bool.true_or, Bool.or_self, Bool.not_eq_true', Bool.not_true, Bool.not_false, Bool.true_eq_false, Bool.cond_true_left, Bool.cond_false_right, Nat.zero_add, Int.reduceLE, Int.reduceLT, Int.reduceNeg, Int.reduceAdd, Int.reduceToNat, List.range_succ, List.range_zero, Int.toNat_natCast, List.mem_nil_iff, List.mem_append, E_mvalid_eq, E_bvalid_eq, E_rows_eq, E_sat_eq, E_rows_eqB, Try.ntmps16, Try.results16, tt_1, tt_2, tt_3, tt_4, tt_5, tt_6, tt_7, tt_8, tt_12, tt_15, tt_16, tt_17, tt_18, tt_19, tt_21, tt_22, tt_23, tt_24, tt_25, tt_26, tt_27, tt_28, tt_29, tt_30, tt_31, tt_32, tt_33, tt_34, tt_35, tt_36, tt_37, tt_38, tt_39, tt_41, tt_42, tt_44, tt_45, tt_46, tt_47, tt_48, tt_49, tt_50, tt_51, tt_52, tt_53, tt_54, tt_55, tt_56, tt_57, tt_58, tt_59, tt_60, tt_61, tt_62, tt_63, tt_64, tt_65, tt_66, tt_67, tt_68, tt_69, tt_70, tt_71, tt_72, tt_73, tt_74, tt_75, tt_78, tt_79, tt_80, tt_81, tt_82, tt_83, tt_84, tt_85, tt_86, tt_87, tt_88, tt_89, tt_90, tt_91]
    have hrl := rowsL_len A B m
    refine ⟨fun h4 => ?_, fun h4 => ?_⟩
    · have hrB : r < B := by have := of_decide_eq_true h4; omega
      have hw : IntKind.i64.wrap (((q * A : Nat) : Int) + a) = ((q * A + A : Nat) : Int) := by rw [IntWalk.i64_in _ (by omega)]; omega
      have hr1 : (r + 1) * A ≤ B * A := Nat.mul_le_mul_right _ hrB
      have hrA : (r + 1) * A = r * A + A := by rw [Nat.add_mul, Nat.one_mul]
      have hmB : m.length = B * A := by rw [hm, Nat.mul_comm]
      have hrl2 := rowL_len (a := A) (i := r) (l := m) (by omega)
      have hfl := rowL_len (a := A) (i := q) (l := l) (by omega)
      have hfr : List.take (((q * A + A : Nat) : Int).toNat - q * A) (List.drop (q * A) l) = rowL A l q := by
        rw [Int.toNat_natCast, Nat.add_sub_cancel_left]; rfl
      rw [hw, hfr, rowsL_get hrB]
      refine ⟨by omega, by omega, ?_⟩
      have hdn := dotN_in (f := fun c => atL m (r * A + c)) (g := fun c => atL l (q * A + c)) (fun i => getC hmc _) (fun i => by have := getS hsm (q * A + i); unfold atL; omega)
      have hav := apV_at (a := A) (b := B) (q := q) (r := r) (m := m) (l := l) hrB
      have hsuc := apL_succ A B m l (q * B + r)
      have hlen := apL_len A B m l (q * B + r)
      refine ELoop_keep (fun n => ⟨[(58, vI .i64 (n : Nat)), (11, vI .i64 (dotN (fun c => atL m (r * A + c)) (fun c => atL l (q * A + c)) n))], [], []⟩) (fun n => n ≤ A) (fun n => A - n) (· + 1) 0 (Nat.zero_le _) ?_ ?_
      · simp only [↓gPre, gPost, handV, V.bufs, buildArr, toCs, List.set_cons_succ, List.set_cons_zero, List.foldr_cons, List.foldr_nil, List.append_eq, Nat.reduceShiftRight, Nat.reduceMod, List.mem_cons, addB, addK, zeroOp, callSem, resName, keepsB, newB, V.pure, C.pure, V.ptrs, C.ptrs, C.bufs, appendSem, dstOk, lk, V.cells, Op.eff, partV, partD, cut, lay, zeroD, C.toDs, C.toD, V.toD, toDs, buildCells, List.flatMap_nil, List.flatMap_cons, List.all_nil, List.all_cons, List.map_nil, List.map_cons, List.zip_cons_cons, List.zip_nil_left, List.nil_append, List.append_nil, List.cons_append, List.drop_zero, List.drop_succ_cons, List.take_succ_cons, List.take_zero, List.length_cons, List.length_nil, List.getElem?_cons_succ, List.getElem?_cons_zero, Option.getD_some, Option.getD_none, Option.map_some, Option.map_none, Option.some.injEq, Option.isSome_none, Option.isSome_some, Option.toList_some, Option.toList_none, if_true, if_false, ↓reduceIte, reduceCtorEq, Nat.reduceEqDiff, Nat.reduceLT, Nat.reduceLeDiff, List.not_mem_nil, false_implies, implies_true, true_and, and_true, forall_const, Nat.succ_ne_self, Bool.false_eq_true, Bool.true_and, Bool.and_true, eq_self, ne_eq, not_true_eq_false, not_false_eq_true, or_true, true_or, and_self, imp_self, bne_self_eq_false, beq_self_eq_true, Bool.or_false, Bool.false_or, Bool.and_false, Bool.false_and, false_or, or_false, Nat.reduceAdd, Nat.reduceMul, beq_true, beq_false, Name.mk.injEq, decide_true, decide_false, Bool.or_true, Bool.true_or, Bool.or_self, Bool.not_eq_true', Bool.not_true, Bool.not_false, Bool.true_eq_false, Bool.cond_true_left, Bool.cond_false_right, Nat.zero_add, Int.reduceLE, Int.reduceLT, Int.reduceNeg, Int.reduceAdd, Int.reduceToNat, List.range_succ, List.range_zero, Int.toNat_natCast, List.mem_nil_iff, List.mem_append, E_mvalid_eq, E_bvalid_eq, E_rows_eq, E_sat_eq, E_rows_eqB, Try.ntmps16, Try.results16, tt_1, tt_2, tt_3, tt_4, tt_5, tt_6, tt_7, tt_8, tt_12, tt_15, tt_16, tt_17, tt_18, tt_19, tt_21, tt_22, tt_23, tt_24, tt_25, tt_26, tt_27, tt_28, tt_29, tt_30, tt_31, tt_32, tt_33, tt_34, tt_35, tt_36, tt_37, tt_38, tt_39, tt_41, tt_42, tt_44, tt_45, tt_46, tt_47, tt_48, tt_49, tt_50, tt_51, tt_52, tt_53, tt_54, tt_55, tt_56, tt_57, tt_58, tt_59, tt_60, tt_61, tt_62, tt_63, tt_64, tt_65, tt_66, tt_67, tt_68, tt_69, tt_70, tt_71, tt_72, tt_73, tt_74, tt_75, tt_78, tt_79, tt_80, tt_81, tt_82, tt_83, tt_84, tt_85, tt_86, tt_87, tt_88, tt_89, tt_90, tt_91]
        exact ⟨rfl, rfl⟩
      intro n hn
      simp only [↓gPre, gPost, handV, V.bufs, buildArr, toCs, List.set_cons_succ, List.set_cons_zero, List.foldr_cons, List.foldr_nil, List.append_eq, Nat.reduceShiftRight, Nat.reduceMod, List.mem_cons, addB, addK, zeroOp, callSem, resName, keepsB, newB, V.pure, C.pure, V.ptrs, C.ptrs, C.bufs, appendSem, dstOk, lk, V.cells, Op.eff, partV, partD, cut, lay, zeroD, C.toDs, C.toD, V.toD, toDs, buildCells, List.flatMap_nil, List.flatMap_cons, List.all_nil, List.all_cons, List.map_nil, List.map_cons, List.zip_cons_cons, List.zip_nil_left, List.nil_append, List.append_nil, List.cons_append, List.drop_zero, List.drop_succ_cons, List.take_succ_cons, List.take_zero, List.length_cons, List.length_nil, List.getElem?_cons_succ, List.getElem?_cons_zero, Option.getD_some, Option.getD_none, Option.map_some, Option.map_none, Option.some.injEq, Option.isSome_none, Option.isSome_some, Option.toList_some, Option.toList_none, if_true, if_false, ↓reduceIte, reduceCtorEq, Nat.reduceEqDiff, Nat.reduceLT, Nat.reduceLeDiff, List.not_mem_nil, false_implies, implies_true, true_and, and_true, forall_const, Nat.succ_ne_self, Bool.false_eq_true, Bool.true_and, Bool.and_true, eq_self, ne_eq, not_true_eq_false, not_false_eq_true, or_true, true_or, and_self, imp_self, bne_self_eq_false, beq_self_eq_true, Bool.or_false, Bool.false_or, Bool.and_false, Bool.false_and, false_or, or_false, Nat.reduceAdd, Nat.reduceMul, beq_true, beq_false, Name.mk.injEq, decide_true, decide_false, Bool.or_true, Bool.true_or, Bool.or_self, Bool.not_eq_true', Bool.not_true, Bool.not_false, Bool.true_eq_false, Bool.cond_true_left, Bool.cond_false_right, Nat.zero_add, Int.reduceLE, Int.reduceLT, Int.reduceNeg, Int.reduceAdd, Int.reduceToNat, List.range_succ, List.range_zero, Int.toNat_natCast, List.mem_nil_iff, List.mem_append, E_mvalid_eq, E_bvalid_eq, E_rows_eq, E_sat_eq, E_rows_eqB, Try.ntmps16, Try.results16, tt_1, tt_2, tt_3, tt_4, tt_5, tt_6, tt_7, tt_8, tt_12, tt_15, tt_16, tt_17, tt_18, tt_19, tt_21, tt_22, tt_23, tt_24, tt_25, tt_26, tt_27, tt_28, tt_29, tt_30, tt_31, tt_32, tt_33, tt_34, tt_35, tt_36, tt_37, tt_38, tt_39, tt_41, tt_42, tt_44, tt_45, tt_46, tt_47, tt_48, tt_49, tt_50, tt_51, tt_52, tt_53, tt_54, tt_55, tt_56, tt_57, tt_58, tt_59, tt_60, tt_61, tt_62, tt_63, tt_64, tt_65, tt_66, tt_67, tt_68, tt_69, tt_70, tt_71, tt_72, tt_73, tt_74, tt_75, tt_78, tt_79, tt_80, tt_81, tt_82, tt_83, tt_84, tt_85, tt_86, tt_87, tt_88, tt_89, tt_90, tt_91]
      have hd := hdn n
      have hd2 := hdn (n + 1)
      refine ⟨fun h5 => ?_, fun h5 => ?_⟩
      · have hnA : n < A := by have := of_decide_eq_true h5; omega
        have g1 : (rowL A m r)[n]?.getD 0 = atL m (r * A + n) := by rw [rowL_get hnA]; rfl
        have g2 : (rowL A l q)[n]?.getD 0 = atL l (q * A + n) := by rw [rowL_get hnA]; rfl
        rw [g1, g2]
        have b1 := getC hmc (r * A + n)
        have b2 := getS hsm (q * A + n)
        have hsd : dotN (fun c => atL m (r * A + c)) (fun c => atL l (q * A + c)) (n + 1) = dotN (fun c => atL m (r * A + c)) (fun c => atL l (q * A + c)) n + atL m (r * A + n) * atL l (q * A + n) := rfl
        have b3 : -1099511627776 ≤ atL m (r * A + n) * atL l (q * A + n) ∧ atL m (r * A + n) * atL l (q * A + n) ≤ 1099511627776 := by
          have k := dotN_in (f := fun _ => atL m (r * A + n)) (g := fun _ => atL l (q * A + n)) (fun _ => b1) (fun _ => by unfold atL; omega) 1
          simp [dotN] at k
          omega
        rw [IntWalk.i64_in (atL l (q * A + n)) (by unfold atL; omega), IntWalk.i64_in (atL m (r * A + n) * atL l (q * A + n)) (by omega), IntWalk.i64_in (dotN _ _ n + _) (by omega), ← hsd]
        exact ⟨by omega, by omega, ⟨(wrapN _ (by omega)).symm, rfl⟩, by omega, by omega⟩
      · have hnA : n = A := by have := of_decide_eq_false h5; omega
        subst hnA
        generalize hdd : dotN (fun c => atL m (r * n + c)) (fun c => atL l (q * n + c)) n = dd at *
        rw [IntWalk.i64_in (dd + 16384) (by omega), shr15, ← hav]
        have hs3 : q * B + (r + 1) = q * B + r + 1 := rfl
        rw [hs3, hsuc]
        refine ⟨by kernel_rfl, by unfold roomOK; omega, ⟨(wrapN _ (by omega)).symm, rfl, rfl⟩, by omega, by omega⟩
    · have hrB : r = B := by have := of_decide_eq_false h4; omega
      rw [hrB, hqb, hqs]
      exact ⟨⟨by rw [IntWalk.i64_in _ (by omega)]; omega, rfl, rfl⟩, by omega, by omega⟩
  · have hqz : q = z := by
      have h3' := of_decide_eq_false h3
      rcases Nat.lt_or_ge q z with h | h
      · have := Nat.mul_lt_mul_of_pos_right h (show 0 < A by omega)
        omega
      · omega
    rw [hqz]
def E_apply : List V → Boxes → Toks → Name → Option Ent
  | [.agg [.d (.int .i64 a), .d (.int .i64 b), .d (.list q_m)], .agg [.d (.int .i64 c), .d (.list q_l)]], [], [], _ => some ⟨(ints q_m).length ≤ 1000000 ∧ (ints q_l).length ≤ 1000000 ∧ q_m = LI .i64 (ints q_m) ∧ q_l = LI .i32 (ints q_l), .tup [.agg [.int .i64 (apC a b (ints q_m) c (ints q_l)), .list (LI .i32 (apO a b (ints q_m) c (ints q_l)))], .int .i64 (apE a b (ints q_m) c (ints q_l))], [], []⟩
  | _, _, _, _ => none
theorem E_apply_eq {a b : Int} {c : Int}  {q_m : List D} {q_l : List D} {nF : Name} : E_apply [.agg [.d (.int .i64 a), .d (.int .i64 b), .d (.list q_m)], .agg [.d (.int .i64 c), .d (.list q_l)]] [] [] nF = some ⟨(ints q_m).length ≤ 1000000 ∧ (ints q_l).length ≤ 1000000 ∧ q_m = LI .i64 (ints q_m) ∧ q_l = LI .i32 (ints q_l), .tup [.agg [.int .i64 (apC a b (ints q_m) c (ints q_l)), .list (LI .i32 (apO a b (ints q_m) c (ints q_l)))], .int .i64 (apE a b (ints q_m) c (ints q_l))], [], []⟩ := Eq.trans rfl rfl
theorem E_apply_ok : Snd Try.prog 16 E_apply := by
  intro vs b k n e h hn hp
  unfold E_apply at h
  split at h
  · cases h; obtain ⟨hp0, hp1, hq0, hq1⟩ := hp; obtain ⟨_, rfl⟩ := LI_ex hq0; obtain ⟨_, rfl⟩ := LI_ex hq1; simp only [ints_LI, bys_LB, blks_LK, lls_LL] at hp0 hp1 ⊢; exact (spec_apply _ _ _ _ _ hp0 hp1).lift rfl _
  · cases h

theorem spec_rapply (a b : Int) (m : List Int) (c : Int) (l : List Int) (hml : m.length ≤ 1000000) (hl : l.length ≤ 1000000) : Spec Try.prog 0 17 [.agg [.d (.int .i64 a), .d (.int .i64 b), .d (.list (LI .i64 m))], .agg [.d (.int .i64 c), .d (.list (LI .i32 l))]] [] [] (.tup [.agg [.int .i64 (apC a b m c l), .list (LI .i32 (apO a b m c l))], .int .i64 (apE a b m c l)]) [] [] := by
  refine spec_of_E (X := ⟨Try.prog, tt, Try.f17.ntmps, 1, fun _ => 0, (tab [(19, E_rmvalid), (36, E_rbvalid), (37, E_rsat)])⟩) (M := [(16, [0, 0, 0, 0, 0, 2361161992281711183871, 0, 0, 0, 0, 0, 2360031588775241189375, 0, 0, 0, 0, 0, 2214763479194778470399, 0, 0, 0, 0])]) (m := 142945118586879) rfl rfl ⟨tt_ok, tab_ok (tabs_cons E_rmvalid_ok (tabs_cons E_rbvalid_ok (tabs_cons E_rsat_ok tabs_nil))) _ rfl rfl⟩ tt_mixed Try.func17 rfl (by decide) (by show (2 : Nat) ≤ _; exact Nat.le_of_ble_eq_true rfl) ⟨fun m hm => (V.bare_has rfl m hm).elim, by simp, by simp⟩ ?_
  simp only [↓gPre, gPost, handV, V.bufs, buildArr, toCs, List.set_cons_succ, List.set_cons_zero, List.foldr_cons, List.foldr_nil, List.append_eq, Nat.reduceShiftRight, Nat.reduceMod, List.mem_cons, addB, addK, zeroOp, callSem, resName, keepsB, newB, V.pure, C.pure, V.ptrs, C.ptrs, C.bufs, appendSem, dstOk, lk, V.cells, Op.eff, partV, partD, cut, lay, zeroD, C.toDs, C.toD, V.toD, toDs, buildCells, List.flatMap_nil, List.flatMap_cons, List.all_nil, List.all_cons, List.map_nil, List.map_cons, List.zip_cons_cons, List.zip_nil_left, List.nil_append, List.append_nil, List.cons_append, List.drop_zero, List.drop_succ_cons, List.take_succ_cons, List.take_zero, List.length_cons, List.length_nil, List.getElem?_cons_succ, List.getElem?_cons_zero, Option.getD_some, Option.getD_none, Option.map_some, Option.map_none, Option.some.injEq, Option.isSome_none, Option.isSome_some, Option.toList_some, Option.toList_none, if_true, if_false, ↓reduceIte, reduceCtorEq, Nat.reduceEqDiff, Nat.reduceLT, Nat.reduceLeDiff, List.not_mem_nil, false_implies, implies_true, true_and, and_true, forall_const, Nat.succ_ne_self, Bool.false_eq_true, Bool.true_and, Bool.and_true, eq_self, ne_eq, not_true_eq_false, not_false_eq_true, or_true, true_or, and_self, imp_self, bne_self_eq_false, beq_self_eq_true, Bool.or_false, Bool.false_or, Bool.and_false, Bool.false_and, false_or, or_false, Nat.reduceAdd, Nat.reduceMul, beq_true, beq_false, Name.mk.injEq, decide_true, decide_false, Bool.or_true, Bool.true_or, Bool.or_self, Bool.not_eq_true', Bool.not_true, Bool.not_false, Bool.true_eq_false, Bool.cond_true_left, Bool.cond_false_right, Nat.zero_add, Int.reduceLE, Int.reduceLT, Int.reduceNeg, Int.reduceAdd, Int.reduceToNat, List.range_succ, List.range_zero, Int.toNat_natCast, List.mem_nil_iff, List.mem_append, E_rmvalid_eq, E_rbvalid_eq, E_rsat_eq, Try.ntmps17, Try.results17, tt_1, tt_2, tt_3, tt_4, tt_5, tt_6, tt_7, tt_8, tt_12, tt_15, tt_16, tt_17, tt_18, tt_19, tt_21, tt_22, tt_23, tt_24, tt_25, tt_26, tt_27, tt_28, tt_29, tt_30, tt_31, tt_32, tt_33, tt_34, tt_35, tt_36, tt_37, tt_38, tt_39, tt_41, tt_42, tt_44, tt_45, tt_46, tt_47, tt_48, tt_49, tt_50, tt_51, tt_52, tt_53, tt_54, tt_55, tt_56, tt_57, tt_58, tt_59, tt_60, tt_61, tt_62, tt_63, tt_64, tt_65, tt_66, tt_67, tt_68, tt_69, tt_70, tt_71, tt_72, tt_73, tt_74, tt_75, tt_78, tt_79, tt_80, tt_81, tt_82, tt_83, tt_84, tt_85, tt_86, tt_87, tt_88, tt_89, tt_90, tt_91]
  refine ⟨hml, fun _ => hl, fun h => ?_, fun h => ?_⟩
  · have e := apE_one h
    simp [apC, apO, e, LI_nil]
  refine ⟨fun h2 => ?_, fun h2 => ?_⟩
  · have e := apE_eleven h (show c ≠ a by simpa using h2)
    simp [apC, apO, e, LI_nil]
  have hv : mxV a b m = true := by simp at h; exact h.1
  have hb : blkV c l = true := by simp at h; exact h.2
  have hca : c = a := by simpa using h2
  have hE := apE_ok hv hb hca
  obtain ⟨ha, hbb, hm, hmc⟩ := mxV_in hv
  obtain ⟨hc0, hsm⟩ := blkV_in hb
  obtain ⟨k1, k2, k3⟩ := chBk_in hc0
  rw [hca] at k3
  have hC : apC a b m c l = b := by simp [apC, hE]
  have hO : apO a b m c l = apL a.toNat b.toNat m l (l.length / a.toNat * b.toNat) := by simp [apO, hE]
  rw [hC, hO, hE]
  have hAa : ((a.toNat : Nat) : Int) = a := by omega
  have hBb : ((b.toNat : Nat) : Int) = b := by omega
  have hA8 : 1 ≤ a.toNat ∧ a.toNat ≤ 8 := by omega
  have hB8 : 1 ≤ b.toNat ∧ b.toNat ≤ 8 := by omega
  generalize hA : a.toNat = A at *
  generalize hB : b.toNat = B at *
  have hz : l.length / A ≤ l.length := Nat.div_le_self ..
  generalize l.length / A = z at *
  refine ELoop_nilB ⟨1, 6⟩ 1 1 ⟨1, 99⟩ rfl rfl (by simp only [↓gPre, gPost, handV, V.bufs, buildArr, toCs, List.set_cons_succ, List.set_cons_zero, List.foldr_cons, List.foldr_nil, List.append_eq, Nat.reduceShiftRight, Nat.reduceMod, List.mem_cons, addB, addK, zeroOp, callSem, resName, keepsB, newB, V.pure, C.pure, V.ptrs, C.ptrs, C.bufs, appendSem, dstOk, lk, V.cells, Op.eff, partV, partD, cut, lay, zeroD, C.toDs, C.toD, V.toD, toDs, buildCells, List.flatMap_nil, List.flatMap_cons, List.all_nil, List.all_cons, List.map_nil, List.map_cons, List.zip_cons_cons, List.zip_nil_left, List.nil_append, List.append_nil, List.cons_append, List.drop_zero, List.drop_succ_cons, List.take_succ_cons, List.take_zero, List.length_cons, List.length_nil, List.getElem?_cons_succ, List.getElem?_cons_zero, Option.getD_some, Option.getD_none, Option.map_some, Option.map_none, Option.some.injEq, Option.isSome_none, Option.isSome_some, Option.toList_some, Option.toList_none, if_true, if_false, ↓reduceIte, reduceCtorEq, Nat.reduceEqDiff, Nat.reduceLT, Nat.reduceLeDiff, List.not_mem_nil, false_implies, implies_true, true_and, and_true, forall_const, Nat.succ_ne_self, Bool.false_eq_true, Bool.true_and, Bool.and_true, eq_self, ne_eq, not_true_eq_false, not_false_eq_true, or_true, true_or, and_self, imp_self, bne_self_eq_false, beq_self_eq_true, Bool.or_false, Bool.false_or, Bool.and_false, Bool.false_and, false_or, or_false, Nat.reduceAdd, Nat.reduceMul, beq_true, beq_false, Name.mk.injEq, decide_true, decide_false, Bool.or_true, Bool.true_or, Bool.or_self, Bool.not_eq_true', Bool.not_true, Bool.not_false, Bool.true_eq_false, Bool.cond_true_left, Bool.cond_false_right, Nat.zero_add, Int.reduceLE, Int.reduceLT, Int.reduceNeg, Int.reduceAdd, Int.reduceToNat, List.range_succ, List.range_zero, Int.toNat_natCast, List.mem_nil_iff, List.mem_append, E_rmvalid_eq, E_rbvalid_eq, E_rsat_eq, Try.ntmps17, Try.results17, tt_1, tt_2, tt_3, tt_4, tt_5, tt_6, tt_7, tt_8, tt_12, tt_15, tt_16, tt_17, tt_18, tt_19, tt_21, tt_22, tt_23, tt_24, tt_25, tt_26, tt_27, tt_28, tt_29, tt_30, tt_31, tt_32, tt_33, tt_34, tt_35, tt_36, tt_37, tt_38, tt_39, tt_41, tt_42, tt_44, tt_45, tt_46, tt_47, tt_48, tt_49, tt_50, tt_51, tt_52, tt_53, tt_54, tt_55, tt_56, tt_57, tt_58, tt_59, tt_60, tt_61, tt_62, tt_63, tt_64, tt_65, tt_66, tt_67, tt_68, tt_69, tt_70, tt_71, tt_72, tt_73, tt_74, tt_75, tt_78, tt_79, tt_80, tt_81, tt_82, tt_83, tt_84, tt_85, tt_86, tt_87, tt_88, tt_89, tt_90, tt_91]) (Nat.le_refl _) ?_
  simp only [↓gPre, gPost, handV, V.bufs, buildArr, toCs, List.set_cons_succ, List.set_cons_zero, List.foldr_cons, List.foldr_nil, List.append_eq, Nat.reduceShiftRight, Nat.reduceMod, List.mem_cons, addB, addK, zeroOp, callSem, resName, keepsB, newB, V.pure, C.pure, V.ptrs, C.ptrs, C.bufs, appendSem, dstOk, lk, V.cells, Op.eff, partV, partD, cut, lay, zeroD, C.toDs, C.toD, V.toD, toDs, buildCells, List.flatMap_nil, List.flatMap_cons, List.all_nil, List.all_cons, List.map_nil, List.map_cons, List.zip_cons_cons, List.zip_nil_left, List.nil_append, List.append_nil, List.cons_append, List.drop_zero, List.drop_succ_cons, List.take_succ_cons, List.take_zero, List.length_cons, List.length_nil, List.getElem?_cons_succ, List.getElem?_cons_zero, Option.getD_some, Option.getD_none, Option.map_some, Option.map_none, Option.some.injEq, Option.isSome_none, Option.isSome_some, Option.toList_some, Option.toList_none, if_true, if_false, ↓reduceIte, reduceCtorEq, Nat.reduceEqDiff, Nat.reduceLT, Nat.reduceLeDiff, List.not_mem_nil, false_implies, implies_true, true_and, and_true, forall_const, Nat.succ_ne_self, Bool.false_eq_true, Bool.true_and, Bool.and_true, eq_self, ne_eq, not_true_eq_false, not_false_eq_true, or_true, true_or, and_self, imp_self, bne_self_eq_false, beq_self_eq_true, Bool.or_false, Bool.false_or, Bool.and_false, Bool.false_and, false_or, or_false, Nat.reduceAdd, Nat.reduceMul, beq_true, beq_false, Name.mk.injEq, decide_true, decide_false, Bool.or_true, Bool.true_or, Bool.or_self, Bool.not_eq_true', Bool.not_true, Bool.not_false, Bool.true_eq_false, Bool.cond_true_left, Bool.cond_false_right, Nat.zero_add, Int.reduceLE, Int.reduceLT, Int.reduceNeg, Int.reduceAdd, Int.reduceToNat, List.range_succ, List.range_zero, Int.toNat_natCast, List.mem_nil_iff, List.mem_append, E_rmvalid_eq, E_rbvalid_eq, E_rsat_eq, Try.ntmps17, Try.results17, tt_1, tt_2, tt_3, tt_4, tt_5, tt_6, tt_7, tt_8, tt_12, tt_15, tt_16, tt_17, tt_18, tt_19, tt_21, tt_22, tt_23, tt_24, tt_25, tt_26, tt_27, tt_28, tt_29, tt_30, tt_31, tt_32, tt_33, tt_34, tt_35, tt_36, tt_37, tt_38, tt_39, tt_41, tt_42, tt_44, tt_45, tt_46, tt_47, tt_48, tt_49, tt_50, tt_51, tt_52, tt_53, tt_54, tt_55, tt_56, tt_57, tt_58, tt_59, tt_60, tt_61, tt_62, tt_63, tt_64, tt_65, tt_66, tt_67, tt_68, tt_69, tt_70, tt_71, tt_72, tt_73, tt_74, tt_75, tt_78, tt_79, tt_80, tt_81, tt_82, tt_83, tt_84, tt_85, tt_86, tt_87, tt_88, tt_89, tt_90, tt_91]
  refine ELoop_keep (fun q => ⟨[(7, vI .i64 ((q * A : Nat) : Int))], [(⟨1, 6⟩, [.d (.int .i64 b), .own ⟨1, 99⟩ (LI .i32 (apL A B m l (q * B)))])], [(⟨1, 99⟩, ⟨false, 1, LI .i32 (apL A B m l (q * B))⟩)]⟩) (fun q => q ≤ z) (fun q => z - q) (· + 1) 0 (Nat.zero_le _) ?_ ?_
  · simp only [↓gPre, gPost, handV, V.bufs, buildArr, toCs, List.set_cons_succ, List.set_cons_zero, List.foldr_cons, List.foldr_nil, List.append_eq, Nat.reduceShiftRight, Nat.reduceMod, List.mem_cons, addB, addK, zeroOp, callSem, resName, keepsB, newB, V.pure, C.pure, V.ptrs, C.ptrs, C.bufs, appendSem, dstOk, lk, V.cells, Op.eff, partV, partD, cut, lay, zeroD, C.toDs, C.toD, V.toD, toDs, buildCells, List.flatMap_nil, List.flatMap_cons, List.all_nil, List.all_cons, List.map_nil, List.map_cons, List.zip_cons_cons, List.zip_nil_left, List.nil_append, List.append_nil, List.cons_append, List.drop_zero, List.drop_succ_cons, List.take_succ_cons, List.take_zero, List.length_cons, List.length_nil, List.getElem?_cons_succ, List.getElem?_cons_zero, Option.getD_some, Option.getD_none, Option.map_some, Option.map_none, Option.some.injEq, Option.isSome_none, Option.isSome_some, Option.toList_some, Option.toList_none, if_true, if_false, ↓reduceIte, reduceCtorEq, Nat.reduceEqDiff, Nat.reduceLT, Nat.reduceLeDiff, List.not_mem_nil, false_implies, implies_true, true_and, and_true, forall_const, Nat.succ_ne_self, Bool.false_eq_true, Bool.true_and, Bool.and_true, eq_self, ne_eq, not_true_eq_false, not_false_eq_true, or_true, true_or, and_self, imp_self, bne_self_eq_false, beq_self_eq_true, Bool.or_false, Bool.false_or, Bool.and_false, Bool.false_and, false_or, or_false, Nat.reduceAdd, Nat.reduceMul, beq_true, beq_false, Name.mk.injEq, decide_true, decide_false, Bool.or_true, Bool.true_or, Bool.or_self, Bool.not_eq_true', Bool.not_true, Bool.not_false, Bool.true_eq_false, Bool.cond_true_left, Bool.cond_false_right, Nat.zero_add, Int.reduceLE, Int.reduceLT, Int.reduceNeg, Int.reduceAdd, Int.reduceToNat, List.range_succ, List.range_zero, Int.toNat_natCast, List.mem_nil_iff, List.mem_append, E_rmvalid_eq, E_rbvalid_eq, E_rsat_eq, Try.ntmps17, Try.results17, tt_1, tt_2, tt_3, tt_4, tt_5, tt_6, tt_7, tt_8, tt_12, tt_15, tt_16, tt_17, tt_18, tt_19, tt_21, tt_22, tt_23, tt_24, tt_25, tt_26, tt_27, tt_28, tt_29, tt_30, tt_31, tt_32, tt_33, tt_34, tt_35, tt_36, tt_37, tt_38, tt_39, tt_41, tt_42, tt_44, tt_45, tt_46, tt_47, tt_48, tt_49, tt_50, tt_51, tt_52, tt_53, tt_54, tt_55, tt_56, tt_57, tt_58, tt_59, tt_60, tt_61, tt_62, tt_63, tt_64, tt_65, tt_66, tt_67, tt_68, tt_69, tt_70, tt_71, tt_72, tt_73, tt_74, tt_75, tt_78, tt_79, tt_80, tt_81, tt_82, tt_83, tt_84, tt_85, tt_86, tt_87, tt_88, tt_89, tt_90, tt_91]
    simp [apL, LI_nil]
  intro q hq
  simp only [↓gPre, gPost, handV, V.bufs, buildArr, toCs, List.set_cons_succ, List.set_cons_zero, List.foldr_cons, List.foldr_nil, List.append_eq, Nat.reduceShiftRight, Nat.reduceMod, List.mem_cons, addB, addK, zeroOp, callSem, resName, keepsB, newB, V.pure, C.pure, V.ptrs, C.ptrs, C.bufs, appendSem, dstOk, lk, V.cells, Op.eff, partV, partD, cut, lay, zeroD, C.toDs, C.toD, V.toD, toDs, buildCells, List.flatMap_nil, List.flatMap_cons, List.all_nil, List.all_cons, List.map_nil, List.map_cons, List.zip_cons_cons, List.zip_nil_left, List.nil_append, List.append_nil, List.cons_append, List.drop_zero, List.drop_succ_cons, List.take_succ_cons, List.take_zero, List.length_cons, List.length_nil, List.getElem?_cons_succ, List.getElem?_cons_zero, Option.getD_some, Option.getD_none, Option.map_some, Option.map_none, Option.some.injEq, Option.isSome_none, Option.isSome_some, Option.toList_some, Option.toList_none, if_true, if_false, ↓reduceIte, reduceCtorEq, Nat.reduceEqDiff, Nat.reduceLT, Nat.reduceLeDiff, List.not_mem_nil, false_implies, implies_true, true_and, and_true, forall_const, Nat.succ_ne_self, Bool.false_eq_true, Bool.true_and, Bool.and_true, eq_self, ne_eq, not_true_eq_false, not_false_eq_true, or_true, true_or, and_self, imp_self, bne_self_eq_false, beq_self_eq_true, Bool.or_false, Bool.false_or, Bool.and_false, Bool.false_and, false_or, or_false, Nat.reduceAdd, Nat.reduceMul, beq_true, beq_false, Name.mk.injEq, decide_true, decide_false, Bool.or_true, Bool.true_or, Bool.or_self, Bool.not_eq_true', Bool.not_true, Bool.not_false, Bool.true_eq_false, Bool.cond_true_left, Bool.cond_false_right, Nat.zero_add, Int.reduceLE, Int.reduceLT, Int.reduceNeg, Int.reduceAdd, Int.reduceToNat, List.range_succ, List.range_zero, Int.toNat_natCast, List.mem_nil_iff, List.mem_append, E_rmvalid_eq, E_rbvalid_eq, E_rsat_eq, Try.ntmps17, Try.results17, tt_1, tt_2, tt_3, tt_4, tt_5, tt_6, tt_7, tt_8, tt_12, tt_15, tt_16, tt_17, tt_18, tt_19, tt_21, tt_22, tt_23, tt_24, tt_25, tt_26, tt_27, tt_28, tt_29, tt_30, tt_31, tt_32, tt_33, tt_34, tt_35, tt_36, tt_37, tt_38, tt_39, tt_41, tt_42, tt_44, tt_45, tt_46, tt_47, tt_48, tt_49, tt_50, tt_51, tt_52, tt_53, tt_54, tt_55, tt_56, tt_57, tt_58, tt_59, tt_60, tt_61, tt_62, tt_63, tt_64, tt_65, tt_66, tt_67, tt_68, tt_69, tt_70, tt_71, tt_72, tt_73, tt_74, tt_75, tt_78, tt_79, tt_80, tt_81, tt_82, tt_83, tt_84, tt_85, tt_86, tt_87, tt_88, tt_89, tt_90, tt_91]
  refine ⟨fun h3 => ?_, fun h3 => ?_⟩
  · have h3' := of_decide_eq_true h3
    have hqz : q < z := by
      rcases Nat.lt_or_ge q z with h | h
      · exact h
      · have := Nat.mul_le_mul_right A h
        omega
    have hle := Nat.mul_le_mul_right A (show q + 1 ≤ z from hqz)
    have hqs : (q + 1) * A = q * A + A := by rw [Nat.add_mul, Nat.one_mul]
    have hqb : (q + 1) * B = q * B + B := by rw [Nat.add_mul, Nat.one_mul]
    have hqB : q * B ≤ 8 * z := by
      have := Nat.mul_le_mul (show q ≤ z by omega) hB8.2
      omega
    refine ELoop_keep (fun r => ⟨[(8, vI .i64 (r : Nat))], [(⟨1, 6⟩, [.d (.int .i64 b), .own ⟨1, 99⟩ (LI .i32 (apL A B m l (q * B + r)))])], [(⟨1, 99⟩, ⟨false, 1, LI .i32 (apL A B m l (q * B + r))⟩)]⟩) (fun r => r ≤ B) (fun r => B - r) (· + 1) 0 (Nat.zero_le _) ?_ ?_
    · simp only [↓gPre, gPost, handV, V.bufs, buildArr, toCs, List.set_cons_succ, List.set_cons_zero, List.foldr_cons, List.foldr_nil, List.append_eq, Nat.reduceShiftRight, Nat.reduceMod, List.mem_cons, addB, addK, zeroOp, callSem, resName, keepsB, newB, V.pure, C.pure, V.ptrs, C.ptrs, C.bufs, appendSem, dstOk, lk, V.cells, Op.eff, partV, partD, cut, lay, zeroD, C.toDs, C.toD, V.toD, toDs, buildCells, List.flatMap_nil, List.flatMap_cons, List.all_nil, List.all_cons, List.map_nil, List.map_cons, List.zip_cons_cons, List.zip_nil_left, List.nil_append, List.append_nil, List.cons_append, List.drop_zero, List.drop_succ_cons, List.take_succ_cons, List.take_zero, List.length_cons, List.length_nil, List.getElem?_cons_succ, List.getElem?_cons_zero, Option.getD_some, Option.getD_none, Option.map_some, Option.map_none, Option.some.injEq, Option.isSome_none, Option.isSome_some, Option.toList_some, Option.toList_none, if_true, if_false, ↓reduceIte, reduceCtorEq, Nat.reduceEqDiff, Nat.reduceLT, Nat.reduceLeDiff, List.not_mem_nil, false_implies, implies_true, true_and, and_true, forall_const, Nat.succ_ne_self, Bool.false_eq_true, Bool.true_and, Bool.and_true, eq_self, ne_eq, not_true_eq_false, not_false_eq_true, or_true, true_or, and_self, imp_self, bne_self_eq_false, beq_self_eq_true, Bool.or_false, Bool.false_or, Bool.and_false, Bool.false_and, false_or, or_false, Nat.reduceAdd, Nat.reduceMul, beq_true, beq_false, Name.mk.injEq, decide_true, decide_false, Bool.or_true, Bool.true_or, Bool.or_self, Bool.not_eq_true', Bool.not_true, Bool.not_false, Bool.true_eq_false, Bool.cond_true_left, Bool.cond_false_right, Nat.zero_add, Int.reduceLE, Int.reduceLT, Int.reduceNeg, Int.reduceAdd, Int.reduceToNat, List.range_succ, List.range_zero, Int.toNat_natCast, List.mem_nil_iff, List.mem_append, E_rmvalid_eq, E_rbvalid_eq, E_rsat_eq, Try.ntmps17, Try.results17, tt_1, tt_2, tt_3, tt_4, tt_5, tt_6, tt_7, tt_8, tt_12, tt_15, tt_16, tt_17, tt_18, tt_19, tt_21, tt_22, tt_23, tt_24, tt_25, tt_26, tt_27, tt_28, tt_29, tt_30, tt_31, tt_32, tt_33, tt_34, tt_35, tt_36, tt_37, tt_38, tt_39, tt_41, tt_42, tt_44, tt_45, tt_46, tt_47, tt_48, tt_49, tt_50, tt_51, tt_52, tt_53, tt_54, tt_55, tt_56, tt_57, tt_58, tt_59, tt_60, tt_61, tt_62, tt_63, tt_64, tt_65, tt_66, tt_67, tt_68, tt_69, tt_70, tt_71, tt_72, tt_73, tt_74, tt_75, tt_78, tt_79, tt_80, tt_81, tt_82, tt_83, tt_84, tt_85, tt_86, tt_87, tt_88, tt_89, tt_90, tt_91]
      exact ⟨rfl, rfl, rfl⟩
    intro r hr
    simp only [↓gPre, gPost, handV, V.bufs, buildArr, toCs, List.set_cons_succ, List.set_cons_zero, List.foldr_cons, List.foldr_nil, List.append_eq, Nat.reduceShiftRight, Nat.reduceMod, List.mem_cons, addB, addK, zeroOp, callSem, resName, keepsB, newB, V.pure, C.pure, V.ptrs, C.ptrs, C.bufs, appendSem, dstOk, lk, V.cells, Op.eff, partV, partD, cut, lay, zeroD, C.toDs, C.toD, V.toD, toDs, buildCells, List.flatMap_nil, List.flatMap_cons, List.all_nil, List.all_cons, List.map_nil, List.map_cons, List.zip_cons_cons, List.zip_nil_left, List.nil_append, List.append_nil, List.cons_append, List.drop_zero, List.drop_succ_cons, List.take_succ_cons, List.take_zero, List.length_cons, List.length_nil, List.getElem?_cons_succ, List.getElem?_cons_zero, Option.getD_some, Option.getD_none, Option.map_some, Option.map_none, Option.some.injEq, Option.isSome_none, Option.isSome_some, Option.toList_some, Option.toList_none, if_true, if_false, ↓reduceIte, reduceCtorEq, Nat.reduceEqDiff, Nat.reduceLT, Nat.reduceLeDiff, List.not_mem_nil, false_implies, implies_true, true_and, and_true, forall_const, Nat.succ_ne_self, Bool.false_eq_true, Bool.true_and, Bool.and_true, eq_self, ne_eq, not_true_eq_false, not_false_eq_true, or_true, true_or, and_self, imp_self, bne_self_eq_false, beq_self_eq_true, Bool.or_false, Bool.false_or, Bool.and_false, Bool.false_and, false_or, or_false, Nat.reduceAdd, Nat.reduceMul, beq_true, beq_false, Name.mk.injEq, decide_true, decide_false, Bool.or_true, Bool.true_or, Bool.or_self, Bool.not_eq_true', Bool.not_true, Bool.not_false, Bool.true_eq_false, Bool.cond_true_left, Bool.cond_false_right, Nat.zero_add, Int.reduceLE, Int.reduceLT, Int.reduceNeg, Int.reduceAdd, Int.reduceToNat, List.range_succ, List.range_zero, Int.toNat_natCast, List.mem_nil_iff, List.mem_append, E_rmvalid_eq, E_rbvalid_eq, E_rsat_eq, Try.ntmps17, Try.results17, tt_1, tt_2, tt_3, tt_4, tt_5, tt_6, tt_7, tt_8, tt_12, tt_15, tt_16, tt_17, tt_18, tt_19, tt_21, tt_22, tt_23, tt_24, tt_25, tt_26, tt_27, tt_28, tt_29, tt_30, tt_31, tt_32, tt_33, tt_34, tt_35, tt_36, tt_37, tt_38, tt_39, tt_41, tt_42, tt_44, tt_45, tt_46, tt_47, tt_48, tt_49, tt_50, tt_51, tt_52, tt_53, tt_54, tt_55, tt_56, tt_57, tt_58, tt_59, tt_60, tt_61, tt_62, tt_63, tt_64, tt_65, tt_66, tt_67, tt_68, tt_69, tt_70, tt_71, tt_72, tt_73, tt_74, tt_75, tt_78, tt_79, tt_80, tt_81, tt_82, tt_83, tt_84, tt_85, tt_86, tt_87, tt_88, tt_89, tt_90, tt_91]
    refine ⟨fun h4 => ?_, fun h4 => ?_⟩
    · have hrB : r < B := by have := of_decide_eq_true h4; omega
      have hr1 : (r + 1) * A ≤ B * A := Nat.mul_le_mul_right _ hrB
      have hrA : (r + 1) * A = r * A + A := by rw [Nat.add_mul, Nat.one_mul]
      have hmB : m.length = B * A := by rw [hm, Nat.mul_comm]
      have hra : IntKind.i64.wrap ((r : Int) * a) = ((r * A : Nat) : Int) := by
        have h64 : r * A ≤ 8 * 8 := Nat.mul_le_mul (by omega) hA8.2
        have : (r : Int) * a = ((r * A : Nat) : Int) := by rw [Int.natCast_mul, hAa]
        rw [this, IntWalk.i64_in _ (by omega)]
      have hdn := dotN_in (f := fun c => atL m (r * A + c)) (g := fun c => atL l (q * A + c)) (fun i => getC hmc _) (fun i => by have := getS hsm (q * A + i); unfold atL; omega)
      have hav := apV_at (a := A) (b := B) (q := q) (r := r) (m := m) (l := l) hrB
      have hsuc := apL_succ A B m l (q * B + r)
      have hlen := apL_len A B m l (q * B + r)
      refine ELoop_keep (fun n => ⟨[(10, vI .i64 (n : Nat)), (9, vI .i64 (16384 + dotN (fun c => atL m (r * A + c)) (fun c => atL l (q * A + c)) n))], [], []⟩) (fun n => n ≤ A) (fun n => A - n) (· + 1) 0 (Nat.zero_le _) ?_ ?_
      · simp only [↓gPre, gPost, handV, V.bufs, buildArr, toCs, List.set_cons_succ, List.set_cons_zero, List.foldr_cons, List.foldr_nil, List.append_eq, Nat.reduceShiftRight, Nat.reduceMod, List.mem_cons, addB, addK, zeroOp, callSem, resName, keepsB, newB, V.pure, C.pure, V.ptrs, C.ptrs, C.bufs, appendSem, dstOk, lk, V.cells, Op.eff, partV, partD, cut, lay, zeroD, C.toDs, C.toD, V.toD, toDs, buildCells, List.flatMap_nil, List.flatMap_cons, List.all_nil, List.all_cons, List.map_nil, List.map_cons, List.zip_cons_cons, List.zip_nil_left, List.nil_append, List.append_nil, List.cons_append, List.drop_zero, List.drop_succ_cons, List.take_succ_cons, List.take_zero, List.length_cons, List.length_nil, List.getElem?_cons_succ, List.getElem?_cons_zero, Option.getD_some, Option.getD_none, Option.map_some, Option.map_none, Option.some.injEq, Option.isSome_none, Option.isSome_some, Option.toList_some, Option.toList_none, if_true, if_false, ↓reduceIte, reduceCtorEq, Nat.reduceEqDiff, Nat.reduceLT, Nat.reduceLeDiff, List.not_mem_nil, false_implies, implies_true, true_and, and_true, forall_const, Nat.succ_ne_self, Bool.false_eq_true, Bool.true_and, Bool.and_true, eq_self, ne_eq, not_true_eq_false, not_false_eq_true, or_true, true_or, and_self, imp_self, bne_self_eq_false, beq_self_eq_true, Bool.or_false, Bool.false_or, Bool.and_false, Bool.false_and, false_or, or_false, Nat.reduceAdd, Nat.reduceMul, beq_true, beq_false, Name.mk.injEq, decide_true, decide_false, Bool.or_true, Bool.true_or, Bool.or_self, Bool.not_eq_true', Bool.not_true, Bool.not_false, Bool.true_eq_false, Bool.cond_true_left, Bool.cond_false_right, Nat.zero_add, Int.reduceLE, Int.reduceLT, Int.reduceNeg, Int.reduceAdd, Int.reduceToNat, List.range_succ, List.range_zero, Int.toNat_natCast, List.mem_nil_iff, List.mem_append, E_rmvalid_eq, E_rbvalid_eq, E_rsat_eq, Try.ntmps17, Try.results17, tt_1, tt_2, tt_3, tt_4, tt_5, tt_6, tt_7, tt_8, tt_12, tt_15, tt_16, tt_17, tt_18, tt_19, tt_21, tt_22, tt_23, tt_24, tt_25, tt_26, tt_27, tt_28, tt_29, tt_30, tt_31, tt_32, tt_33, tt_34, tt_35, tt_36, tt_37, tt_38, tt_39, tt_41, tt_42, tt_44, tt_45, tt_46, tt_47, tt_48, tt_49, tt_50, tt_51, tt_52, tt_53, tt_54, tt_55, tt_56, tt_57, tt_58, tt_59, tt_60, tt_61, tt_62, tt_63, tt_64, tt_65, tt_66, tt_67, tt_68, tt_69, tt_70, tt_71, tt_72, tt_73, tt_74, tt_75, tt_78, tt_79, tt_80, tt_81, tt_82, tt_83, tt_84, tt_85, tt_86, tt_87, tt_88, tt_89, tt_90, tt_91]
        exact ⟨rfl, rfl⟩
      intro n hn
      simp only [↓gPre, gPost, handV, V.bufs, buildArr, toCs, List.set_cons_succ, List.set_cons_zero, List.foldr_cons, List.foldr_nil, List.append_eq, Nat.reduceShiftRight, Nat.reduceMod, List.mem_cons, addB, addK, zeroOp, callSem, resName, keepsB, newB, V.pure, C.pure, V.ptrs, C.ptrs, C.bufs, appendSem, dstOk, lk, V.cells, Op.eff, partV, partD, cut, lay, zeroD, C.toDs, C.toD, V.toD, toDs, buildCells, List.flatMap_nil, List.flatMap_cons, List.all_nil, List.all_cons, List.map_nil, List.map_cons, List.zip_cons_cons, List.zip_nil_left, List.nil_append, List.append_nil, List.cons_append, List.drop_zero, List.drop_succ_cons, List.take_succ_cons, List.take_zero, List.length_cons, List.length_nil, List.getElem?_cons_succ, List.getElem?_cons_zero, Option.getD_some, Option.getD_none, Option.map_some, Option.map_none, Option.some.injEq, Option.isSome_none, Option.isSome_some, Option.toList_some, Option.toList_none, if_true, if_false, ↓reduceIte, reduceCtorEq, Nat.reduceEqDiff, Nat.reduceLT, Nat.reduceLeDiff, List.not_mem_nil, false_implies, implies_true, true_and, and_true, forall_const, Nat.succ_ne_self, Bool.false_eq_true, Bool.true_and, Bool.and_true, eq_self, ne_eq, not_true_eq_false, not_false_eq_true, or_true, true_or, and_self, imp_self, bne_self_eq_false, beq_self_eq_true, Bool.or_false, Bool.false_or, Bool.and_false, Bool.false_and, false_or, or_false, Nat.reduceAdd, Nat.reduceMul, beq_true, beq_false, Name.mk.injEq, decide_true, decide_false, Bool.or_true, Bool.true_or, Bool.or_self, Bool.not_eq_true', Bool.not_true, Bool.not_false, Bool.true_eq_false, Bool.cond_true_left, Bool.cond_false_right, Nat.zero_add, Int.reduceLE, Int.reduceLT, Int.reduceNeg, Int.reduceAdd, Int.reduceToNat, List.range_succ, List.range_zero, Int.toNat_natCast, List.mem_nil_iff, List.mem_append, E_rmvalid_eq, E_rbvalid_eq, E_rsat_eq, Try.ntmps17, Try.results17, tt_1, tt_2, tt_3, tt_4, tt_5, tt_6, tt_7, tt_8, tt_12, tt_15, tt_16, tt_17, tt_18, tt_19, tt_21, tt_22, tt_23, tt_24, tt_25, tt_26, tt_27, tt_28, tt_29, tt_30, tt_31, tt_32, tt_33, tt_34, tt_35, tt_36, tt_37, tt_38, tt_39, tt_41, tt_42, tt_44, tt_45, tt_46, tt_47, tt_48, tt_49, tt_50, tt_51, tt_52, tt_53, tt_54, tt_55, tt_56, tt_57, tt_58, tt_59, tt_60, tt_61, tt_62, tt_63, tt_64, tt_65, tt_66, tt_67, tt_68, tt_69, tt_70, tt_71, tt_72, tt_73, tt_74, tt_75, tt_78, tt_79, tt_80, tt_81, tt_82, tt_83, tt_84, tt_85, tt_86, tt_87, tt_88, tt_89, tt_90, tt_91]
      have hd := hdn n
      have hd2 := hdn (n + 1)
      refine ⟨fun h5 => ?_, fun h5 => ?_⟩
      · have hnA : n < A := by have := of_decide_eq_true h5; omega
        refine ⟨by kernel_rfl, ?_⟩
        rw [hra, IntWalk.i64_in (((r * A : Nat) : Int) + (n : Int)) (by omega), IntWalk.i64_in (((q * A : Nat) : Int) + (n : Int)) (by omega)]
        have t1 : (((r * A : Nat) : Int) + (n : Int)).toNat = r * A + n := by omega
        have t2 : (((q * A : Nat) : Int) + (n : Int)).toNat = q * A + n := by omega
        have b1 := getC hmc (r * A + n)
        have b2 := getS hsm (q * A + n)
        have g1 : m[r * A + n]?.getD 0 = atL m (r * A + n) := rfl
        have g2 : l[q * A + n]?.getD 0 = atL l (q * A + n) := rfl
        have hsd : dotN (fun c => atL m (r * A + c)) (fun c => atL l (q * A + c)) (n + 1) = dotN (fun c => atL m (r * A + c)) (fun c => atL l (q * A + c)) n + atL m (r * A + n) * atL l (q * A + n) := rfl
        have b3 : -1099511627776 ≤ atL m (r * A + n) * atL l (q * A + n) ∧ atL m (r * A + n) * atL l (q * A + n) ≤ 1099511627776 := by
          have k := dotN_in (f := fun _ => atL m (r * A + n)) (g := fun _ => atL l (q * A + n)) (fun _ => b1) (fun _ => by unfold atL; omega) 1
          simp [dotN] at k
          omega
        rw [t1, t2, g1, g2, hsd]
        rw [g1] at b1
        rw [g2] at b2
        generalize dotN (fun c => atL m (r * A + c)) (fun c => atL l (q * A + c)) n = dd at *
        rw [IntWalk.i64_in (atL l (q * A + n)) (by omega), IntWalk.i64_in (atL m (r * A + n) * atL l (q * A + n)) (by omega), IntWalk.i64_in (16384 + dd + _) (by omega)]
        exact ⟨by omega, by omega, ⟨(wrapN _ (by omega)).symm, by omega⟩, by omega, by omega⟩
      · have hnA : n = A := by have := of_decide_eq_false h5; omega
        subst hnA
        generalize hdd : dotN (fun c => atL m (r * n + c)) (fun c => atL l (q * n + c)) n = dd at *
        rw [Int.add_comm dd 16384] at hav
        rw [shr15, ← hav]
        have hs3 : q * B + (r + 1) = q * B + r + 1 := rfl
        rw [hs3, hsuc]
        refine ⟨by kernel_rfl, by unfold roomOK; omega, ⟨(wrapN _ (by omega)).symm, rfl, rfl⟩, by omega, by omega⟩
    · have hrB : r = B := by have := of_decide_eq_false h4; omega
      rw [hrB, hqb, hqs]
      exact ⟨⟨by rw [IntWalk.i64_in _ (by omega)]; omega, rfl, rfl⟩, by omega, by omega⟩
  · have hqz : q = z := by
      have h3' := of_decide_eq_false h3
      rcases Nat.lt_or_ge q z with h | h
      · have := Nat.mul_lt_mul_of_pos_right h (show 0 < A by omega)
        omega
      · omega
    rw [hqz]
def E_rapply : List V → Boxes → Toks → Name → Option Ent
  | [.agg [.d (.int .i64 a), .d (.int .i64 b), .d (.list q_m)], .agg [.d (.int .i64 c), .d (.list q_l)]], [], [], _ => some ⟨(ints q_m).length ≤ 1000000 ∧ (ints q_l).length ≤ 1000000 ∧ q_m = LI .i64 (ints q_m) ∧ q_l = LI .i32 (ints q_l), .tup [.agg [.int .i64 (apC a b (ints q_m) c (ints q_l)), .list (LI .i32 (apO a b (ints q_m) c (ints q_l)))], .int .i64 (apE a b (ints q_m) c (ints q_l))], [], []⟩
  | _, _, _, _ => none
theorem E_rapply_eq {a b : Int} {c : Int}  {q_m : List D} {q_l : List D} {nF : Name} : E_rapply [.agg [.d (.int .i64 a), .d (.int .i64 b), .d (.list q_m)], .agg [.d (.int .i64 c), .d (.list q_l)]] [] [] nF = some ⟨(ints q_m).length ≤ 1000000 ∧ (ints q_l).length ≤ 1000000 ∧ q_m = LI .i64 (ints q_m) ∧ q_l = LI .i32 (ints q_l), .tup [.agg [.int .i64 (apC a b (ints q_m) c (ints q_l)), .list (LI .i32 (apO a b (ints q_m) c (ints q_l)))], .int .i64 (apE a b (ints q_m) c (ints q_l))], [], []⟩ := Eq.trans rfl rfl
theorem E_rapply_ok : Snd Try.prog 17 E_rapply := by
  intro vs b k n e h hn hp
  unfold E_rapply at h
  split at h
  · cases h; obtain ⟨hp0, hp1, hq0, hq1⟩ := hp; obtain ⟨_, rfl⟩ := LI_ex hq0; obtain ⟨_, rfl⟩ := LI_ex hq1; simp only [ints_LI, bys_LB, blks_LK, lls_LL] at hp0 hp1 ⊢; exact (spec_rapply _ _ _ _ _ hp0 hp1).lift rfl _
  · cases h

def idB (n : Int) : Bool := decide (n < 1) || decide (8 < n)
def idL (n : Nat) : List Int := (List.range (n * n)).map fun j => if j / n = j % n then 32768 else 0
def idP (n g : Nat) : List Int := (List.range (n * n)).map fun j => if j / n = j % n ∧ j / n < g then 32768 else 0
def idN (n : Int) : Int := if idB n = true then 0 else n
def idO (n : Int) : List Int := if idB n = true then [] else idL n.toNat
def idE (n : Int) : Int := if idB n = true then 2 else 0
theorem idP_len (n g : Nat) : (idP n g).length = n * n := by simp [idP]
theorem idP_zero (n : Nat) : idP n 0 = List.replicate (n * n) 0 := by
  apply List.ext_getElem
  · simp [idP]
  · intro i h1 h2; simp [idP]
theorem idP_all (n : Nat) : idP n n = idL n := by
  apply List.map_congr_left
  intro j hj
  rw [List.mem_range] at hj
  have : j / n < n := Nat.div_lt_of_lt_mul hj
  simp [this]
theorem idP_succ {n g : Nat} (hg : g < n) : idP n (g + 1) = (idP n g).set (g * n + g) 32768 := by
  apply List.ext_getElem
  · simp [idP]
  · intro j h1 h2
    have hj : j < n * n := by simpa [idP] using h1
    simp only [idP, List.getElem_map, List.getElem_range, List.getElem_set]
    have hn : 0 < n := by omega
    by_cases e : g * n + g = j
    · subst e
      have e1 : (g * n + g) / n = g := by rw [Nat.add_comm, Nat.add_mul_div_right _ _ hn, Nat.div_eq_of_lt hg, Nat.zero_add]
      have e2 : (g * n + g) % n = g := by rw [Nat.add_comm, Nat.add_mul_mod_self_right, Nat.mod_eq_of_lt hg]
      rw [if_pos rfl, e1, e2, if_pos ⟨rfl, by omega⟩]
    · rw [if_neg e]
      by_cases h : j / n = j % n
      · have hne : j / n ≠ g := by
          intro hg2
          have := Nat.div_add_mod j n
          rw [hg2, Nat.mul_comm] at this
          omega
        by_cases h3 : j / n < g
        · rw [if_pos ⟨h, by omega⟩, if_pos ⟨h, h3⟩]
        · rw [if_neg (fun hh => by omega), if_neg (fun hh => h3 hh.2)]
      · rw [if_neg (fun hh => h hh.1), if_neg (fun hh => h hh.1)]

theorem spec_identity (n : Int) : Spec Try.prog 0 21 [vI .i64 n] [] [] (.tup [.agg [.int .i64 (idN n), .int .i64 (idN n), .list (LI .i64 (idO n))], .int .i64 (idE n)]) [] [] := by
  refine spec_of_E (X := ⟨Try.prog, tt, Try.f21.ntmps, 1, fun _ => 0, (tab [(39, E_empty), (34, E_rows)])⟩) (M := [(1000009, [3002])]) (m := 3936381) rfl rfl ⟨tt_ok, tab_ok (tabs_cons E_empty_ok (tabs_cons E_rows_ok tabs_nil)) _ rfl rfl⟩ tt_mixed Try.func21 rfl (by decide) (by show (1 : Nat) ≤ _; exact Nat.le_of_ble_eq_true rfl) ⟨by simp [V.has, C.has], by simp [C.has], by simp⟩ ?_
  simp only [↓gPre, gPost, handV, V.bufs, buildArr, toCs, List.set_cons_succ, List.set_cons_zero, List.foldr_cons, List.foldr_nil, List.append_eq, Nat.reduceShiftRight, Nat.reduceMod, List.mem_cons, addB, addK, zeroOp, callSem, resName, keepsB, newB, V.pure, C.pure, V.ptrs, C.ptrs, C.bufs, appendSem, dstOk, lk, V.cells, Op.eff, partV, partD, cut, lay, zeroD, C.toDs, C.toD, V.toD, toDs, buildCells, List.flatMap_nil, List.flatMap_cons, List.all_nil, List.all_cons, List.map_nil, List.map_cons, List.zip_cons_cons, List.zip_nil_left, List.nil_append, List.append_nil, List.cons_append, List.drop_zero, List.drop_succ_cons, List.take_succ_cons, List.take_zero, List.length_cons, List.length_nil, List.getElem?_cons_succ, List.getElem?_cons_zero, Option.getD_some, Option.getD_none, Option.map_some, Option.map_none, Option.some.injEq, Option.isSome_none, Option.isSome_some, Option.toList_some, Option.toList_none, if_true, if_false, ↓reduceIte, reduceCtorEq, Nat.reduceEqDiff, Nat.reduceLT, Nat.reduceLeDiff, List.not_mem_nil, false_implies, implies_true, true_and, and_true, forall_const, Nat.succ_ne_self, Bool.false_eq_true, Bool.true_and, Bool.and_true, eq_self, ne_eq, not_true_eq_false, not_false_eq_true, or_true, true_or, and_self, imp_self, bne_self_eq_false, beq_self_eq_true, Bool.or_false, Bool.false_or, Bool.and_false, Bool.false_and, false_or, or_false, Nat.reduceAdd, Nat.reduceMul, beq_true, beq_false, Name.mk.injEq, decide_true, decide_false, Bool.or_true, Bool.true_or, Bool.or_self, Bool.not_eq_true', Bool.not_true, Bool.not_false, Bool.true_eq_false, Bool.cond_true_left, Bool.cond_false_right, Nat.zero_add, Int.reduceLE, Int.reduceLT, Int.reduceNeg, Int.reduceAdd, Int.reduceToNat, List.range_succ, List.range_zero, Int.toNat_natCast, List.mem_nil_iff, List.mem_append, E_empty_eq, E_rows_eq, E_rows_eqB, Try.ntmps21, Try.results21, tt_1, tt_2, tt_3, tt_4, tt_5, tt_6, tt_7, tt_8, tt_12, tt_15, tt_16, tt_17, tt_18, tt_19, tt_21, tt_22, tt_23, tt_24, tt_25, tt_26, tt_27, tt_28, tt_29, tt_30, tt_31, tt_32, tt_33, tt_34, tt_35, tt_36, tt_37, tt_38, tt_39, tt_41, tt_42, tt_44, tt_45, tt_46, tt_47, tt_48, tt_49, tt_50, tt_51, tt_52, tt_53, tt_54, tt_55, tt_56, tt_57, tt_58, tt_59, tt_60, tt_61, tt_62, tt_63, tt_64, tt_65, tt_66, tt_67, tt_68, tt_69, tt_70, tt_71, tt_72, tt_73, tt_74, tt_75, tt_78, tt_79, tt_80, tt_81, tt_82, tt_83, tt_84, tt_85, tt_86, tt_87, tt_88, tt_89, tt_90, tt_91]
  refine ⟨fun h => ?_, fun h => ?_⟩
  · have e : idB n = true := h
    simp [idN, idO, idE, e, LI_nil]
  have hB : idB n = false := h
  have hn : 1 ≤ n ∧ n ≤ 8 := by
    simp only [idB, Bool.or_eq_false_iff, decide_eq_false_iff_not] at hB
    omega
  have hm := mul88 hn hn
  have hO : idO n = idL n.toNat := by simp [idO, hB]
  have hN : idN n = n := by simp [idN, hB]
  have hE : idE n = 0 := by simp [idE, hB]
  rw [hO, hN, hE]
  have hnn : (n * n).toNat = n.toNat * n.toNat := by
    have e : n = (n.toNat : Int) := by omega
    have : n * n = ((n.toNat * n.toNat : Nat) : Int) := by rw [Int.natCast_mul, ← e]
    omega
  have hNn : ((n.toNat : Nat) : Int) = n := by omega
  refine ⟨hn, ⟨hn, hn, hnn⟩, ?_⟩
  rw [hnn]
  generalize n.toNat = N at *
  refine ELoop_keep (fun g => ⟨[(20, vI .i64 (g : Nat))], [], [(⟨1, 16⟩, ⟨true, 1, LI .i64 (idP N g)⟩)]⟩) (fun g => g ≤ N) (fun g => N - g) (· + 1) 0 (Nat.zero_le _) ?_ ?_
  · simp only [↓gPre, gPost, handV, V.bufs, buildArr, toCs, List.set_cons_succ, List.set_cons_zero, List.foldr_cons, List.foldr_nil, List.append_eq, Nat.reduceShiftRight, Nat.reduceMod, List.mem_cons, addB, addK, zeroOp, callSem, resName, keepsB, newB, V.pure, C.pure, V.ptrs, C.ptrs, C.bufs, appendSem, dstOk, lk, V.cells, Op.eff, partV, partD, cut, lay, zeroD, C.toDs, C.toD, V.toD, toDs, buildCells, List.flatMap_nil, List.flatMap_cons, List.all_nil, List.all_cons, List.map_nil, List.map_cons, List.zip_cons_cons, List.zip_nil_left, List.nil_append, List.append_nil, List.cons_append, List.drop_zero, List.drop_succ_cons, List.take_succ_cons, List.take_zero, List.length_cons, List.length_nil, List.getElem?_cons_succ, List.getElem?_cons_zero, Option.getD_some, Option.getD_none, Option.map_some, Option.map_none, Option.some.injEq, Option.isSome_none, Option.isSome_some, Option.toList_some, Option.toList_none, if_true, if_false, ↓reduceIte, reduceCtorEq, Nat.reduceEqDiff, Nat.reduceLT, Nat.reduceLeDiff, List.not_mem_nil, false_implies, implies_true, true_and, and_true, forall_const, Nat.succ_ne_self, Bool.false_eq_true, Bool.true_and, Bool.and_true, eq_self, ne_eq, not_true_eq_false, not_false_eq_true, or_true, true_or, and_self, imp_self, bne_self_eq_false, beq_self_eq_true, Bool.or_false, Bool.false_or, Bool.and_false, Bool.false_and, false_or, or_false, Nat.reduceAdd, Nat.reduceMul, beq_true, beq_false, Name.mk.injEq, decide_true, decide_false, Bool.or_true, Bool.true_or, Bool.or_self, Bool.not_eq_true', Bool.not_true, Bool.not_false, Bool.true_eq_false, Bool.cond_true_left, Bool.cond_false_right, Nat.zero_add, Int.reduceLE, Int.reduceLT, Int.reduceNeg, Int.reduceAdd, Int.reduceToNat, List.range_succ, List.range_zero, Int.toNat_natCast, List.mem_nil_iff, List.mem_append, E_empty_eq, E_rows_eq, E_rows_eqB, Try.ntmps21, Try.results21, tt_1, tt_2, tt_3, tt_4, tt_5, tt_6, tt_7, tt_8, tt_12, tt_15, tt_16, tt_17, tt_18, tt_19, tt_21, tt_22, tt_23, tt_24, tt_25, tt_26, tt_27, tt_28, tt_29, tt_30, tt_31, tt_32, tt_33, tt_34, tt_35, tt_36, tt_37, tt_38, tt_39, tt_41, tt_42, tt_44, tt_45, tt_46, tt_47, tt_48, tt_49, tt_50, tt_51, tt_52, tt_53, tt_54, tt_55, tt_56, tt_57, tt_58, tt_59, tt_60, tt_61, tt_62, tt_63, tt_64, tt_65, tt_66, tt_67, tt_68, tt_69, tt_70, tt_71, tt_72, tt_73, tt_74, tt_75, tt_78, tt_79, tt_80, tt_81, tt_82, tt_83, tt_84, tt_85, tt_86, tt_87, tt_88, tt_89, tt_90, tt_91]
    rw [idP_zero]
    exact ⟨rfl, rfl⟩
  intro g hg
  simp only [↓gPre, gPost, handV, V.bufs, buildArr, toCs, List.set_cons_succ, List.set_cons_zero, List.foldr_cons, List.foldr_nil, List.append_eq, Nat.reduceShiftRight, Nat.reduceMod, List.mem_cons, addB, addK, zeroOp, callSem, resName, keepsB, newB, V.pure, C.pure, V.ptrs, C.ptrs, C.bufs, appendSem, dstOk, lk, V.cells, Op.eff, partV, partD, cut, lay, zeroD, C.toDs, C.toD, V.toD, toDs, buildCells, List.flatMap_nil, List.flatMap_cons, List.all_nil, List.all_cons, List.map_nil, List.map_cons, List.zip_cons_cons, List.zip_nil_left, List.nil_append, List.append_nil, List.cons_append, List.drop_zero, List.drop_succ_cons, List.take_succ_cons, List.take_zero, List.length_cons, List.length_nil, List.getElem?_cons_succ, List.getElem?_cons_zero, Option.getD_some, Option.getD_none, Option.map_some, Option.map_none, Option.some.injEq, Option.isSome_none, Option.isSome_some, Option.toList_some, Option.toList_none, if_true, if_false, ↓reduceIte, reduceCtorEq, Nat.reduceEqDiff, Nat.reduceLT, Nat.reduceLeDiff, List.not_mem_nil, false_implies, implies_true, true_and, and_true, forall_const, Nat.succ_ne_self, Bool.false_eq_true, Bool.true_and, Bool.and_true, eq_self, ne_eq, not_true_eq_false, not_false_eq_true, or_true, true_or, and_self, imp_self, bne_self_eq_false, beq_self_eq_true, Bool.or_false, Bool.false_or, Bool.and_false, Bool.false_and, false_or, or_false, Nat.reduceAdd, Nat.reduceMul, beq_true, beq_false, Name.mk.injEq, decide_true, decide_false, Bool.or_true, Bool.true_or, Bool.or_self, Bool.not_eq_true', Bool.not_true, Bool.not_false, Bool.true_eq_false, Bool.cond_true_left, Bool.cond_false_right, Nat.zero_add, Int.reduceLE, Int.reduceLT, Int.reduceNeg, Int.reduceAdd, Int.reduceToNat, List.range_succ, List.range_zero, Int.toNat_natCast, List.mem_nil_iff, List.mem_append, E_empty_eq, E_rows_eq, E_rows_eqB, Try.ntmps21, Try.results21, tt_1, tt_2, tt_3, tt_4, tt_5, tt_6, tt_7, tt_8, tt_12, tt_15, tt_16, tt_17, tt_18, tt_19, tt_21, tt_22, tt_23, tt_24, tt_25, tt_26, tt_27, tt_28, tt_29, tt_30, tt_31, tt_32, tt_33, tt_34, tt_35, tt_36, tt_37, tt_38, tt_39, tt_41, tt_42, tt_44, tt_45, tt_46, tt_47, tt_48, tt_49, tt_50, tt_51, tt_52, tt_53, tt_54, tt_55, tt_56, tt_57, tt_58, tt_59, tt_60, tt_61, tt_62, tt_63, tt_64, tt_65, tt_66, tt_67, tt_68, tt_69, tt_70, tt_71, tt_72, tt_73, tt_74, tt_75, tt_78, tt_79, tt_80, tt_81, tt_82, tt_83, tt_84, tt_85, tt_86, tt_87, tt_88, tt_89, tt_90, tt_91]
  have hl := idP_len N g
  refine ⟨fun h => ?_, fun h => ?_⟩
  · have hgN : g < N := by have := of_decide_eq_true h; omega
    have hle : (g + 1) * N ≤ N * N := Nat.mul_le_mul_right _ hgN
    rw [Nat.add_mul, Nat.one_mul] at hle
    rw [idP_succ hgN]
    refine ⟨by omega, by omega, by omega, ⟨(wrapN _ (by omega)).symm, rfl⟩, by omega, by omega⟩
  · have : g = N := by have := of_decide_eq_false h; omega
    rw [this, idP_all]
    exact ⟨by simp [idL], rfl⟩
def E_identity : List V → Boxes → Toks → Name → Option Ent
  | [.c (.d (.int .i64 n))], [], [], _ => some ⟨True, .tup [.agg [.int .i64 (idN n), .int .i64 (idN n), .list (LI .i64 (idO n))], .int .i64 (idE n)], [], []⟩
  | _, _, _, _ => none
theorem E_identity_eq {n : Int}  {nF : Name} : E_identity [.c (.d (.int .i64 n))] [] [] nF = some ⟨True, .tup [.agg [.int .i64 (idN n), .int .i64 (idN n), .list (LI .i64 (idO n))], .int .i64 (idE n)], [], []⟩ := Eq.trans rfl rfl
theorem E_identity_ok : Snd Try.prog 21 E_identity := by
  intro vs b k n e h hn hp
  unfold E_identity at h
  split at h
  · cases h; exact (spec_identity _).lift rfl _
  · cases h

theorem spec_ridentity (n : Int) : Spec Try.prog 0 22 [vI .i64 n] [] [] (.tup [.agg [.int .i64 (idN n), .int .i64 (idN n), .list (LI .i64 (idO n))], .int .i64 (idE n)]) [] [] := by
  refine spec_of_E (X := ⟨Try.prog, tt, Try.f22.ntmps, 1, fun s => if s = 18 then 2 else 0, (tab [])⟩) (M := [(1000008, [3002])]) (m := 4196413) rfl rfl ⟨tt_ok, tab_ok tabs_nil _ rfl rfl⟩ tt_mixed Try.func22 rfl (by decide) (by show (1 : Nat) ≤ _; exact Nat.le_of_ble_eq_true rfl) ⟨by simp [V.has, C.has], by simp [C.has], by simp⟩ ?_
  simp only [↓gPre, gPost, handV, V.bufs, buildArr, toCs, List.set_cons_succ, List.set_cons_zero, List.foldr_cons, List.foldr_nil, List.append_eq, Nat.reduceShiftRight, Nat.reduceMod, List.mem_cons, addB, addK, zeroOp, callSem, resName, keepsB, newB, V.pure, C.pure, V.ptrs, C.ptrs, C.bufs, appendSem, dstOk, lk, V.cells, Op.eff, partV, partD, cut, lay, zeroD, C.toDs, C.toD, V.toD, toDs, buildCells, List.flatMap_nil, List.flatMap_cons, List.all_nil, List.all_cons, List.map_nil, List.map_cons, List.zip_cons_cons, List.zip_nil_left, List.nil_append, List.append_nil, List.cons_append, List.drop_zero, List.drop_succ_cons, List.take_succ_cons, List.take_zero, List.length_cons, List.length_nil, List.getElem?_cons_succ, List.getElem?_cons_zero, Option.getD_some, Option.getD_none, Option.map_some, Option.map_none, Option.some.injEq, Option.isSome_none, Option.isSome_some, Option.toList_some, Option.toList_none, if_true, if_false, ↓reduceIte, reduceCtorEq, Nat.reduceEqDiff, Nat.reduceLT, Nat.reduceLeDiff, List.not_mem_nil, false_implies, implies_true, true_and, and_true, forall_const, Nat.succ_ne_self, Bool.false_eq_true, Bool.true_and, Bool.and_true, eq_self, ne_eq, not_true_eq_false, not_false_eq_true, or_true, true_or, and_self, imp_self, bne_self_eq_false, beq_self_eq_true, Bool.or_false, Bool.false_or, Bool.and_false, Bool.false_and, false_or, or_false, Nat.reduceAdd, Nat.reduceMul, beq_true, beq_false, Name.mk.injEq, decide_true, decide_false, Bool.or_true, Bool.true_or, Bool.or_self, Bool.not_eq_true', Bool.not_true, Bool.not_false, Bool.true_eq_false, Bool.cond_true_left, Bool.cond_false_right, Nat.zero_add, Int.reduceLE, Int.reduceLT, Int.reduceNeg, Int.reduceAdd, Int.reduceToNat, List.range_succ, List.range_zero, Int.toNat_natCast, List.mem_nil_iff, List.mem_append, Try.ntmps22, Try.results22, tt_1, tt_2, tt_3, tt_4, tt_5, tt_6, tt_7, tt_8, tt_12, tt_15, tt_16, tt_17, tt_18, tt_19, tt_21, tt_22, tt_23, tt_24, tt_25, tt_26, tt_27, tt_28, tt_29, tt_30, tt_31, tt_32, tt_33, tt_34, tt_35, tt_36, tt_37, tt_38, tt_39, tt_41, tt_42, tt_44, tt_45, tt_46, tt_47, tt_48, tt_49, tt_50, tt_51, tt_52, tt_53, tt_54, tt_55, tt_56, tt_57, tt_58, tt_59, tt_60, tt_61, tt_62, tt_63, tt_64, tt_65, tt_66, tt_67, tt_68, tt_69, tt_70, tt_71, tt_72, tt_73, tt_74, tt_75, tt_78, tt_79, tt_80, tt_81, tt_82, tt_83, tt_84, tt_85, tt_86, tt_87, tt_88, tt_89, tt_90, tt_91]
  refine ⟨fun h => ?_, fun h => ?_⟩
  · have e : idB n = true := h
    simp [idN, idO, idE, e, LI_nil]
  have hB : idB n = false := h
  have hn : 1 ≤ n ∧ n ≤ 8 := by
    simp only [idB, Bool.or_eq_false_iff, decide_eq_false_iff_not] at hB
    omega
  have hm := mul88 hn hn
  have hO : idO n = idL n.toNat := by simp [idO, hB]
  have hN : idN n = n := by simp [idN, hB]
  have hE : idE n = 0 := by simp [idE, hB]
  rw [hO, hN, hE]
  have hnn : (n * n).toNat = n.toNat * n.toNat := by
    have e : n = (n.toNat : Int) := by omega
    have : n * n = ((n.toNat * n.toNat : Nat) : Int) := by rw [Int.natCast_mul, ← e]
    omega
  have hNn : ((n.toNat : Nat) : Int) = n := by omega
  rw [IntWalk.i64_in (n * n) (by omega)]
  refine ⟨⟨by omega, by omega, by omega, by omega⟩, ?_⟩
  rw [hnn]
  generalize n.toNat = N at *
  refine ELoop_keep (fun g => ⟨[(5, vI .i64 (g : Nat))], [], [(⟨1, 18⟩, ⟨true, 1, LI .i64 (idP N g)⟩)]⟩) (fun g => g ≤ N) (fun g => N - g) (· + 1) 0 (Nat.zero_le _) ?_ ?_
  · simp only [↓gPre, gPost, handV, V.bufs, buildArr, toCs, List.set_cons_succ, List.set_cons_zero, List.foldr_cons, List.foldr_nil, List.append_eq, Nat.reduceShiftRight, Nat.reduceMod, List.mem_cons, addB, addK, zeroOp, callSem, resName, keepsB, newB, V.pure, C.pure, V.ptrs, C.ptrs, C.bufs, appendSem, dstOk, lk, V.cells, Op.eff, partV, partD, cut, lay, zeroD, C.toDs, C.toD, V.toD, toDs, buildCells, List.flatMap_nil, List.flatMap_cons, List.all_nil, List.all_cons, List.map_nil, List.map_cons, List.zip_cons_cons, List.zip_nil_left, List.nil_append, List.append_nil, List.cons_append, List.drop_zero, List.drop_succ_cons, List.take_succ_cons, List.take_zero, List.length_cons, List.length_nil, List.getElem?_cons_succ, List.getElem?_cons_zero, Option.getD_some, Option.getD_none, Option.map_some, Option.map_none, Option.some.injEq, Option.isSome_none, Option.isSome_some, Option.toList_some, Option.toList_none, if_true, if_false, ↓reduceIte, reduceCtorEq, Nat.reduceEqDiff, Nat.reduceLT, Nat.reduceLeDiff, List.not_mem_nil, false_implies, implies_true, true_and, and_true, forall_const, Nat.succ_ne_self, Bool.false_eq_true, Bool.true_and, Bool.and_true, eq_self, ne_eq, not_true_eq_false, not_false_eq_true, or_true, true_or, and_self, imp_self, bne_self_eq_false, beq_self_eq_true, Bool.or_false, Bool.false_or, Bool.and_false, Bool.false_and, false_or, or_false, Nat.reduceAdd, Nat.reduceMul, beq_true, beq_false, Name.mk.injEq, decide_true, decide_false, Bool.or_true, Bool.true_or, Bool.or_self, Bool.not_eq_true', Bool.not_true, Bool.not_false, Bool.true_eq_false, Bool.cond_true_left, Bool.cond_false_right, Nat.zero_add, Int.reduceLE, Int.reduceLT, Int.reduceNeg, Int.reduceAdd, Int.reduceToNat, List.range_succ, List.range_zero, Int.toNat_natCast, List.mem_nil_iff, List.mem_append, Try.ntmps22, Try.results22, tt_1, tt_2, tt_3, tt_4, tt_5, tt_6, tt_7, tt_8, tt_12, tt_15, tt_16, tt_17, tt_18, tt_19, tt_21, tt_22, tt_23, tt_24, tt_25, tt_26, tt_27, tt_28, tt_29, tt_30, tt_31, tt_32, tt_33, tt_34, tt_35, tt_36, tt_37, tt_38, tt_39, tt_41, tt_42, tt_44, tt_45, tt_46, tt_47, tt_48, tt_49, tt_50, tt_51, tt_52, tt_53, tt_54, tt_55, tt_56, tt_57, tt_58, tt_59, tt_60, tt_61, tt_62, tt_63, tt_64, tt_65, tt_66, tt_67, tt_68, tt_69, tt_70, tt_71, tt_72, tt_73, tt_74, tt_75, tt_78, tt_79, tt_80, tt_81, tt_82, tt_83, tt_84, tt_85, tt_86, tt_87, tt_88, tt_89, tt_90, tt_91]
    rw [idP_zero]
    exact ⟨rfl, rfl⟩
  intro g hg
  simp only [↓gPre, gPost, handV, V.bufs, buildArr, toCs, List.set_cons_succ, List.set_cons_zero, List.foldr_cons, List.foldr_nil, List.append_eq, Nat.reduceShiftRight, Nat.reduceMod, List.mem_cons, addB, addK, zeroOp, callSem, resName, keepsB, newB, V.pure, C.pure, V.ptrs, C.ptrs, C.bufs, appendSem, dstOk, lk, V.cells, Op.eff, partV, partD, cut, lay, zeroD, C.toDs, C.toD, V.toD, toDs, buildCells, List.flatMap_nil, List.flatMap_cons, List.all_nil, List.all_cons, List.map_nil, List.map_cons, List.zip_cons_cons, List.zip_nil_left, List.nil_append, List.append_nil, List.cons_append, List.drop_zero, List.drop_succ_cons, List.take_succ_cons, List.take_zero, List.length_cons, List.length_nil, List.getElem?_cons_succ, List.getElem?_cons_zero, Option.getD_some, Option.getD_none, Option.map_some, Option.map_none, Option.some.injEq, Option.isSome_none, Option.isSome_some, Option.toList_some, Option.toList_none, if_true, if_false, ↓reduceIte, reduceCtorEq, Nat.reduceEqDiff, Nat.reduceLT, Nat.reduceLeDiff, List.not_mem_nil, false_implies, implies_true, true_and, and_true, forall_const, Nat.succ_ne_self, Bool.false_eq_true, Bool.true_and, Bool.and_true, eq_self, ne_eq, not_true_eq_false, not_false_eq_true, or_true, true_or, and_self, imp_self, bne_self_eq_false, beq_self_eq_true, Bool.or_false, Bool.false_or, Bool.and_false, Bool.false_and, false_or, or_false, Nat.reduceAdd, Nat.reduceMul, beq_true, beq_false, Name.mk.injEq, decide_true, decide_false, Bool.or_true, Bool.true_or, Bool.or_self, Bool.not_eq_true', Bool.not_true, Bool.not_false, Bool.true_eq_false, Bool.cond_true_left, Bool.cond_false_right, Nat.zero_add, Int.reduceLE, Int.reduceLT, Int.reduceNeg, Int.reduceAdd, Int.reduceToNat, List.range_succ, List.range_zero, Int.toNat_natCast, List.mem_nil_iff, List.mem_append, Try.ntmps22, Try.results22, tt_1, tt_2, tt_3, tt_4, tt_5, tt_6, tt_7, tt_8, tt_12, tt_15, tt_16, tt_17, tt_18, tt_19, tt_21, tt_22, tt_23, tt_24, tt_25, tt_26, tt_27, tt_28, tt_29, tt_30, tt_31, tt_32, tt_33, tt_34, tt_35, tt_36, tt_37, tt_38, tt_39, tt_41, tt_42, tt_44, tt_45, tt_46, tt_47, tt_48, tt_49, tt_50, tt_51, tt_52, tt_53, tt_54, tt_55, tt_56, tt_57, tt_58, tt_59, tt_60, tt_61, tt_62, tt_63, tt_64, tt_65, tt_66, tt_67, tt_68, tt_69, tt_70, tt_71, tt_72, tt_73, tt_74, tt_75, tt_78, tt_79, tt_80, tt_81, tt_82, tt_83, tt_84, tt_85, tt_86, tt_87, tt_88, tt_89, tt_90, tt_91]
  have hl := idP_len N g
  refine ⟨fun h => ?_, fun h => ?_⟩
  · have hgN : g < N := by have := of_decide_eq_true h; omega
    have hle : (g + 1) * N ≤ N * N := Nat.mul_le_mul_right _ hgN
    have h64 : g * N ≤ 8 * 8 := Nat.mul_le_mul (by omega) (by omega)
    rw [Nat.add_mul, Nat.one_mul] at hle
    rw [idP_succ hgN]
    have e1 : IntKind.i64.wrap ((g : Int) * n) = ((g * N : Nat) : Int) := by
      have : (g : Int) * n = ((g * N : Nat) : Int) := by rw [Int.natCast_mul, hNn]
      rw [this, IntWalk.i64_in _ (by omega)]
    have e2 : IntKind.i64.wrap (((g * N : Nat) : Int) + (g : Int)) = ((g * N + g : Nat) : Int) := by rw [IntWalk.i64_in _ (by omega)]; omega
    rw [e1, e2, Int.toNat_natCast]
    refine ⟨by omega, by omega, ⟨(wrapN _ (by omega)).symm, rfl⟩, by omega, by omega⟩
  · have : g = N := by have := of_decide_eq_false h; omega
    rw [this, idP_all]
    exact ⟨by simp [idL], rfl⟩
def E_ridentity : List V → Boxes → Toks → Name → Option Ent
  | [.c (.d (.int .i64 n))], [], [], _ => some ⟨True, .tup [.agg [.int .i64 (idN n), .int .i64 (idN n), .list (LI .i64 (idO n))], .int .i64 (idE n)], [], []⟩
  | _, _, _, _ => none
theorem E_ridentity_eq {n : Int}  {nF : Name} : E_ridentity [.c (.d (.int .i64 n))] [] [] nF = some ⟨True, .tup [.agg [.int .i64 (idN n), .int .i64 (idN n), .list (LI .i64 (idO n))], .int .i64 (idE n)], [], []⟩ := Eq.trans rfl rfl
theorem E_ridentity_ok : Snd Try.prog 22 E_ridentity := by
  intro vs b k n e h hn hp
  unfold E_ridentity at h
  split at h
  · cases h; exact (spec_ridentity _).lift rfl _
  · cases h

end Go.Vam
