/- The law MatrixOrder gives true. Conditions: none. -/
import Derived.Test.YtcjeioecbnopmaaMtxI
set_option linter.unusedVariables false
set_option linter.unusedSimpArgs false
set_option maxRecDepth 40000
set_option maxHeartbeats 4000000
namespace Go.Vam
open Go.Proofs

theorem apL_all (a b : Nat) (m l : List Int) (n : Nat) : (apL a b m l n).all smpX = true := by
  rw [List.all_eq_true]
  intro x hx
  simp only [apL, List.mem_map] at hx
  obtain ⟨i, _, rfl⟩ := hx
  have := satG_in ((dotN (fun c => atL m (i % b * a + c)) (fun c => atL l (i / b * a + c)) a + 16384) / 32768)
  simp only [smpX, apV, Bool.and_eq_true]
  exact ⟨decide_eq_true this.1, decide_eq_true this.2⟩
theorem ap_perm {A : Nat} {M l : List Int} {σ : Nat → Nat} (hA : 0 < A) (hσ : ∀ r, r < A → σ r < A) (h : ∀ r, r < A → ∀ c, c < A → atL M (r * A + c) = if c = σ r then 32768 else 0) (hl : l.all smpX = true) {n q r : Nat} (hr : r < A) (hj : q * A + r < n) : atL (apL A A M l n) (q * A + r) = atL l (q * A + σ r) := by
  unfold apL
  rw [atL_map hj, apV_at hr, dotN_pick (r := σ r) (v := 32768) A (fun c hc => h r hr c hc), if_pos (hσ r hr), rnd]
  exact satG_self (getS hl _)
def rotL (p : List Int) (k : Nat) : List Int := p.drop k ++ p.take k
def ordF (p q : List Int) : Prop := dfE p q = 0 ∧ dfE q p = 0 ∧ mxV p.length p.length (dfO p q) = true ∧ mxV p.length p.length (dfO q p) = true ∧ q.length = p.length ∧ (1 ≤ p.length ∧ p.length ≤ 8) ∧
  ∀ r, r < p.length → (∀ c, c < p.length → atL (dfO p q) (r * p.length + c) = if c = (idxL p (q[r]?.getD 0)).toNat then 32768 else 0) ∧ (∀ c, c < p.length → atL (dfO q p) (r * p.length + c) = if c = (idxL q (p[r]?.getD 0)).toNat then 32768 else 0) ∧
    0 ≤ idxL p (q[r]?.getD 0) ∧ (idxL p (q[r]?.getD 0)).toNat < p.length ∧ (idxL q (p[r]?.getD 0)).toNat < p.length ∧ (idxL p (q[(idxL q (p[r]?.getD 0)).toNat]?.getD 0)).toNat = r
instance (p q : List Int) : Decidable (ordF p q) := by unfold ordF; infer_instance
theorem maps_rot : ∀ n, n < 7 → ∀ k, k < (mapsL[n]?.getD []).length → ordF (mapsL[n]?.getD []) (rotL (mapsL[n]?.getD []) k) := by decide +kernel
theorem maps_len : ∀ n, n < 7 → 0 < (mapsL[n]?.getD []).length := by decide +kernel
theorem map_len (l : List UInt8) : 0 < (mapV l).length := maps_len _ (by have := dN_ge l 7; have := dN_lt l 7 (by decide); omega)
theorem map_rot (l : List UInt8) {k : Nat} (hk : k < (mapV l).length) : ordF (mapV l) (rotL (mapV l) k) := maps_rot _ (by have := dN_ge l 7; have := dN_lt l 7 (by decide); omega) k hk
theorem blkV_of {c : Int} {l : List Int} (hc : 1 ≤ c ∧ c ≤ 8) (hd : l.length = l.length / c.toNat * c.toNat) (hl : l.length ≤ 65536) (hs : l.all smpX = true) : blkV c l = true := by
  unfold blkV
  have hch : chBk c l.length = false := by
    have e : c = (c.toNat : Int) := by omega
    have hz : l.length / c.toNat ≤ l.length := Nat.div_le_self ..
    generalize l.length / c.toNat = z at *
    unfold chBk
    have e2 : ((l.length : Nat) : Int) = (z : Int) * c := by rw [hd, Int.natCast_mul, ← e]
    rw [e2, Int.mul_tmod_left, Int.mul_tdiv_cancel _ (by omega), IntWalk.i64_in _ (by omega)]
    simp only [Bool.or_eq_false_iff, decide_eq_false_iff_not, bne_self_eq_false, and_true]
    omega
  rw [hch, hs]; rfl

theorem spec_order (s : List UInt8) : Spec Try.prog 0 5 [vL (LB s)] [] [] (vB true) [] [] := by
  refine spec_of_E (X := ⟨Try.prog, tt, Try.f5.ntmps, 1, fun _ => 0, (tab [(9, E_sane), (12, E_new), (13, E_next), (26, E_mmap), (15, E_mblock), (24, E_dflt), (16, E_apply), (20, E_same), (27, E_ridx)])⟩) (M := [(12, [0, 0, 0, 0, 0, 1361129506980922460338314065766167347197, 0, 0, 0, 0, 0, 1361129506980922442039143944646292144125, 0, 0, 0, 0, 0, 1361129506980920345308425550523817263101, 0, 0, 0, 0, 0, 1361129506980864432489268373924487102461, 0, 0, 0, 0, 0, 1361129506973494820692897594475478253565, 0, 0, 0, 0, 0, 0]), (17, [0, 0, 0, 0, 0, 2722252808178331504560184725139203293181, 0, 0, 0, 0, 0, 2722094443124146192317514545001162080253, 0, 0, 0, 0, 0, 2680223761256921342321044622602331226109, 0, 0, 0, 0, 0])]) (m := 1361129506347097160814495175376521396221) rfl rfl ⟨tt_ok, tab_ok (tabs_cons E_sane_ok (tabs_cons E_new_ok (tabs_cons E_next_ok (tabs_cons E_mmap_ok (tabs_cons E_mblock_ok (tabs_cons E_dflt_ok (tabs_cons E_apply_ok (tabs_cons E_same_ok (tabs_cons E_ridx_ok tabs_nil))))))))) _ rfl rfl⟩ tt_mixed Try.func5 rfl (by decide) (by show (1 : Nat) ≤ _; exact Nat.le_of_ble_eq_true rfl) ⟨fun m hm => (V.bare_has rfl m hm).elim, by simp, by simp⟩ ?_
  simp only [↓gPre, gPost, handV, V.bufs, buildArr, toCs, List.set_cons_succ, List.set_cons_zero, List.foldr_cons, List.foldr_nil, List.append_eq, Nat.reduceShiftRight, Nat.reduceMod, List.mem_cons, addB, addK, zeroOp, callSem, resName, keepsB, newB, V.pure, C.pure, V.ptrs, C.ptrs, C.bufs, appendSem, dstOk, lk, V.cells, Op.eff, partV, partD, cut, lay, zeroD, C.toDs, C.toD, V.toD, toDs, buildCells, List.flatMap_nil, List.flatMap_cons, List.all_nil, List.all_cons, List.map_nil, List.map_cons, List.zip_cons_cons, List.zip_nil_left, List.nil_append, List.append_nil, List.cons_append, List.drop_zero, List.drop_succ_cons, List.take_succ_cons, List.take_zero, List.length_cons, List.length_nil, List.getElem?_cons_succ, List.getElem?_cons_zero, Option.getD_some, Option.getD_none, Option.map_some, Option.map_none, Option.some.injEq, Option.isSome_none, Option.isSome_some, Option.toList_some, Option.toList_none, if_true, if_false, ↓reduceIte, reduceCtorEq, Nat.reduceEqDiff, Nat.reduceLT, Nat.reduceLeDiff, List.not_mem_nil, false_implies, implies_true, true_and, and_true, forall_const, Nat.succ_ne_self, Bool.false_eq_true, Bool.true_and, Bool.and_true, eq_self, ne_eq, not_true_eq_false, not_false_eq_true, or_true, true_or, and_self, imp_self, bne_self_eq_false, beq_self_eq_true, Bool.or_false, Bool.false_or, Bool.and_false, Bool.false_and, false_or, or_false, Nat.reduceAdd, Nat.reduceMul, beq_true, beq_false, Name.mk.injEq, decide_true, decide_false, Bool.or_true, Bool.true_or, Bool.or_self, Bool.not_eq_true', Bool.not_true, Bool.not_false, Bool.true_eq_false, Bool.cond_true_left, Bool.cond_false_right, Nat.zero_add, Int.reduceLE, Int.reduceLT, Int.reduceNeg, Int.reduceAdd, Int.reduceToNat, List.range_succ, List.range_zero, Int.toNat_natCast, List.mem_nil_iff, List.mem_append, E_sane_eq, E_new_eq, E_next_eq, E_mmap_eq, E_mblock_eq, E_dflt_eq, E_apply_eq, E_same_eq, E_ridx_eq, Try.ntmps5, Try.results5, tt_1, tt_2, tt_3, tt_4, tt_5, tt_6, tt_7, tt_8, tt_12, tt_15, tt_16, tt_17, tt_18, tt_19, tt_21, tt_22, tt_23, tt_24, tt_25, tt_26, tt_27, tt_28, tt_29, tt_30, tt_31, tt_32, tt_33, tt_34, tt_35, tt_36, tt_37, tt_38, tt_39, tt_41, tt_42, tt_44, tt_45, tt_46, tt_47, tt_48, tt_49, tt_50, tt_51, tt_52, tt_53, tt_54, tt_55, tt_56, tt_57, tt_58, tt_59, tt_60, tt_61, tt_62, tt_63, tt_64, tt_65, tt_66, tt_67, tt_68, tt_69, tt_70, tt_71, tt_72, tt_73, tt_74, tt_75, tt_78, tt_79, tt_80, tt_81, tt_82, tt_83, tt_84, tt_85, tt_86, tt_87, tt_88, tt_89, tt_90, tt_91]
  refine ⟨by kernel_rfl, ?_⟩
  have hpl := map_len (List.take 300 s)
  have hrot := @map_rot (List.take 300 s)
  generalize mapV (List.take 300 s) = p at *
  generalize dT (List.take 300 s) 7 = s1
  have hk1 := dN_ge s1 (p.length : Int)
  have hk2 := dN_lt s1 (p.length : Int) (by omega)
  generalize dN s1 (p.length : Int) = k at *
  have hr := @hrot k.toNat (by omega)
  have eq : List.take (p.length - k.toNat) (List.drop k.toNat p) ++ List.take (k.toNat - 0) p = rotL p k.toNat := by
    unfold rotL
    rw [Nat.sub_zero, List.take_of_length_le (by rw [List.length_drop]; omega)]
  have ql1 : (List.take (p.length - k.toNat) (List.drop k.toNat p)).length ≤ p.length := by rw [List.length_take, List.length_drop]; omega
  have ql2 : (List.take (k.toNat - 0) p).length ≤ p.length := by rw [List.length_take]; omega
  rw [eq]
  generalize rotL p k.toNat = q at *
  obtain ⟨E1, E2, V1, V2, Lq, P8, F⟩ := hr
  have N1 : dfN p q p = (p.length : Int) := by simp [dfN, E1]
  have N2 : dfN p q q = (p.length : Int) := by simp [dfN, E1, Lq]
  have N3 : dfN q p q = (p.length : Int) := by simp [dfN, E2, Lq]
  have N4 : dfN q p p = (p.length : Int) := by simp [dfN, E2]
  have hbl : (bkO (dT s1 (p.length : Int)) ((p.length : Int) * 4).toNat).length = ((p.length : Int) * 4).toNat := by simp [bkO]
  have hbv := blkV_bkO (dT s1 (p.length : Int)) (c := (p.length : Int)) (n := 4) (by omega) (by decide)
  generalize bkO (dT s1 (p.length : Int)) ((p.length : Int) * 4).toNat = b at *
  generalize hM1 : dfO p q = M1 at *
  generalize hM2 : dfO q p = M2 at *
  have A1 := apE_ok V1 hbv rfl
  have A2 : apC p.length p.length M1 p.length b = (p.length : Int) := by simp [apC, A1]
  have A3 : apO p.length p.length M1 p.length b = apL p.length p.length M1 b (b.length / p.length * p.length) := by simp [apO, A1]
  obtain ⟨q1, q2⟩ := blkV_in hbv
  obtain ⟨q3, q4, q5⟩ := chBk_in q1
  rw [Int.toNat_natCast] at q5
  rw [← q5] at A3
  have X1 : (apL p.length p.length M1 b b.length).length = b.length := apL_len ..
  have X2 := apL_all p.length p.length M1 b b.length
  have X3 : blkV p.length (apL p.length p.length M1 b b.length) = true := blkV_of (by omega) (by rw [X1, Int.toNat_natCast]; exact q5) (by omega) X2
  have X4 : ∀ q' r, r < p.length → q' * p.length + r < b.length → atL (apL p.length p.length M1 b b.length) (q' * p.length + r) = atL b (q' * p.length + (idxL p (q[r]?.getD 0)).toNat) :=
    fun q' r hr hj => ap_perm (σ := fun r => (idxL p (q[r]?.getD 0)).toNat) hpl (fun r hr => (F r hr).2.2.2.1) (fun r hr => (F r hr).1) q2 hr hj
  generalize apL p.length p.length M1 b b.length = x at *
  have B1 := apE_ok V2 X3 rfl
  have B2 : apC p.length p.length M2 p.length x = (p.length : Int) := by simp [apC, B1]
  have B3 : apO p.length p.length M2 p.length x = b := by
    have : apO p.length p.length M2 p.length x = apL p.length p.length M2 x (x.length / p.length * p.length) := by simp [apO, B1]
    rw [this, X1, ← q5]
    refine ext_cells hpl (apL_len ..) rfl fun q' r hr hj => ?_
    have hs := (F r hr).2.2.2.2.1
    rw [ap_perm (σ := fun r => (idxL q (p[r]?.getD 0)).toNat) hpl (fun r hr => (F r hr).2.2.2.2.1) (fun r hr => (F r hr).2.1) X2 hr hj, X4 _ _ hs ?_, (F r hr).2.2.2.2.2]
    have hc : q' < b.length / p.length := by
      rcases Nat.lt_or_ge q' (b.length / p.length) with h | h
      · exact h
      · have := Nat.mul_le_mul_right p.length h; omega
    have := cell_lt hs hc
    rw [Nat.mul_comm p.length (b.length / p.length), ← q5] at this
    exact this
  simp only [N1, N2, N3, N4, E1, E2, A1, A2, A3, B1, B2, B3, X1, hbl, List.length_append, beq_self_eq_true, bne_self_eq_false, Bool.or_self, Bool.and_self, Bool.not_true]
  have L1 := (mxV_in V1).2.2.1
  have L2 := (mxV_in V2).2.2.1
  have L3 : (p.length : Int).toNat * (p.length : Int).toNat ≤ 8 * 8 := Nat.mul_le_mul (by omega) (by omega)
  refine ⟨by omega, by unfold roomOK; omega, by omega, by unfold roomOK; omega, by omega, by omega, by omega, by omega, by omega, fun _ => by omega, fun h => absurd h (by decide), fun _ => ?_⟩
  refine ELoop_keep (fun i => ⟨[(103, vI .i64 (i : Nat))], [], []⟩) (fun i => i ≤ b.length) (fun i => b.length - i) (· + 1) 0 (Nat.zero_le _) ?_ ?_
  · simp only [↓gPre, gPost, handV, V.bufs, buildArr, toCs, List.set_cons_succ, List.set_cons_zero, List.foldr_cons, List.foldr_nil, List.append_eq, Nat.reduceShiftRight, Nat.reduceMod, List.mem_cons, addB, addK, zeroOp, callSem, resName, keepsB, newB, V.pure, C.pure, V.ptrs, C.ptrs, C.bufs, appendSem, dstOk, lk, V.cells, Op.eff, partV, partD, cut, lay, zeroD, C.toDs, C.toD, V.toD, toDs, buildCells, List.flatMap_nil, List.flatMap_cons, List.all_nil, List.all_cons, List.map_nil, List.map_cons, List.zip_cons_cons, List.zip_nil_left, List.nil_append, List.append_nil, List.cons_append, List.drop_zero, List.drop_succ_cons, List.take_succ_cons, List.take_zero, List.length_cons, List.length_nil, List.getElem?_cons_succ, List.getElem?_cons_zero, Option.getD_some, Option.getD_none, Option.map_some, Option.map_none, Option.some.injEq, Option.isSome_none, Option.isSome_some, Option.toList_some, Option.toList_none, if_true, if_false, ↓reduceIte, reduceCtorEq, Nat.reduceEqDiff, Nat.reduceLT, Nat.reduceLeDiff, List.not_mem_nil, false_implies, implies_true, true_and, and_true, forall_const, Nat.succ_ne_self, Bool.false_eq_true, Bool.true_and, Bool.and_true, eq_self, ne_eq, not_true_eq_false, not_false_eq_true, or_true, true_or, and_self, imp_self, bne_self_eq_false, beq_self_eq_true, Bool.or_false, Bool.false_or, Bool.and_false, Bool.false_and, false_or, or_false, Nat.reduceAdd, Nat.reduceMul, beq_true, beq_false, Name.mk.injEq, decide_true, decide_false, Bool.or_true, Bool.true_or, Bool.or_self, Bool.not_eq_true', Bool.not_true, Bool.not_false, Bool.true_eq_false, Bool.cond_true_left, Bool.cond_false_right, Nat.zero_add, Int.reduceLE, Int.reduceLT, Int.reduceNeg, Int.reduceAdd, Int.reduceToNat, List.range_succ, List.range_zero, Int.toNat_natCast, List.mem_nil_iff, List.mem_append, E_sane_eq, E_new_eq, E_next_eq, E_mmap_eq, E_mblock_eq, E_dflt_eq, E_apply_eq, E_same_eq, E_ridx_eq, Try.ntmps5, Try.results5, tt_1, tt_2, tt_3, tt_4, tt_5, tt_6, tt_7, tt_8, tt_12, tt_15, tt_16, tt_17, tt_18, tt_19, tt_21, tt_22, tt_23, tt_24, tt_25, tt_26, tt_27, tt_28, tt_29, tt_30, tt_31, tt_32, tt_33, tt_34, tt_35, tt_36, tt_37, tt_38, tt_39, tt_41, tt_42, tt_44, tt_45, tt_46, tt_47, tt_48, tt_49, tt_50, tt_51, tt_52, tt_53, tt_54, tt_55, tt_56, tt_57, tt_58, tt_59, tt_60, tt_61, tt_62, tt_63, tt_64, tt_65, tt_66, tt_67, tt_68, tt_69, tt_70, tt_71, tt_72, tt_73, tt_74, tt_75, tt_78, tt_79, tt_80, tt_81, tt_82, tt_83, tt_84, tt_85, tt_86, tt_87, tt_88, tt_89, tt_90, tt_91]
    rfl
  intro i hi
  simp only [↓gPre, gPost, handV, V.bufs, buildArr, toCs, List.set_cons_succ, List.set_cons_zero, List.foldr_cons, List.foldr_nil, List.append_eq, Nat.reduceShiftRight, Nat.reduceMod, List.mem_cons, addB, addK, zeroOp, callSem, resName, keepsB, newB, V.pure, C.pure, V.ptrs, C.ptrs, C.bufs, appendSem, dstOk, lk, V.cells, Op.eff, partV, partD, cut, lay, zeroD, C.toDs, C.toD, V.toD, toDs, buildCells, List.flatMap_nil, List.flatMap_cons, List.all_nil, List.all_cons, List.map_nil, List.map_cons, List.zip_cons_cons, List.zip_nil_left, List.nil_append, List.append_nil, List.cons_append, List.drop_zero, List.drop_succ_cons, List.take_succ_cons, List.take_zero, List.length_cons, List.length_nil, List.getElem?_cons_succ, List.getElem?_cons_zero, Option.getD_some, Option.getD_none, Option.map_some, Option.map_none, Option.some.injEq, Option.isSome_none, Option.isSome_some, Option.toList_some, Option.toList_none, if_true, if_false, ↓reduceIte, reduceCtorEq, Nat.reduceEqDiff, Nat.reduceLT, Nat.reduceLeDiff, List.not_mem_nil, false_implies, implies_true, true_and, and_true, forall_const, Nat.succ_ne_self, Bool.false_eq_true, Bool.true_and, Bool.and_true, eq_self, ne_eq, not_true_eq_false, not_false_eq_true, or_true, true_or, and_self, imp_self, bne_self_eq_false, beq_self_eq_true, Bool.or_false, Bool.false_or, Bool.and_false, Bool.false_and, false_or, or_false, Nat.reduceAdd, Nat.reduceMul, beq_true, beq_false, Name.mk.injEq, decide_true, decide_false, Bool.or_true, Bool.true_or, Bool.or_self, Bool.not_eq_true', Bool.not_true, Bool.not_false, Bool.true_eq_false, Bool.cond_true_left, Bool.cond_false_right, Nat.zero_add, Int.reduceLE, Int.reduceLT, Int.reduceNeg, Int.reduceAdd, Int.reduceToNat, List.range_succ, List.range_zero, Int.toNat_natCast, List.mem_nil_iff, List.mem_append, E_sane_eq, E_new_eq, E_next_eq, E_mmap_eq, E_mblock_eq, E_dflt_eq, E_apply_eq, E_same_eq, E_ridx_eq, Try.ntmps5, Try.results5, tt_1, tt_2, tt_3, tt_4, tt_5, tt_6, tt_7, tt_8, tt_12, tt_15, tt_16, tt_17, tt_18, tt_19, tt_21, tt_22, tt_23, tt_24, tt_25, tt_26, tt_27, tt_28, tt_29, tt_30, tt_31, tt_32, tt_33, tt_34, tt_35, tt_36, tt_37, tt_38, tt_39, tt_41, tt_42, tt_44, tt_45, tt_46, tt_47, tt_48, tt_49, tt_50, tt_51, tt_52, tt_53, tt_54, tt_55, tt_56, tt_57, tt_58, tt_59, tt_60, tt_61, tt_62, tt_63, tt_64, tt_65, tt_66, tt_67, tt_68, tt_69, tt_70, tt_71, tt_72, tt_73, tt_74, tt_75, tt_78, tt_79, tt_80, tt_81, tt_82, tt_83, tt_84, tt_85, tt_86, tt_87, tt_88, tt_89, tt_90, tt_91]
  refine fun h1 => ⟨by have := of_decide_eq_true h1; omega, by kernel_rfl, ?_⟩
  have hib : i < b.length := by have := of_decide_eq_true h1; omega
  have hpi : (0 : Int) < (p.length : Int) := by omega
  have td := tdivN i hpi
  have tm := tmodN i hpi
  rw [Int.toNat_natCast] at td tm
  rw [td, tm, Int.toNat_natCast]
  have hml := Nat.mod_lt i hpl
  have hdm : i = i / p.length * p.length + i % p.length := by rw [Nat.mul_comm]; exact (Nat.div_add_mod i p.length).symm
  have hz : i / p.length ≤ i := Nat.div_le_self ..
  have Fr := F (i % p.length) hml
  have hx4 := X4 (i / p.length) (i % p.length) hml (by omega)
  rw [← hdm] at hx4
  have hc : i / p.length < b.length / p.length := by
    rcases Nat.lt_or_ge (i / p.length) (b.length / p.length) with h | h
    · exact h
    · have := Nat.mul_le_mul_right p.length h; omega
  have hcell := cell_lt Fr.2.2.2.1 hc
  rw [Nat.mul_comm p.length (b.length / p.length), ← q5] at hcell
  have e0 : ∀ z : Nat, z ≤ i → IntKind.i64.wrap (z : Int) = (z : Int) := fun z hz => IntWalk.i64_in _ (by omega)
  have e1 := e0 _ hz
  have e2 : IntKind.i64.wrap (((i / p.length : Nat) : Int) * (p.length : Int)) = ((i / p.length * p.length : Nat) : Int) := by
    rw [← Int.natCast_mul]
    exact e0 _ (Nat.div_mul_le_self ..)
  have e3 : idxL p (q[i % p.length]?.getD 0) = ((idxL p (q[i % p.length]?.getD 0)).toNat : Int) := by omega
  rw [e1, e2]
  generalize idxL p (q[i % p.length]?.getD 0) = u at *
  generalize u.toNat = U at *
  subst e3
  rw [← Int.natCast_add, IntWalk.i64_in _ (by omega), Int.toNat_natCast]
  have hv : x[i]?.getD 0 = b[i / p.length * p.length + U]?.getD 0 := hx4
  rw [hv, bne_self_eq_false]
  generalize i / p.length * p.length = y at *
  exact ⟨by omega, by omega, by omega, by omega, by omega, fun h => absurd h (by decide), fun _ => ⟨(wrapN _ (by omega)).symm, by omega, by omega⟩⟩

end Go.Vam
