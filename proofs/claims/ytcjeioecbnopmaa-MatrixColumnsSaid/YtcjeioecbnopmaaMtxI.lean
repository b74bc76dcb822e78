/- The laws MatrixMuls, MatrixIdentity give true. Conditions: none. -/
import Derived.Test.YtcjeioecbnopmaaMtxG
import Derived.Test.YtcjeioecbnopmaaMtxH
set_option linter.unusedVariables false
set_option linter.unusedSimpArgs false
set_option maxRecDepth 40000
set_option maxHeartbeats 4000000
namespace Go.Vam
open Go.Proofs

theorem blkV_bkO (l : List UInt8) {c n : Int} (hc : 1 ≤ c ∧ c ≤ 8) (hn : 0 ≤ n ∧ n ≤ 1000) : blkV c (bkO l (c * n).toNat) = true := by
  have hl : (bkO l (c * n).toNat).length = (c * n).toNat := by simp [bkO]
  have h0 : 0 ≤ c * n := Int.mul_nonneg (by omega) hn.1
  have h1 : c * n ≤ 8 * 1000 := Int.mul_le_mul hc.2 hn.2 hn.1 (by decide)
  unfold blkV
  rw [hl]
  have hch : chBk c (c * n).toNat = false := by
    unfold chBk
    have e : (((c * n).toNat : Nat) : Int) = c * n := by omega
    rw [e, Int.mul_tmod_right, Int.mul_tdiv_cancel_left _ (by omega), IntWalk.i64_in n (by omega)]
    simp only [Bool.or_eq_false_iff, decide_eq_false_iff_not, bne_self_eq_false, and_true]
    omega
  rw [hch]
  simp only [Bool.not_false, Bool.true_and, List.all_eq_true]
  intro x hx
  simp only [bkO, List.mem_map] at hx
  obtain ⟨i, _, rfl⟩ := hx
  have := sV_in (bkR l i)
  simp only [smpX, Bool.and_eq_true, decide_eq_true_eq]
  exact this
theorem dotN_comm (f g : Nat → Int) : ∀ n, dotN f g n = dotN g f n
  | 0 => rfl
  | n + 1 => by
    show dotN f g n + f n * g n = dotN g f n + g n * f n
    rw [dotN_comm f g n, Int.mul_comm]
theorem dotN_pick {f g : Nat → Int} {r : Nat} {v : Int} : ∀ n, (∀ c, c < n → f c = if c = r then v else 0) → dotN f g n = if r < n then v * g r else 0
  | 0, _ => rfl
  | n + 1, h => by
    have ih := dotN_pick (f := f) (g := g) n (fun c hc => h c (by omega))
    show dotN f g n + f n * g n = _
    rw [ih, h n (by omega)]
    by_cases e : n = r
    · subst e; simp
    · rw [if_neg e, Int.zero_mul, Int.add_zero]
      by_cases h1 : r < n
      · rw [if_pos h1, if_pos (by omega)]
      · rw [if_neg h1, if_neg (by omega)]
theorem dotN_congr {f f' g g' : Nat → Int} : ∀ n, (∀ c, c < n → f c = f' c ∧ g c = g' c) → dotN f g n = dotN f' g' n
  | 0, _ => rfl
  | n + 1, h => by
    show dotN f g n + f n * g n = dotN f' g' n + f' n * g' n
    rw [dotN_congr n (fun c hc => h c (by omega)), (h n (by omega)).1, (h n (by omega)).2]
theorem atL_idL {n i j : Nat} (hi : i < n) (hj : j < n) : atL (idL n) (i * n + j) = if i = j then 32768 else 0 := by
  have hb : i * n + j < n * n := cell_lt hj hi
  unfold atL idL
  have e1 : (i * n + j) % n = j := by rw [Nat.add_comm, Nat.add_mul_mod_self_right, Nat.mod_eq_of_lt hj]
  have e2 : (i * n + j) / n = i := by rw [Nat.add_comm, Nat.add_mul_div_right _ _ (by omega), Nat.div_eq_of_lt hj, Nat.zero_add]
  rw [List.getElem?_map, List.getElem?_range hb]
  show (if (i * n + j) / n = (i * n + j) % n then (32768 : Int) else 0) = _
  rw [e1, e2]
theorem rnd (x : Int) : (32768 * x + 16384) / 32768 = x := by omega
theorem satG_self {x : Int} (h : -8388608 ≤ x ∧ x ≤ 8388607) : satG x = x := by unfold satG; omega
theorem clG_self {x : Int} (h : -131072 ≤ x ∧ x ≤ 131072) : clG x = x := by unfold clG; omega
theorem ext_cells {A n : Nat} {l l' : List Int} (hA : 0 < A) (h1 : l.length = n) (h2 : l'.length = n) (h : ∀ q r, r < A → q * A + r < n → atL l (q * A + r) = atL l' (q * A + r)) : l = l' := by
  apply List.ext_getElem (by rw [h1, h2])
  intro j hj hj'
  have e : j = j / A * A + j % A := by rw [Nat.mul_comm]; exact (Nat.div_add_mod j A).symm
  have := h (j / A) (j % A) (Nat.mod_lt _ hA) (by omega)
  rw [← e] at this
  unfold atL at this
  rw [List.getElem?_eq_getElem hj, List.getElem?_eq_getElem hj'] at this
  exact this
theorem atL_map {f : Nat → Int} {n j : Nat} (h : j < n) : atL ((List.range n).map f) j = f j := by
  unfold atL
  rw [List.getElem?_map, List.getElem?_range h]; rfl
theorem idP_one {P : Nat} {l : List Int} (hP : 0 < P) (hl : l.all smpX = true) (hd : l.length = l.length / P * P) : apL P P (idL P) l (l.length / P * P) = l := by
  refine ext_cells hP (apL_len ..) hd fun q r hr hj => ?_
  unfold apL
  rw [atL_map hj, apV_at hr, dotN_pick (r := r) (v := 32768) P (fun c hc => by rw [atL_idL hr hc]; by_cases e : r = c <;> simp [e, eq_comm]), if_pos hr, rnd]
  exact satG_self (getS hl _)
theorem mulI_left {P Q : Nat} {w : List Int} (hP : 0 < P) (hw : w.all coefX = true) (hd : w.length = P * Q) : mulL P P (idL P) w (Q * P) = w := by
  refine ext_cells hP (mulL_len ..) (by rw [hd, Nat.mul_comm]) fun q r hr hj => ?_
  unfold mulL
  rw [atL_map hj, mulV_at hr, dotN_comm, dotN_pick (r := r) (v := 32768) P (fun c hc => atL_idL hc hr), if_pos hr, rnd]
  exact clG_self (getC hw _)
theorem mulI_right {P Q : Nat} {m : List Int} (hP : 0 < P) (hw : m.all coefX = true) (hd : m.length = P * Q) : mulL P Q m (idL Q) (Q * P) = m := by
  refine ext_cells hP (mulL_len ..) (by rw [hd, Nat.mul_comm]) fun q r hr hj => ?_
  have hq : q < Q := by
    rcases Nat.lt_or_ge q Q with h | h
    · exact h
    · have := Nat.mul_le_mul_right P h; omega
  unfold mulL
  rw [atL_map hj, mulV_at hr, dotN_pick (r := q) (v := 32768) Q (fun c hc => by rw [atL_idL hq hc]; by_cases e : q = c <;> simp [e, eq_comm]), if_pos hq, rnd]
  exact clG_self (getC hw _)
theorem mkC_in (l : List UInt8) : -131072 ≤ mkC l ∧ mkC l ≤ 131072 := by
  have h0 := dN_ge l 256
  have h1 := dN_lt l 256 (by decide)
  unfold mkC
  match (dN (dT l 256) 8).toNat with
  | 0 => exact ⟨by simp, by simp⟩
  | 1 => exact ⟨by simp, by simp⟩
  | 2 => exact ⟨by simp, by simp⟩
  | 3 => exact ⟨by simp, by simp⟩
  | 4 => exact ⟨by simp, by simp⟩
  | 5 => exact ⟨by simp, by simp⟩
  | 6 => exact ⟨by simp, by simp⟩
  | 7 => show -131072 ≤ dN l 256 * 128 ∧ dN l 256 * 128 ≤ 131072; omega
  | n + 8 => exact ⟨by simp, by simp⟩
theorem mkL_all (l : List UInt8) (n : Nat) : (mkL l n).all coefX = true := by
  rw [List.all_eq_true]
  intro x hx
  simp only [mkL, List.mem_map] at hx
  obtain ⟨i, _, rfl⟩ := hx
  simpa [coefX] using mkC_in (mkR l i)
theorem mxV_of {a b : Int} {l : List Int} (ha : 1 ≤ a ∧ a ≤ 8) (hb : 1 ≤ b ∧ b ≤ 8) (hl : l.length = (a * b).toNat) (hx : l.all coefX = true) : mxV a b l = true := by
  have hm := mul88 ha hb
  unfold mxV mxB
  rw [hl, hx, IntWalk.i64_in (a * b) (by omega), Bool.and_true, Bool.not_eq_true']
  simp only [Bool.or_eq_false_iff, decide_eq_false_iff_not, bne_eq_false_iff_eq]
  omega
theorem mkL_valid (l : List UInt8) {a b : Int} (ha : 1 ≤ a ∧ a ≤ 8) (hb : 1 ≤ b ∧ b ≤ 8) : mxV a b (mkL l (a * b).toNat) = true := mxV_of ha hb (mkL_len ..) (mkL_all ..)
theorem toNat_mul {a b : Int} (ha : 0 ≤ a) (hb : 0 ≤ b) : (a * b).toNat = a.toNat * b.toNat := by
  have : a * b = ((a.toNat * b.toNat : Nat) : Int) := by rw [Int.natCast_mul]; congr 1 <;> omega
  omega
theorem idL_all (n : Nat) : (idL n).all coefX = true := by
  rw [List.all_eq_true]
  intro x hx
  simp only [idL, List.mem_map] at hx
  obtain ⟨i, _, rfl⟩ := hx
  split <;> decide
theorem id_ok {n : Int} (h : 1 ≤ n ∧ n ≤ 8) : idE n = 0 ∧ idN n = n ∧ idO n = idL n.toNat ∧ mxV n n (idL n.toNat) = true := by
  have hB : idB n = false := by simp only [idB, Bool.or_eq_false_iff, decide_eq_false_iff_not]; omega
  refine ⟨by simp [idE, hB], by simp [idN, hB], by simp [idO, hB], mxV_of h h ?_ (idL_all _)⟩
  rw [toNat_mul (by omega) (by omega)]; simp [idL]
theorem muE_ok {a b : Int} {m : List Int} {c d : Int} {w : List Int} (h1 : mxV a b m = true) (h2 : mxV c d w = true) (h3 : c = b) : muE a b m c d w = 0 := by
  unfold muE; rw [if_neg (by simp [h1, h2]), if_neg (fun k => k h3)]
theorem maps_id : ∀ n, n < 7 → dfE (mapsL[n]?.getD []) (mapsL[n]?.getD []) = 0 ∧ dfO (mapsL[n]?.getD []) (mapsL[n]?.getD []) = idL (mapsL[n]?.getD []).length ∧ 1 ≤ (mapsL[n]?.getD []).length ∧ (mapsL[n]?.getD []).length ≤ 8 := by decide +kernel
theorem map_id (l : List UInt8) : dfE (mapV l) (mapV l) = 0 ∧ dfO (mapV l) (mapV l) = idL (mapV l).length ∧ 1 ≤ (mapV l).length ∧ (mapV l).length ≤ 8 := maps_id _ (by have := dN_ge l 7; have := dN_lt l 7 (by decide); omega)


def itM (p : Int) (r : List UInt8) : Nat → List UInt8
  | 0 => r
  | n + 1 => mkR (itM p r n) p.toNat
theorem muO_len (a b : Int) (m : List Int) (c d : Int) (w : List Int) : (muO a b m c d w).length ≤ 64 := by
  unfold muO
  split
  · rename_i h
    have hv : mxV a b m = true ∧ mxV c d w = true := by
      unfold muE at h
      split at h
      · cases h
      · rename_i h2; simp only [Bool.or_eq_true, Bool.not_eq_true', not_or, Bool.not_eq_false] at h2; exact h2
    have h1 := (mxV_in hv.1).1
    have h2 := (mxV_in hv.2).2.1
    rw [mulL_len]
    exact Nat.mul_le_mul (show d.toNat ≤ 8 by omega) (show a.toNat ≤ 8 by omega)
  · exact Nat.zero_le _

theorem spec_muls (a b : Int) (m : List Int) (c d : Int) (w : List Int) (s : List UInt8) : Spec Try.prog 0 7 [.agg [.d (.int .i64 a), .d (.int .i64 b), .d (.list (LI .i64 m))], .agg [.d (.int .i64 c), .d (.int .i64 d), .d (.list (LI .i64 w))], vL (LB s)] [] [] (vB true) [] [] := by
  refine spec_of_E (X := ⟨Try.prog, tt, Try.f7.ntmps, 1, fun _ => 0, (tab [(9, E_sane), (10, E_kept), (12, E_new), (13, E_next), (14, E_mmat), (30, E_mul), (31, E_rmul), (23, E_same07)])⟩) (M := [(6, [0, 0, 0, 0, 0, 4835704359851232501159903, 0, 0, 0, 0, 0, 0])]) (m := 4835704359850193119074271) rfl rfl ⟨tt_ok, tab_ok (tabs_cons E_sane_ok (tabs_cons E_kept_ok (tabs_cons E_new_ok (tabs_cons E_next_ok (tabs_cons E_mmat_ok (tabs_cons E_mul_ok (tabs_cons E_rmul_ok (tabs_cons E_same07_ok tabs_nil)))))))) _ rfl rfl⟩ tt_mixed Try.func7 rfl (by decide) (by show (3 : Nat) ≤ _; exact Nat.le_of_ble_eq_true rfl) ⟨fun m hm => (V.bare_has rfl m hm).elim, by simp, by simp⟩ ?_
  simp only [↓gPre, gPost, handV, V.bufs, buildArr, toCs, List.set_cons_succ, List.set_cons_zero, List.foldr_cons, List.foldr_nil, List.append_eq, Nat.reduceShiftRight, Nat.reduceMod, List.mem_cons, addB, addK, zeroOp, callSem, resName, keepsB, newB, V.pure, C.pure, V.ptrs, C.ptrs, C.bufs, appendSem, dstOk, lk, V.cells, Op.eff, partV, partD, cut, lay, zeroD, C.toDs, C.toD, V.toD, toDs, buildCells, List.flatMap_nil, List.flatMap_cons, List.all_nil, List.all_cons, List.map_nil, List.map_cons, List.zip_cons_cons, List.zip_nil_left, List.nil_append, List.append_nil, List.cons_append, List.drop_zero, List.drop_succ_cons, List.take_succ_cons, List.take_zero, List.length_cons, List.length_nil, List.getElem?_cons_succ, List.getElem?_cons_zero, Option.getD_some, Option.getD_none, Option.map_some, Option.map_none, Option.some.injEq, Option.isSome_none, Option.isSome_some, Option.toList_some, Option.toList_none, if_true, if_false, ↓reduceIte, reduceCtorEq, Nat.reduceEqDiff, Nat.reduceLT, Nat.reduceLeDiff, List.not_mem_nil, false_implies, implies_true, true_and, and_true, forall_const, Nat.succ_ne_self, Bool.false_eq_true, Bool.true_and, Bool.and_true, eq_self, ne_eq, not_true_eq_false, not_false_eq_true, or_true, true_or, and_self, imp_self, bne_self_eq_false, beq_self_eq_true, Bool.or_false, Bool.false_or, Bool.and_false, Bool.false_and, false_or, or_false, Nat.reduceAdd, Nat.reduceMul, beq_true, beq_false, Name.mk.injEq, decide_true, decide_false, Bool.or_true, Bool.true_or, Bool.or_self, Bool.not_eq_true', Bool.not_true, Bool.not_false, Bool.true_eq_false, Bool.cond_true_left, Bool.cond_false_right, Nat.zero_add, Int.reduceLE, Int.reduceLT, Int.reduceNeg, Int.reduceAdd, Int.reduceToNat, List.range_succ, List.range_zero, Int.toNat_natCast, List.mem_nil_iff, List.mem_append, E_sane_eq, E_kept_eq, E_new_eq, E_next_eq, E_mmat_eq, E_mul_eq, E_rmul_eq, E_same07_eq, Try.ntmps7, Try.results7, tt_1, tt_2, tt_3, tt_4, tt_5, tt_6, tt_7, tt_8, tt_12, tt_15, tt_16, tt_17, tt_18, tt_19, tt_21, tt_22, tt_23, tt_24, tt_25, tt_26, tt_27, tt_28, tt_29, tt_30, tt_31, tt_32, tt_33, tt_34, tt_35, tt_36, tt_37, tt_38, tt_39, tt_41, tt_42, tt_44, tt_45, tt_46, tt_47, tt_48, tt_49, tt_50, tt_51, tt_52, tt_53, tt_54, tt_55, tt_56, tt_57, tt_58, tt_59, tt_60, tt_61, tt_62, tt_63, tt_64, tt_65, tt_66, tt_67, tt_68, tt_69, tt_70, tt_71, tt_72, tt_73, tt_74, tt_75, tt_78, tt_79, tt_80, tt_81, tt_82, tt_83, tt_84, tt_85, tt_86, tt_87, tt_88, tt_89, tt_90, tt_91]
  intro h
  simp only [Bool.or_eq_false_iff, Bool.not_eq_false', decide_eq_true_eq] at h
  refine ⟨by kernel_rfl, ?_⟩
  have hp : 1 ≤ IntKind.i64.wrap (1 + dN (List.take 300 s) 3) ∧ IntKind.i64.wrap (1 + dN (List.take 300 s) 3) ≤ 3 := dN_up _ _ (by decide)
  have hq : 1 ≤ IntKind.i64.wrap (1 + dN (dT (List.take 300 s) 3) 3) ∧ IntKind.i64.wrap (1 + dN (dT (List.take 300 s) 3) 3) ≤ 3 := dN_up _ _ (by decide)
  have hv : 1 ≤ IntKind.i64.wrap (1 + dN (dT (dT (List.take 300 s) 3) 3) 3) ∧ IntKind.i64.wrap (1 + dN (dT (dT (List.take 300 s) 3) 3) 3) ≤ 3 := dN_up _ _ (by decide)
  generalize IntKind.i64.wrap (1 + dN (List.take 300 s) 3) = p at *
  generalize IntKind.i64.wrap (1 + dN (dT (List.take 300 s) 3) 3) = q at *
  generalize IntKind.i64.wrap (1 + dN (dT (dT (List.take 300 s) 3) 3) 3) = v at *
  have hm2 := mkL_len (dT (dT (dT (List.take 300 s) 3) 3) 3) (p * q).toNat
  have hpq := mul88 (a := p) (b := q) (by omega) (by omega)
  have hqv := mul88 (a := q) (b := v) (by omega) (by omega)
  generalize mkL (dT (dT (dT (List.take 300 s) 3) 3) 3) (p * q).toNat = m2 at *
  generalize mkR (dT (dT (dT (List.take 300 s) 3) 3) 3) (p * q).toNat = r at *
  refine ⟨by omega, ?_⟩
  refine ELoop_keep (fun g => ⟨[(47, vI .i64 (g : Nat))], [(⟨1, 30⟩, [.d (.list (LB (itM (q * v) r g)))])], []⟩) (fun g => g ≤ 2) (fun g => 2 - g) (· + 1) 0 (by decide) ?_ ?_
  · simp only [↓gPre, gPost, handV, V.bufs, buildArr, toCs, List.set_cons_succ, List.set_cons_zero, List.foldr_cons, List.foldr_nil, List.append_eq, Nat.reduceShiftRight, Nat.reduceMod, List.mem_cons, addB, addK, zeroOp, callSem, resName, keepsB, newB, V.pure, C.pure, V.ptrs, C.ptrs, C.bufs, appendSem, dstOk, lk, V.cells, Op.eff, partV, partD, cut, lay, zeroD, C.toDs, C.toD, V.toD, toDs, buildCells, List.flatMap_nil, List.flatMap_cons, List.all_nil, List.all_cons, List.map_nil, List.map_cons, List.zip_cons_cons, List.zip_nil_left, List.nil_append, List.append_nil, List.cons_append, List.drop_zero, List.drop_succ_cons, List.take_succ_cons, List.take_zero, List.length_cons, List.length_nil, List.getElem?_cons_succ, List.getElem?_cons_zero, Option.getD_some, Option.getD_none, Option.map_some, Option.map_none, Option.some.injEq, Option.isSome_none, Option.isSome_some, Option.toList_some, Option.toList_none, if_true, if_false, ↓reduceIte, reduceCtorEq, Nat.reduceEqDiff, Nat.reduceLT, Nat.reduceLeDiff, List.not_mem_nil, false_implies, implies_true, true_and, and_true, forall_const, Nat.succ_ne_self, Bool.false_eq_true, Bool.true_and, Bool.and_true, eq_self, ne_eq, not_true_eq_false, not_false_eq_true, or_true, true_or, and_self, imp_self, bne_self_eq_false, beq_self_eq_true, Bool.or_false, Bool.false_or, Bool.and_false, Bool.false_and, false_or, or_false, Nat.reduceAdd, Nat.reduceMul, beq_true, beq_false, Name.mk.injEq, decide_true, decide_false, Bool.or_true, Bool.true_or, Bool.or_self, Bool.not_eq_true', Bool.not_true, Bool.not_false, Bool.true_eq_false, Bool.cond_true_left, Bool.cond_false_right, Nat.zero_add, Int.reduceLE, Int.reduceLT, Int.reduceNeg, Int.reduceAdd, Int.reduceToNat, List.range_succ, List.range_zero, Int.toNat_natCast, List.mem_nil_iff, List.mem_append, E_sane_eq, E_kept_eq, E_new_eq, E_next_eq, E_mmat_eq, E_mul_eq, E_rmul_eq, E_same07_eq, Try.ntmps7, Try.results7, tt_1, tt_2, tt_3, tt_4, tt_5, tt_6, tt_7, tt_8, tt_12, tt_15, tt_16, tt_17, tt_18, tt_19, tt_21, tt_22, tt_23, tt_24, tt_25, tt_26, tt_27, tt_28, tt_29, tt_30, tt_31, tt_32, tt_33, tt_34, tt_35, tt_36, tt_37, tt_38, tt_39, tt_41, tt_42, tt_44, tt_45, tt_46, tt_47, tt_48, tt_49, tt_50, tt_51, tt_52, tt_53, tt_54, tt_55, tt_56, tt_57, tt_58, tt_59, tt_60, tt_61, tt_62, tt_63, tt_64, tt_65, tt_66, tt_67, tt_68, tt_69, tt_70, tt_71, tt_72, tt_73, tt_74, tt_75, tt_78, tt_79, tt_80, tt_81, tt_82, tt_83, tt_84, tt_85, tt_86, tt_87, tt_88, tt_89, tt_90, tt_91]
    exact ⟨rfl, rfl⟩
  intro g hg
  generalize hrg : itM (q * v) r g = rg
  have hrs : itM (q * v) r (g + 1) = mkR rg (q * v).toNat := by rw [← hrg]; rfl
  have hl2 := mkL_len rg (q * v).toNat
  obtain rfl | rfl | rfl : g = 0 ∨ g = 1 ∨ g = 2 := by omega
  · simp only [↓gPre, gPost, handV, V.bufs, buildArr, toCs, List.set_cons_succ, List.set_cons_zero, List.foldr_cons, List.foldr_nil, List.append_eq, Nat.reduceShiftRight, Nat.reduceMod, List.mem_cons, addB, addK, zeroOp, callSem, resName, keepsB, newB, V.pure, C.pure, V.ptrs, C.ptrs, C.bufs, appendSem, dstOk, lk, V.cells, Op.eff, partV, partD, cut, lay, zeroD, C.toDs, C.toD, V.toD, toDs, buildCells, List.flatMap_nil, List.flatMap_cons, List.all_nil, List.all_cons, List.map_nil, List.map_cons, List.zip_cons_cons, List.zip_nil_left, List.nil_append, List.append_nil, List.cons_append, List.drop_zero, List.drop_succ_cons, List.take_succ_cons, List.take_zero, List.length_cons, List.length_nil, List.getElem?_cons_succ, List.getElem?_cons_zero, Option.getD_some, Option.getD_none, Option.map_some, Option.map_none, Option.some.injEq, Option.isSome_none, Option.isSome_some, Option.toList_some, Option.toList_none, if_true, if_false, ↓reduceIte, reduceCtorEq, Nat.reduceEqDiff, Nat.reduceLT, Nat.reduceLeDiff, List.not_mem_nil, false_implies, implies_true, true_and, and_true, forall_const, Nat.succ_ne_self, Bool.false_eq_true, Bool.true_and, Bool.and_true, eq_self, ne_eq, not_true_eq_false, not_false_eq_true, or_true, true_or, and_self, imp_self, bne_self_eq_false, beq_self_eq_true, Bool.or_false, Bool.false_or, Bool.and_false, Bool.false_and, false_or, or_false, Nat.reduceAdd, Nat.reduceMul, beq_true, beq_false, Name.mk.injEq, decide_true, decide_false, Bool.or_true, Bool.true_or, Bool.or_self, Bool.not_eq_true', Bool.not_true, Bool.not_false, Bool.true_eq_false, Bool.cond_true_left, Bool.cond_false_right, Nat.zero_add, Int.reduceLE, Int.reduceLT, Int.reduceNeg, Int.reduceAdd, Int.reduceToNat, List.range_succ, List.range_zero, Int.toNat_natCast, List.mem_nil_iff, List.mem_append, E_sane_eq, E_kept_eq, E_new_eq, E_next_eq, E_mmat_eq, E_mul_eq, E_rmul_eq, E_same07_eq, Try.ntmps7, Try.results7, tt_1, tt_2, tt_3, tt_4, tt_5, tt_6, tt_7, tt_8, tt_12, tt_15, tt_16, tt_17, tt_18, tt_19, tt_21, tt_22, tt_23, tt_24, tt_25, tt_26, tt_27, tt_28, tt_29, tt_30, tt_31, tt_32, tt_33, tt_34, tt_35, tt_36, tt_37, tt_38, tt_39, tt_41, tt_42, tt_44, tt_45, tt_46, tt_47, tt_48, tt_49, tt_50, tt_51, tt_52, tt_53, tt_54, tt_55, tt_56, tt_57, tt_58, tt_59, tt_60, tt_61, tt_62, tt_63, tt_64, tt_65, tt_66, tt_67, tt_68, tt_69, tt_70, tt_71, tt_72, tt_73, tt_74, tt_75, tt_78, tt_79, tt_80, tt_81, tt_82, tt_83, tt_84, tt_85, tt_86, tt_87, tt_88, tt_89, tt_90, tt_91]
    refine fun _ => ⟨by decide, by kernel_rfl, by omega, ?_⟩
    generalize mkL rg (q * v).toNat = l2 at *
    generalize mkR rg (q * v).toNat = r2 at *
    refine ELoop_keep (fun i => ⟨[(58, vI .i64 (i : Nat))], [], []⟩) (fun i => i ≤ 2) (fun i => 2 - i) (· + 1) 0 (by decide) ?_ ?_
    · simp only [↓gPre, gPost, handV, V.bufs, buildArr, toCs, List.set_cons_succ, List.set_cons_zero, List.foldr_cons, List.foldr_nil, List.append_eq, Nat.reduceShiftRight, Nat.reduceMod, List.mem_cons, addB, addK, zeroOp, callSem, resName, keepsB, newB, V.pure, C.pure, V.ptrs, C.ptrs, C.bufs, appendSem, dstOk, lk, V.cells, Op.eff, partV, partD, cut, lay, zeroD, C.toDs, C.toD, V.toD, toDs, buildCells, List.flatMap_nil, List.flatMap_cons, List.all_nil, List.all_cons, List.map_nil, List.map_cons, List.zip_cons_cons, List.zip_nil_left, List.nil_append, List.append_nil, List.cons_append, List.drop_zero, List.drop_succ_cons, List.take_succ_cons, List.take_zero, List.length_cons, List.length_nil, List.getElem?_cons_succ, List.getElem?_cons_zero, Option.getD_some, Option.getD_none, Option.map_some, Option.map_none, Option.some.injEq, Option.isSome_none, Option.isSome_some, Option.toList_some, Option.toList_none, if_true, if_false, ↓reduceIte, reduceCtorEq, Nat.reduceEqDiff, Nat.reduceLT, Nat.reduceLeDiff, List.not_mem_nil, false_implies, implies_true, true_and, and_true, forall_const, Nat.succ_ne_self, Bool.false_eq_true, Bool.true_and, Bool.and_true, eq_self, ne_eq, not_true_eq_false, not_false_eq_true, or_true, true_or, and_self, imp_self, bne_self_eq_false, beq_self_eq_true, Bool.or_false, Bool.false_or, Bool.and_false, Bool.false_and, false_or, or_false, Nat.reduceAdd, Nat.reduceMul, beq_true, beq_false, Name.mk.injEq, decide_true, decide_false, Bool.or_true, Bool.true_or, Bool.or_self, Bool.not_eq_true', Bool.not_true, Bool.not_false, Bool.true_eq_false, Bool.cond_true_left, Bool.cond_false_right, Nat.zero_add, Int.reduceLE, Int.reduceLT, Int.reduceNeg, Int.reduceAdd, Int.reduceToNat, List.range_succ, List.range_zero, Int.toNat_natCast, List.mem_nil_iff, List.mem_append, E_sane_eq, E_kept_eq, E_new_eq, E_next_eq, E_mmat_eq, E_mul_eq, E_rmul_eq, E_same07_eq, Try.ntmps7, Try.results7, tt_1, tt_2, tt_3, tt_4, tt_5, tt_6, tt_7, tt_8, tt_12, tt_15, tt_16, tt_17, tt_18, tt_19, tt_21, tt_22, tt_23, tt_24, tt_25, tt_26, tt_27, tt_28, tt_29, tt_30, tt_31, tt_32, tt_33, tt_34, tt_35, tt_36, tt_37, tt_38, tt_39, tt_41, tt_42, tt_44, tt_45, tt_46, tt_47, tt_48, tt_49, tt_50, tt_51, tt_52, tt_53, tt_54, tt_55, tt_56, tt_57, tt_58, tt_59, tt_60, tt_61, tt_62, tt_63, tt_64, tt_65, tt_66, tt_67, tt_68, tt_69, tt_70, tt_71, tt_72, tt_73, tt_74, tt_75, tt_78, tt_79, tt_80, tt_81, tt_82, tt_83, tt_84, tt_85, tt_86, tt_87, tt_88, tt_89, tt_90, tt_91]
      rfl
    intro i hi
    obtain rfl | rfl | rfl : i = 0 ∨ i = 1 ∨ i = 2 := by omega
    · simp only [↓gPre, gPost, handV, V.bufs, buildArr, toCs, List.set_cons_succ, List.set_cons_zero, List.foldr_cons, List.foldr_nil, List.append_eq, Nat.reduceShiftRight, Nat.reduceMod, List.mem_cons, addB, addK, zeroOp, callSem, resName, keepsB, newB, V.pure, C.pure, V.ptrs, C.ptrs, C.bufs, appendSem, dstOk, lk, V.cells, Op.eff, partV, partD, cut, lay, zeroD, C.toDs, C.toD, V.toD, toDs, buildCells, List.flatMap_nil, List.flatMap_cons, List.all_nil, List.all_cons, List.map_nil, List.map_cons, List.zip_cons_cons, List.zip_nil_left, List.nil_append, List.append_nil, List.cons_append, List.drop_zero, List.drop_succ_cons, List.take_succ_cons, List.take_zero, List.length_cons, List.length_nil, List.getElem?_cons_succ, List.getElem?_cons_zero, Option.getD_some, Option.getD_none, Option.map_some, Option.map_none, Option.some.injEq, Option.isSome_none, Option.isSome_some, Option.toList_some, Option.toList_none, if_true, if_false, ↓reduceIte, reduceCtorEq, Nat.reduceEqDiff, Nat.reduceLT, Nat.reduceLeDiff, List.not_mem_nil, false_implies, implies_true, true_and, and_true, forall_const, Nat.succ_ne_self, Bool.false_eq_true, Bool.true_and, Bool.and_true, eq_self, ne_eq, not_true_eq_false, not_false_eq_true, or_true, true_or, and_self, imp_self, bne_self_eq_false, beq_self_eq_true, Bool.or_false, Bool.false_or, Bool.and_false, Bool.false_and, false_or, or_false, Nat.reduceAdd, Nat.reduceMul, beq_true, beq_false, Name.mk.injEq, decide_true, decide_false, Bool.or_true, Bool.true_or, Bool.or_self, Bool.not_eq_true', Bool.not_true, Bool.not_false, Bool.true_eq_false, Bool.cond_true_left, Bool.cond_false_right, Nat.zero_add, Int.reduceLE, Int.reduceLT, Int.reduceNeg, Int.reduceAdd, Int.reduceToNat, List.range_succ, List.range_zero, Int.toNat_natCast, List.mem_nil_iff, List.mem_append, E_sane_eq, E_kept_eq, E_new_eq, E_next_eq, E_mmat_eq, E_mul_eq, E_rmul_eq, E_same07_eq, Try.ntmps7, Try.results7, tt_1, tt_2, tt_3, tt_4, tt_5, tt_6, tt_7, tt_8, tt_12, tt_15, tt_16, tt_17, tt_18, tt_19, tt_21, tt_22, tt_23, tt_24, tt_25, tt_26, tt_27, tt_28, tt_29, tt_30, tt_31, tt_32, tt_33, tt_34, tt_35, tt_36, tt_37, tt_38, tt_39, tt_41, tt_42, tt_44, tt_45, tt_46, tt_47, tt_48, tt_49, tt_50, tt_51, tt_52, tt_53, tt_54, tt_55, tt_56, tt_57, tt_58, tt_59, tt_60, tt_61, tt_62, tt_63, tt_64, tt_65, tt_66, tt_67, tt_68, tt_69, tt_70, tt_71, tt_72, tt_73, tt_74, tt_75, tt_78, tt_79, tt_80, tt_81, tt_82, tt_83, tt_84, tt_85, tt_86, tt_87, tt_88, tt_89, tt_90, tt_91]
      refine ⟨fun _ => ⟨by decide, by omega, by omega, ?_⟩, fun h => absurd h (by decide)⟩
      exact ⟨by have := muO_len a b m c d w; omega, (wrapN _ (by omega)).symm, by omega⟩
    · simp only [↓gPre, gPost, handV, V.bufs, buildArr, toCs, List.set_cons_succ, List.set_cons_zero, List.foldr_cons, List.foldr_nil, List.append_eq, Nat.reduceShiftRight, Nat.reduceMod, List.mem_cons, addB, addK, zeroOp, callSem, resName, keepsB, newB, V.pure, C.pure, V.ptrs, C.ptrs, C.bufs, appendSem, dstOk, lk, V.cells, Op.eff, partV, partD, cut, lay, zeroD, C.toDs, C.toD, V.toD, toDs, buildCells, List.flatMap_nil, List.flatMap_cons, List.all_nil, List.all_cons, List.map_nil, List.map_cons, List.zip_cons_cons, List.zip_nil_left, List.nil_append, List.append_nil, List.cons_append, List.drop_zero, List.drop_succ_cons, List.take_succ_cons, List.take_zero, List.length_cons, List.length_nil, List.getElem?_cons_succ, List.getElem?_cons_zero, Option.getD_some, Option.getD_none, Option.map_some, Option.map_none, Option.some.injEq, Option.isSome_none, Option.isSome_some, Option.toList_some, Option.toList_none, if_true, if_false, ↓reduceIte, reduceCtorEq, Nat.reduceEqDiff, Nat.reduceLT, Nat.reduceLeDiff, List.not_mem_nil, false_implies, implies_true, true_and, and_true, forall_const, Nat.succ_ne_self, Bool.false_eq_true, Bool.true_and, Bool.and_true, eq_self, ne_eq, not_true_eq_false, not_false_eq_true, or_true, true_or, and_self, imp_self, bne_self_eq_false, beq_self_eq_true, Bool.or_false, Bool.false_or, Bool.and_false, Bool.false_and, false_or, or_false, Nat.reduceAdd, Nat.reduceMul, beq_true, beq_false, Name.mk.injEq, decide_true, decide_false, Bool.or_true, Bool.true_or, Bool.or_self, Bool.not_eq_true', Bool.not_true, Bool.not_false, Bool.true_eq_false, Bool.cond_true_left, Bool.cond_false_right, Nat.zero_add, Int.reduceLE, Int.reduceLT, Int.reduceNeg, Int.reduceAdd, Int.reduceToNat, List.range_succ, List.range_zero, Int.toNat_natCast, List.mem_nil_iff, List.mem_append, E_sane_eq, E_kept_eq, E_new_eq, E_next_eq, E_mmat_eq, E_mul_eq, E_rmul_eq, E_same07_eq, Try.ntmps7, Try.results7, tt_1, tt_2, tt_3, tt_4, tt_5, tt_6, tt_7, tt_8, tt_12, tt_15, tt_16, tt_17, tt_18, tt_19, tt_21, tt_22, tt_23, tt_24, tt_25, tt_26, tt_27, tt_28, tt_29, tt_30, tt_31, tt_32, tt_33, tt_34, tt_35, tt_36, tt_37, tt_38, tt_39, tt_41, tt_42, tt_44, tt_45, tt_46, tt_47, tt_48, tt_49, tt_50, tt_51, tt_52, tt_53, tt_54, tt_55, tt_56, tt_57, tt_58, tt_59, tt_60, tt_61, tt_62, tt_63, tt_64, tt_65, tt_66, tt_67, tt_68, tt_69, tt_70, tt_71, tt_72, tt_73, tt_74, tt_75, tt_78, tt_79, tt_80, tt_81, tt_82, tt_83, tt_84, tt_85, tt_86, tt_87, tt_88, tt_89, tt_90, tt_91]
      refine ⟨fun _ => ⟨by decide, by omega, by omega, ?_⟩, fun h => absurd h (by decide)⟩
      exact ⟨by have := muO_len a b m q v l2; omega, (wrapN _ (by omega)).symm, by omega⟩
    · simp only [↓gPre, gPost, handV, V.bufs, buildArr, toCs, List.set_cons_succ, List.set_cons_zero, List.foldr_cons, List.foldr_nil, List.append_eq, Nat.reduceShiftRight, Nat.reduceMod, List.mem_cons, addB, addK, zeroOp, callSem, resName, keepsB, newB, V.pure, C.pure, V.ptrs, C.ptrs, C.bufs, appendSem, dstOk, lk, V.cells, Op.eff, partV, partD, cut, lay, zeroD, C.toDs, C.toD, V.toD, toDs, buildCells, List.flatMap_nil, List.flatMap_cons, List.all_nil, List.all_cons, List.map_nil, List.map_cons, List.zip_cons_cons, List.zip_nil_left, List.nil_append, List.append_nil, List.cons_append, List.drop_zero, List.drop_succ_cons, List.take_succ_cons, List.take_zero, List.length_cons, List.length_nil, List.getElem?_cons_succ, List.getElem?_cons_zero, Option.getD_some, Option.getD_none, Option.map_some, Option.map_none, Option.some.injEq, Option.isSome_none, Option.isSome_some, Option.toList_some, Option.toList_none, if_true, if_false, ↓reduceIte, reduceCtorEq, Nat.reduceEqDiff, Nat.reduceLT, Nat.reduceLeDiff, List.not_mem_nil, false_implies, implies_true, true_and, and_true, forall_const, Nat.succ_ne_self, Bool.false_eq_true, Bool.true_and, Bool.and_true, eq_self, ne_eq, not_true_eq_false, not_false_eq_true, or_true, true_or, and_self, imp_self, bne_self_eq_false, beq_self_eq_true, Bool.or_false, Bool.false_or, Bool.and_false, Bool.false_and, false_or, or_false, Nat.reduceAdd, Nat.reduceMul, beq_true, beq_false, Name.mk.injEq, decide_true, decide_false, Bool.or_true, Bool.true_or, Bool.or_self, Bool.not_eq_true', Bool.not_true, Bool.not_false, Bool.true_eq_false, Bool.cond_true_left, Bool.cond_false_right, Nat.zero_add, Int.reduceLE, Int.reduceLT, Int.reduceNeg, Int.reduceAdd, Int.reduceToNat, List.range_succ, List.range_zero, Int.toNat_natCast, List.mem_nil_iff, List.mem_append, E_sane_eq, E_kept_eq, E_new_eq, E_next_eq, E_mmat_eq, E_mul_eq, E_rmul_eq, E_same07_eq, Try.ntmps7, Try.results7, tt_1, tt_2, tt_3, tt_4, tt_5, tt_6, tt_7, tt_8, tt_12, tt_15, tt_16, tt_17, tt_18, tt_19, tt_21, tt_22, tt_23, tt_24, tt_25, tt_26, tt_27, tt_28, tt_29, tt_30, tt_31, tt_32, tt_33, tt_34, tt_35, tt_36, tt_37, tt_38, tt_39, tt_41, tt_42, tt_44, tt_45, tt_46, tt_47, tt_48, tt_49, tt_50, tt_51, tt_52, tt_53, tt_54, tt_55, tt_56, tt_57, tt_58, tt_59, tt_60, tt_61, tt_62, tt_63, tt_64, tt_65, tt_66, tt_67, tt_68, tt_69, tt_70, tt_71, tt_72, tt_73, tt_74, tt_75, tt_78, tt_79, tt_80, tt_81, tt_82, tt_83, tt_84, tt_85, tt_86, tt_87, tt_88, tt_89, tt_90, tt_91]
      exact ⟨fun h => absurd h (by decide), fun _ => ⟨⟨(wrapN _ (by omega)).symm, hrs⟩, by omega⟩⟩
  · simp only [↓gPre, gPost, handV, V.bufs, buildArr, toCs, List.set_cons_succ, List.set_cons_zero, List.foldr_cons, List.foldr_nil, List.append_eq, Nat.reduceShiftRight, Nat.reduceMod, List.mem_cons, addB, addK, zeroOp, callSem, resName, keepsB, newB, V.pure, C.pure, V.ptrs, C.ptrs, C.bufs, appendSem, dstOk, lk, V.cells, Op.eff, partV, partD, cut, lay, zeroD, C.toDs, C.toD, V.toD, toDs, buildCells, List.flatMap_nil, List.flatMap_cons, List.all_nil, List.all_cons, List.map_nil, List.map_cons, List.zip_cons_cons, List.zip_nil_left, List.nil_append, List.append_nil, List.cons_append, List.drop_zero, List.drop_succ_cons, List.take_succ_cons, List.take_zero, List.length_cons, List.length_nil, List.getElem?_cons_succ, List.getElem?_cons_zero, Option.getD_some, Option.getD_none, Option.map_some, Option.map_none, Option.some.injEq, Option.isSome_none, Option.isSome_some, Option.toList_some, Option.toList_none, if_true, if_false, ↓reduceIte, reduceCtorEq, Nat.reduceEqDiff, Nat.reduceLT, Nat.reduceLeDiff, List.not_mem_nil, false_implies, implies_true, true_and, and_true, forall_const, Nat.succ_ne_self, Bool.false_eq_true, Bool.true_and, Bool.and_true, eq_self, ne_eq, not_true_eq_false, not_false_eq_true, or_true, true_or, and_self, imp_self, bne_self_eq_false, beq_self_eq_true, Bool.or_false, Bool.false_or, Bool.and_false, Bool.false_and, false_or, or_false, Nat.reduceAdd, Nat.reduceMul, beq_true, beq_false, Name.mk.injEq, decide_true, decide_false, Bool.or_true, Bool.true_or, Bool.or_self, Bool.not_eq_true', Bool.not_true, Bool.not_false, Bool.true_eq_false, Bool.cond_true_left, Bool.cond_false_right, Nat.zero_add, Int.reduceLE, Int.reduceLT, Int.reduceNeg, Int.reduceAdd, Int.reduceToNat, List.range_succ, List.range_zero, Int.toNat_natCast, List.mem_nil_iff, List.mem_append, E_sane_eq, E_kept_eq, E_new_eq, E_next_eq, E_mmat_eq, E_mul_eq, E_rmul_eq, E_same07_eq, Try.ntmps7, Try.results7, tt_1, tt_2, tt_3, tt_4, tt_5, tt_6, tt_7, tt_8, tt_12, tt_15, tt_16, tt_17, tt_18, tt_19, tt_21, tt_22, tt_23, tt_24, tt_25, tt_26, tt_27, tt_28, tt_29, tt_30, tt_31, tt_32, tt_33, tt_34, tt_35, tt_36, tt_37, tt_38, tt_39, tt_41, tt_42, tt_44, tt_45, tt_46, tt_47, tt_48, tt_49, tt_50, tt_51, tt_52, tt_53, tt_54, tt_55, tt_56, tt_57, tt_58, tt_59, tt_60, tt_61, tt_62, tt_63, tt_64, tt_65, tt_66, tt_67, tt_68, tt_69, tt_70, tt_71, tt_72, tt_73, tt_74, tt_75, tt_78, tt_79, tt_80, tt_81, tt_82, tt_83, tt_84, tt_85, tt_86, tt_87, tt_88, tt_89, tt_90, tt_91]
    refine fun _ => ⟨by decide, by kernel_rfl, by omega, ?_⟩
    generalize mkL rg (q * v).toNat = l2 at *
    generalize mkR rg (q * v).toNat = r2 at *
    refine ELoop_keep (fun i => ⟨[(58, vI .i64 (i : Nat))], [], []⟩) (fun i => i ≤ 2) (fun i => 2 - i) (· + 1) 0 (by decide) ?_ ?_
    · simp only [↓gPre, gPost, handV, V.bufs, buildArr, toCs, List.set_cons_succ, List.set_cons_zero, List.foldr_cons, List.foldr_nil, List.append_eq, Nat.reduceShiftRight, Nat.reduceMod, List.mem_cons, addB, addK, zeroOp, callSem, resName, keepsB, newB, V.pure, C.pure, V.ptrs, C.ptrs, C.bufs, appendSem, dstOk, lk, V.cells, Op.eff, partV, partD, cut, lay, zeroD, C.toDs, C.toD, V.toD, toDs, buildCells, List.flatMap_nil, List.flatMap_cons, List.all_nil, List.all_cons, List.map_nil, List.map_cons, List.zip_cons_cons, List.zip_nil_left, List.nil_append, List.append_nil, List.cons_append, List.drop_zero, List.drop_succ_cons, List.take_succ_cons, List.take_zero, List.length_cons, List.length_nil, List.getElem?_cons_succ, List.getElem?_cons_zero, Option.getD_some, Option.getD_none, Option.map_some, Option.map_none, Option.some.injEq, Option.isSome_none, Option.isSome_some, Option.toList_some, Option.toList_none, if_true, if_false, ↓reduceIte, reduceCtorEq, Nat.reduceEqDiff, Nat.reduceLT, Nat.reduceLeDiff, List.not_mem_nil, false_implies, implies_true, true_and, and_true, forall_const, Nat.succ_ne_self, Bool.false_eq_true, Bool.true_and, Bool.and_true, eq_self, ne_eq, not_true_eq_false, not_false_eq_true, or_true, true_or, and_self, imp_self, bne_self_eq_false, beq_self_eq_true, Bool.or_false, Bool.false_or, Bool.and_false, Bool.false_and, false_or, or_false, Nat.reduceAdd, Nat.reduceMul, beq_true, beq_false, Name.mk.injEq, decide_true, decide_false, Bool.or_true, Bool.true_or, Bool.or_self, Bool.not_eq_true', Bool.not_true, Bool.not_false, Bool.true_eq_false, Bool.cond_true_left, Bool.cond_false_right, Nat.zero_add, Int.reduceLE, Int.reduceLT, Int.reduceNeg, Int.reduceAdd, Int.reduceToNat, List.range_succ, List.range_zero, Int.toNat_natCast, List.mem_nil_iff, List.mem_append, E_sane_eq, E_kept_eq, E_new_eq, E_next_eq, E_mmat_eq, E_mul_eq, E_rmul_eq, E_same07_eq, Try.ntmps7, Try.results7, tt_1, tt_2, tt_3, tt_4, tt_5, tt_6, tt_7, tt_8, tt_12, tt_15, tt_16, tt_17, tt_18, tt_19, tt_21, tt_22, tt_23, tt_24, tt_25, tt_26, tt_27, tt_28, tt_29, tt_30, tt_31, tt_32, tt_33, tt_34, tt_35, tt_36, tt_37, tt_38, tt_39, tt_41, tt_42, tt_44, tt_45, tt_46, tt_47, tt_48, tt_49, tt_50, tt_51, tt_52, tt_53, tt_54, tt_55, tt_56, tt_57, tt_58, tt_59, tt_60, tt_61, tt_62, tt_63, tt_64, tt_65, tt_66, tt_67, tt_68, tt_69, tt_70, tt_71, tt_72, tt_73, tt_74, tt_75, tt_78, tt_79, tt_80, tt_81, tt_82, tt_83, tt_84, tt_85, tt_86, tt_87, tt_88, tt_89, tt_90, tt_91]
      rfl
    intro i hi
    obtain rfl | rfl | rfl : i = 0 ∨ i = 1 ∨ i = 2 := by omega
    · simp only [↓gPre, gPost, handV, V.bufs, buildArr, toCs, List.set_cons_succ, List.set_cons_zero, List.foldr_cons, List.foldr_nil, List.append_eq, Nat.reduceShiftRight, Nat.reduceMod, List.mem_cons, addB, addK, zeroOp, callSem, resName, keepsB, newB, V.pure, C.pure, V.ptrs, C.ptrs, C.bufs, appendSem, dstOk, lk, V.cells, Op.eff, partV, partD, cut, lay, zeroD, C.toDs, C.toD, V.toD, toDs, buildCells, List.flatMap_nil, List.flatMap_cons, List.all_nil, List.all_cons, List.map_nil, List.map_cons, List.zip_cons_cons, List.zip_nil_left, List.nil_append, List.append_nil, List.cons_append, List.drop_zero, List.drop_succ_cons, List.take_succ_cons, List.take_zero, List.length_cons, List.length_nil, List.getElem?_cons_succ, List.getElem?_cons_zero, Option.getD_some, Option.getD_none, Option.map_some, Option.map_none, Option.some.injEq, Option.isSome_none, Option.isSome_some, Option.toList_some, Option.toList_none, if_true, if_false, ↓reduceIte, reduceCtorEq, Nat.reduceEqDiff, Nat.reduceLT, Nat.reduceLeDiff, List.not_mem_nil, false_implies, implies_true, true_and, and_true, forall_const, Nat.succ_ne_self, Bool.false_eq_true, Bool.true_and, Bool.and_true, eq_self, ne_eq, not_true_eq_false, not_false_eq_true, or_true, true_or, and_self, imp_self, bne_self_eq_false, beq_self_eq_true, Bool.or_false, Bool.false_or, Bool.and_false, Bool.false_and, false_or, or_false, Nat.reduceAdd, Nat.reduceMul, beq_true, beq_false, Name.mk.injEq, decide_true, decide_false, Bool.or_true, Bool.true_or, Bool.or_self, Bool.not_eq_true', Bool.not_true, Bool.not_false, Bool.true_eq_false, Bool.cond_true_left, Bool.cond_false_right, Nat.zero_add, Int.reduceLE, Int.reduceLT, Int.reduceNeg, Int.reduceAdd, Int.reduceToNat, List.range_succ, List.range_zero, Int.toNat_natCast, List.mem_nil_iff, List.mem_append, E_sane_eq, E_kept_eq, E_new_eq, E_next_eq, E_mmat_eq, E_mul_eq, E_rmul_eq, E_same07_eq, Try.ntmps7, Try.results7, tt_1, tt_2, tt_3, tt_4, tt_5, tt_6, tt_7, tt_8, tt_12, tt_15, tt_16, tt_17, tt_18, tt_19, tt_21, tt_22, tt_23, tt_24, tt_25, tt_26, tt_27, tt_28, tt_29, tt_30, tt_31, tt_32, tt_33, tt_34, tt_35, tt_36, tt_37, tt_38, tt_39, tt_41, tt_42, tt_44, tt_45, tt_46, tt_47, tt_48, tt_49, tt_50, tt_51, tt_52, tt_53, tt_54, tt_55, tt_56, tt_57, tt_58, tt_59, tt_60, tt_61, tt_62, tt_63, tt_64, tt_65, tt_66, tt_67, tt_68, tt_69, tt_70, tt_71, tt_72, tt_73, tt_74, tt_75, tt_78, tt_79, tt_80, tt_81, tt_82, tt_83, tt_84, tt_85, tt_86, tt_87, tt_88, tt_89, tt_90, tt_91]
      refine ⟨fun _ => ⟨by decide, by omega, by omega, ?_⟩, fun h => absurd h (by decide)⟩
      exact ⟨by have := muO_len p q m2 c d w; omega, (wrapN _ (by omega)).symm, by omega⟩
    · simp only [↓gPre, gPost, handV, V.bufs, buildArr, toCs, List.set_cons_succ, List.set_cons_zero, List.foldr_cons, List.foldr_nil, List.append_eq, Nat.reduceShiftRight, Nat.reduceMod, List.mem_cons, addB, addK, zeroOp, callSem, resName, keepsB, newB, V.pure, C.pure, V.ptrs, C.ptrs, C.bufs, appendSem, dstOk, lk, V.cells, Op.eff, partV, partD, cut, lay, zeroD, C.toDs, C.toD, V.toD, toDs, buildCells, List.flatMap_nil, List.flatMap_cons, List.all_nil, List.all_cons, List.map_nil, List.map_cons, List.zip_cons_cons, List.zip_nil_left, List.nil_append, List.append_nil, List.cons_append, List.drop_zero, List.drop_succ_cons, List.take_succ_cons, List.take_zero, List.length_cons, List.length_nil, List.getElem?_cons_succ, List.getElem?_cons_zero, Option.getD_some, Option.getD_none, Option.map_some, Option.map_none, Option.some.injEq, Option.isSome_none, Option.isSome_some, Option.toList_some, Option.toList_none, if_true, if_false, ↓reduceIte, reduceCtorEq, Nat.reduceEqDiff, Nat.reduceLT, Nat.reduceLeDiff, List.not_mem_nil, false_implies, implies_true, true_and, and_true, forall_const, Nat.succ_ne_self, Bool.false_eq_true, Bool.true_and, Bool.and_true, eq_self, ne_eq, not_true_eq_false, not_false_eq_true, or_true, true_or, and_self, imp_self, bne_self_eq_false, beq_self_eq_true, Bool.or_false, Bool.false_or, Bool.and_false, Bool.false_and, false_or, or_false, Nat.reduceAdd, Nat.reduceMul, beq_true, beq_false, Name.mk.injEq, decide_true, decide_false, Bool.or_true, Bool.true_or, Bool.or_self, Bool.not_eq_true', Bool.not_true, Bool.not_false, Bool.true_eq_false, Bool.cond_true_left, Bool.cond_false_right, Nat.zero_add, Int.reduceLE, Int.reduceLT, Int.reduceNeg, Int.reduceAdd, Int.reduceToNat, List.range_succ, List.range_zero, Int.toNat_natCast, List.mem_nil_iff, List.mem_append, E_sane_eq, E_kept_eq, E_new_eq, E_next_eq, E_mmat_eq, E_mul_eq, E_rmul_eq, E_same07_eq, Try.ntmps7, Try.results7, tt_1, tt_2, tt_3, tt_4, tt_5, tt_6, tt_7, tt_8, tt_12, tt_15, tt_16, tt_17, tt_18, tt_19, tt_21, tt_22, tt_23, tt_24, tt_25, tt_26, tt_27, tt_28, tt_29, tt_30, tt_31, tt_32, tt_33, tt_34, tt_35, tt_36, tt_37, tt_38, tt_39, tt_41, tt_42, tt_44, tt_45, tt_46, tt_47, tt_48, tt_49, tt_50, tt_51, tt_52, tt_53, tt_54, tt_55, tt_56, tt_57, tt_58, tt_59, tt_60, tt_61, tt_62, tt_63, tt_64, tt_65, tt_66, tt_67, tt_68, tt_69, tt_70, tt_71, tt_72, tt_73, tt_74, tt_75, tt_78, tt_79, tt_80, tt_81, tt_82, tt_83, tt_84, tt_85, tt_86, tt_87, tt_88, tt_89, tt_90, tt_91]
      refine ⟨fun _ => ⟨by decide, by omega, by omega, ?_⟩, fun h => absurd h (by decide)⟩
      exact ⟨by have := muO_len p q m2 q v l2; omega, (wrapN _ (by omega)).symm, by omega⟩
    · simp only [↓gPre, gPost, handV, V.bufs, buildArr, toCs, List.set_cons_succ, List.set_cons_zero, List.foldr_cons, List.foldr_nil, List.append_eq, Nat.reduceShiftRight, Nat.reduceMod, List.mem_cons, addB, addK, zeroOp, callSem, resName, keepsB, newB, V.pure, C.pure, V.ptrs, C.ptrs, C.bufs, appendSem, dstOk, lk, V.cells, Op.eff, partV, partD, cut, lay, zeroD, C.toDs, C.toD, V.toD, toDs, buildCells, List.flatMap_nil, List.flatMap_cons, List.all_nil, List.all_cons, List.map_nil, List.map_cons, List.zip_cons_cons, List.zip_nil_left, List.nil_append, List.append_nil, List.cons_append, List.drop_zero, List.drop_succ_cons, List.take_succ_cons, List.take_zero, List.length_cons, List.length_nil, List.getElem?_cons_succ, List.getElem?_cons_zero, Option.getD_some, Option.getD_none, Option.map_some, Option.map_none, Option.some.injEq, Option.isSome_none, Option.isSome_some, Option.toList_some, Option.toList_none, if_true, if_false, ↓reduceIte, reduceCtorEq, Nat.reduceEqDiff, Nat.reduceLT, Nat.reduceLeDiff, List.not_mem_nil, false_implies, implies_true, true_and, and_true, forall_const, Nat.succ_ne_self, Bool.false_eq_true, Bool.true_and, Bool.and_true, eq_self, ne_eq, not_true_eq_false, not_false_eq_true, or_true, true_or, and_self, imp_self, bne_self_eq_false, beq_self_eq_true, Bool.or_false, Bool.false_or, Bool.and_false, Bool.false_and, false_or, or_false, Nat.reduceAdd, Nat.reduceMul, beq_true, beq_false, Name.mk.injEq, decide_true, decide_false, Bool.or_true, Bool.true_or, Bool.or_self, Bool.not_eq_true', Bool.not_true, Bool.not_false, Bool.true_eq_false, Bool.cond_true_left, Bool.cond_false_right, Nat.zero_add, Int.reduceLE, Int.reduceLT, Int.reduceNeg, Int.reduceAdd, Int.reduceToNat, List.range_succ, List.range_zero, Int.toNat_natCast, List.mem_nil_iff, List.mem_append, E_sane_eq, E_kept_eq, E_new_eq, E_next_eq, E_mmat_eq, E_mul_eq, E_rmul_eq, E_same07_eq, Try.ntmps7, Try.results7, tt_1, tt_2, tt_3, tt_4, tt_5, tt_6, tt_7, tt_8, tt_12, tt_15, tt_16, tt_17, tt_18, tt_19, tt_21, tt_22, tt_23, tt_24, tt_25, tt_26, tt_27, tt_28, tt_29, tt_30, tt_31, tt_32, tt_33, tt_34, tt_35, tt_36, tt_37, tt_38, tt_39, tt_41, tt_42, tt_44, tt_45, tt_46, tt_47, tt_48, tt_49, tt_50, tt_51, tt_52, tt_53, tt_54, tt_55, tt_56, tt_57, tt_58, tt_59, tt_60, tt_61, tt_62, tt_63, tt_64, tt_65, tt_66, tt_67, tt_68, tt_69, tt_70, tt_71, tt_72, tt_73, tt_74, tt_75, tt_78, tt_79, tt_80, tt_81, tt_82, tt_83, tt_84, tt_85, tt_86, tt_87, tt_88, tt_89, tt_90, tt_91]
      exact ⟨fun h => absurd h (by decide), fun _ => ⟨⟨(wrapN _ (by omega)).symm, hrs⟩, by omega⟩⟩
  · simp only [↓gPre, gPost, handV, V.bufs, buildArr, toCs, List.set_cons_succ, List.set_cons_zero, List.foldr_cons, List.foldr_nil, List.append_eq, Nat.reduceShiftRight, Nat.reduceMod, List.mem_cons, addB, addK, zeroOp, callSem, resName, keepsB, newB, V.pure, C.pure, V.ptrs, C.ptrs, C.bufs, appendSem, dstOk, lk, V.cells, Op.eff, partV, partD, cut, lay, zeroD, C.toDs, C.toD, V.toD, toDs, buildCells, List.flatMap_nil, List.flatMap_cons, List.all_nil, List.all_cons, List.map_nil, List.map_cons, List.zip_cons_cons, List.zip_nil_left, List.nil_append, List.append_nil, List.cons_append, List.drop_zero, List.drop_succ_cons, List.take_succ_cons, List.take_zero, List.length_cons, List.length_nil, List.getElem?_cons_succ, List.getElem?_cons_zero, Option.getD_some, Option.getD_none, Option.map_some, Option.map_none, Option.some.injEq, Option.isSome_none, Option.isSome_some, Option.toList_some, Option.toList_none, if_true, if_false, ↓reduceIte, reduceCtorEq, Nat.reduceEqDiff, Nat.reduceLT, Nat.reduceLeDiff, List.not_mem_nil, false_implies, implies_true, true_and, and_true, forall_const, Nat.succ_ne_self, Bool.false_eq_true, Bool.true_and, Bool.and_true, eq_self, ne_eq, not_true_eq_false, not_false_eq_true, or_true, true_or, and_self, imp_self, bne_self_eq_false, beq_self_eq_true, Bool.or_false, Bool.false_or, Bool.and_false, Bool.false_and, false_or, or_false, Nat.reduceAdd, Nat.reduceMul, beq_true, beq_false, Name.mk.injEq, decide_true, decide_false, Bool.or_true, Bool.true_or, Bool.or_self, Bool.not_eq_true', Bool.not_true, Bool.not_false, Bool.true_eq_false, Bool.cond_true_left, Bool.cond_false_right, Nat.zero_add, Int.reduceLE, Int.reduceLT, Int.reduceNeg, Int.reduceAdd, Int.reduceToNat, List.range_succ, List.range_zero, Int.toNat_natCast, List.mem_nil_iff, List.mem_append, E_sane_eq, E_kept_eq, E_new_eq, E_next_eq, E_mmat_eq, E_mul_eq, E_rmul_eq, E_same07_eq, Try.ntmps7, Try.results7, tt_1, tt_2, tt_3, tt_4, tt_5, tt_6, tt_7, tt_8, tt_12, tt_15, tt_16, tt_17, tt_18, tt_19, tt_21, tt_22, tt_23, tt_24, tt_25, tt_26, tt_27, tt_28, tt_29, tt_30, tt_31, tt_32, tt_33, tt_34, tt_35, tt_36, tt_37, tt_38, tt_39, tt_41, tt_42, tt_44, tt_45, tt_46, tt_47, tt_48, tt_49, tt_50, tt_51, tt_52, tt_53, tt_54, tt_55, tt_56, tt_57, tt_58, tt_59, tt_60, tt_61, tt_62, tt_63, tt_64, tt_65, tt_66, tt_67, tt_68, tt_69, tt_70, tt_71, tt_72, tt_73, tt_74, tt_75, tt_78, tt_79, tt_80, tt_81, tt_82, tt_83, tt_84, tt_85, tt_86, tt_87, tt_88, tt_89, tt_90, tt_91]
    exact fun h => absurd h (by decide)

theorem spec_identityL (s : List UInt8) : Spec Try.prog 0 8 [vL (LB s)] [] [] (vB true) [] [] := by
  refine spec_of_E (X := ⟨Try.prog, tt, Try.f8.ntmps, 1, fun _ => 0, (tab [(9, E_sane), (12, E_new), (13, E_next), (14, E_mmat), (15, E_mblock), (26, E_mmap), (21, E_identity), (16, E_apply), (30, E_mul), (24, E_dflt), (20, E_same), (23, E_same07)])⟩) (M := [(5, [0, 0, 0, 0, 0, 4329348005885, 0, 0, 0, 0, 0, 2748800040957, 0, 0]), (13, [0, 0, 0, 0, 0, 21267647932403911461550240430144094205, 0, 0, 0, 0, 0, 21267647927606893809319391864909987837, 0, 0, 0, 0, 0, 21267647298733353852346212216154882045, 0, 0, 0, 0, 0, 21267627650149050314790489017255198717, 0, 0, 0, 0, 0, 21266998895451337113007346652465332221, 0, 0, 0, 0, 0, 21122263620519678792862059067288322045, 0, 0, 0, 0, 0, 10633823966279326983230456482263728125, 0])]) (m := 20971517) rfl rfl ⟨tt_ok, tab_ok (tabs_cons E_sane_ok (tabs_cons E_new_ok (tabs_cons E_next_ok (tabs_cons E_mmat_ok (tabs_cons E_mblock_ok (tabs_cons E_mmap_ok (tabs_cons E_identity_ok (tabs_cons E_apply_ok (tabs_cons E_mul_ok (tabs_cons E_dflt_ok (tabs_cons E_same_ok (tabs_cons E_same07_ok tabs_nil)))))))))))) _ rfl rfl⟩ tt_mixed Try.func8 rfl (by decide) (by show (1 : Nat) ≤ _; exact Nat.le_of_ble_eq_true rfl) ⟨fun m hm => (V.bare_has rfl m hm).elim, by simp, by simp⟩ ?_
  simp only [↓gPre, gPost, handV, V.bufs, buildArr, toCs, List.set_cons_succ, List.set_cons_zero, List.foldr_cons, List.foldr_nil, List.append_eq, Nat.reduceShiftRight, Nat.reduceMod, List.mem_cons, addB, addK, zeroOp, callSem, resName, keepsB, newB, V.pure, C.pure, V.ptrs, C.ptrs, C.bufs, appendSem, dstOk, lk, V.cells, Op.eff, partV, partD, cut, lay, zeroD, C.toDs, C.toD, V.toD, toDs, buildCells, List.flatMap_nil, List.flatMap_cons, List.all_nil, List.all_cons, List.map_nil, List.map_cons, List.zip_cons_cons, List.zip_nil_left, List.nil_append, List.append_nil, List.cons_append, List.drop_zero, List.drop_succ_cons, List.take_succ_cons, List.take_zero, List.length_cons, List.length_nil, List.getElem?_cons_succ, List.getElem?_cons_zero, Option.getD_some, Option.getD_none, Option.map_some, Option.map_none, Option.some.injEq, Option.isSome_none, Option.isSome_some, Option.toList_some, Option.toList_none, if_true, if_false, ↓reduceIte, reduceCtorEq, Nat.reduceEqDiff, Nat.reduceLT, Nat.reduceLeDiff, List.not_mem_nil, false_implies, implies_true, true_and, and_true, forall_const, Nat.succ_ne_self, Bool.false_eq_true, Bool.true_and, Bool.and_true, eq_self, ne_eq, not_true_eq_false, not_false_eq_true, or_true, true_or, and_self, imp_self, bne_self_eq_false, beq_self_eq_true, Bool.or_false, Bool.false_or, Bool.and_false, Bool.false_and, false_or, or_false, Nat.reduceAdd, Nat.reduceMul, beq_true, beq_false, Name.mk.injEq, decide_true, decide_false, Bool.or_true, Bool.true_or, Bool.or_self, Bool.not_eq_true', Bool.not_true, Bool.not_false, Bool.true_eq_false, Bool.cond_true_left, Bool.cond_false_right, Nat.zero_add, Int.reduceLE, Int.reduceLT, Int.reduceNeg, Int.reduceAdd, Int.reduceToNat, List.range_succ, List.range_zero, Int.toNat_natCast, List.mem_nil_iff, List.mem_append, E_sane_eq, E_new_eq, E_next_eq, E_mmat_eq, E_mblock_eq, E_mmap_eq, E_identity_eq, E_apply_eq, E_mul_eq, E_dflt_eq, E_same_eq, E_same07_eq, Try.ntmps8, Try.results8, tt_1, tt_2, tt_3, tt_4, tt_5, tt_6, tt_7, tt_8, tt_12, tt_15, tt_16, tt_17, tt_18, tt_19, tt_21, tt_22, tt_23, tt_24, tt_25, tt_26, tt_27, tt_28, tt_29, tt_30, tt_31, tt_32, tt_33, tt_34, tt_35, tt_36, tt_37, tt_38, tt_39, tt_41, tt_42, tt_44, tt_45, tt_46, tt_47, tt_48, tt_49, tt_50, tt_51, tt_52, tt_53, tt_54, tt_55, tt_56, tt_57, tt_58, tt_59, tt_60, tt_61, tt_62, tt_63, tt_64, tt_65, tt_66, tt_67, tt_68, tt_69, tt_70, tt_71, tt_72, tt_73, tt_74, tt_75, tt_78, tt_79, tt_80, tt_81, tt_82, tt_83, tt_84, tt_85, tt_86, tt_87, tt_88, tt_89, tt_90, tt_91]
  have hp : 1 ≤ IntKind.i64.wrap (1 + dN (List.take 300 s) 4) ∧ IntKind.i64.wrap (1 + dN (List.take 300 s) 4) ≤ 4 := dN_up _ _ (by decide)
  have hq : 1 ≤ IntKind.i64.wrap (1 + dN (dT (List.take 300 s) 4) 4) ∧ IntKind.i64.wrap (1 + dN (dT (List.take 300 s) 4) 4) ≤ 4 := dN_up _ _ (by decide)
  generalize IntKind.i64.wrap (1 + dN (List.take 300 s) 4) = p at *
  generalize IntKind.i64.wrap (1 + dN (dT (List.take 300 s) 4) 4) = q at *
  have hm2 := mkL_len (dT (dT (List.take 300 s) 4) 4) (p * q).toNat
  have hmv := mkL_valid (dT (dT (List.take 300 s) 4) 4) (a := p) (b := q) (by omega) (by omega)
  have hpq := mul88 (a := p) (b := q) (by omega) (by omega)
  generalize mkL (dT (dT (List.take 300 s) 4) 4) (p * q).toNat = m2 at *
  generalize mkR (dT (dT (List.take 300 s) 4) 4) (p * q).toNat = r at *
  have hbl : (bkO r (p * 5).toNat).length = (p * 5).toNat := by simp [bkO]
  have hbv := blkV_bkO r (c := p) (n := 5) (by omega) (by decide)
  generalize bkO r (p * 5).toNat = l2 at *
  have hmp := map_id (bkR r (p * 5).toNat)
  generalize mapV (bkR r (p * 5).toNat) = mp at *
  obtain ⟨e1, n1, o1, v1⟩ := id_ok (n := p) (by omega)
  obtain ⟨e2, n2, o2, v2⟩ := id_ok (n := q) (by omega)
  obtain ⟨d1, d2, d3, d4⟩ := hmp
  obtain ⟨e3, n3, o3, v3⟩ := id_ok (n := (mp.length : Int)) (by omega)
  rw [Int.toNat_natCast] at o3
  have d5 : dfN mp mp mp = (mp.length : Int) := by simp [dfN, d1]
  obtain ⟨q1, q2⟩ := blkV_in hbv
  obtain ⟨q3, q4, q5⟩ := chBk_in q1
  obtain ⟨_, _, hml, hmc⟩ := mxV_in hmv
  have a1 := apE_ok v1 hbv rfl
  have a2 : apC p p (idL p.toNat) p l2 = p := by simp [apC, a1]
  have a3 : apO p p (idL p.toNat) p l2 = l2 := by
    unfold apO; rw [if_pos a1]; exact idP_one (by omega) q2 q5
  have b1 := muE_ok v1 hmv rfl
  have b2 : ∀ x, muN p p (idL p.toNat) p q m2 x = x := fun x => by simp [muN, b1]
  have b3 : muO p p (idL p.toNat) p q m2 = m2 := by
    unfold muO; rw [if_pos b1]; exact mulI_left (by omega) hmc hml
  have c1 := muE_ok hmv v2 rfl
  have c2 : ∀ x, muN p q m2 q q (idL q.toNat) x = x := fun x => by simp [muN, c1]
  have c3 : muO p q m2 q q (idL q.toNat) = m2 := by
    unfold muO; rw [if_pos c1]; exact mulI_right (by omega) hmc hml
  have il : ∀ n : Nat, (idL n).length = n * n := fun n => by simp [idL]
  have t1 : p.toNat * p.toNat ≤ 8 * 8 := Nat.mul_le_mul (by omega) (by omega)
  have t2 : q.toNat * q.toNat ≤ 8 * 8 := Nat.mul_le_mul (by omega) (by omega)
  have t3 : mp.length * mp.length ≤ 8 * 8 := Nat.mul_le_mul (by omega) (by omega)
  simp only [n1, n2, n3, o1, o2, o3, e1, e2, e3, a1, a2, a3, b1, b2, b3, c1, c2, c3, d1, d2, d5, il, beq_self_eq_true, Bool.and_self, forall_const, and_true]
  omega

end Go.Vam
