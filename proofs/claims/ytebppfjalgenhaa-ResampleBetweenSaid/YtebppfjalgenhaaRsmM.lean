/- The law ResampleBetween gives true. Conditions: none. -/
import Derived.Test.YtebppfjalgenhaaRsmN
set_option linter.unusedVariables false
set_option linter.unusedSimpArgs false
set_option maxRecDepth 40000
set_option maxHeartbeats 4000000
namespace Go.Vam
open Go.Proofs

theorem outO_at (x : Rs) : ∀ N z : Nat, z < N → x.c = 1 → (outO x N)[z]?.getD 0 = outC x z 0
  | 0, z, hz, _ => absurd hz (Nat.not_lt_zero _)
  | N + 1, z, hz, hc => by
    have hl := outO_len x N
    have h1 : x.c.toNat = 1 := by rw [hc]; rfl
    rw [h1, Nat.mul_one] at hl
    rw [outO]
    by_cases h : z < N
    · rw [List.getElem?_append_left (by omega)]
      exact outO_at x N z h hc
    · have : z = N := by omega
      subst this
      rw [List.getElem?_append_right (by omega), hl, Nat.sub_self, h1]
      rfl
theorem bkO_len (l : List UInt8) (n : Nat) : (bkO l n).length = n := by simp [bkO]
theorem bkO_all (l : List UInt8) (n : Nat) : (bkO l n).all smpX = true := by
  rw [List.all_eq_true]
  intro x hx
  simp only [bkO, List.mem_map] at hx
  obtain ⟨i, _, rfl⟩ := hx
  have := sV_in (bkR l i)
  simp only [smpX, Bool.and_eq_true, decide_eq_true_eq]
  exact this
/-- What can be taken comes out at the end as well. -/
theorem fi_tk {x : Rs} {n : Nat} (hv : rsV x = true) (hl : x.l.length ≤ 1000000) (hn : n ≤ 65536) (h : tkE x n = 0) : fiE x n = 0 ∧ fiC x n = tkC x n ∧ fiO x n = tkO x n := by
  obtain ⟨h1, h2, h3⟩ := tkE_po h
  have hpv := (rsV_in hv).1
  have hc : cnt x n = n := by
    have hci := cnt_in hv hl (n := (n : Int)) (by omega)
    rcases Nat.eq_zero_or_pos n with h0 | h0
    · subst h0; omega
    · have hk := cnt_iff hv (n := (n : Int)) (k := n - 1) (by omega)
      have hns := ned_succ hpv (n := n - 1) (by omega)
      rw [show n - 1 + 1 = n by omega] at hns
      have hq := qN_eq hpv (g := n - 1) (by omega)
      have h4 := hk.1 (by omega)
      omega
  have eE : fiE x n = 0 := by unfold fiE; rw [if_neg (by rw [h1]; decide), hc, h2]
  refine ⟨eE, by unfold fiC tkC; rw [if_pos eE, if_pos h], ?_⟩
  unfold fiO tkO
  rw [if_pos eE, if_pos h, hc]


theorem spec_between15 (s : List UInt8) (w : Int) (hw : 0 ≤ w ∧ w ≤ 255) : Spec Try.prog 0 7 [vL (LB s), vI .u8 w] [] [] (vB true) [] [] := by
  refine spec_of_E (X := ⟨Try.prog, tt, Try.f7.ntmps, 1, fun _ => 0, (tab [(10, E_sane), (13, E_new), (14, E_made), (34, E_mblock), (36, E_rpmake), (25, E_take), (27, E_finish), (29, E_same), (37, E_rpat)])⟩) (M := [(10, [0, 0, 0, 0, 0, 10889035741474750477229798581544265441011, 0, 0, 0, 0, 0, 0]), (11, [0, 0, 0, 0, 0, 10889035741474750477488323214553841400563, 0, 0, 0, 0, 0, 0]), (12, [0, 0, 0, 0, 0, 10889035741474827839035485325040584743667, 0, 0, 0, 0, 0, 10889035741474827262906774414943868672755, 0, 0, 0, 0, 0, 10889035741474791580705629851904633985779, 0]), (18, [0, 0, 0, 0, 0, 10894352389786565293247662671439548635891, 0, 0, 0, 0, 0, 10894344865012602338477935387009321523955, 0, 0, 0, 0, 0, 10893026021610534492260288640941699619571, 0, 0, 0]), (19, [0, 0, 0, 0, 0, 21607930299484312076324063088613392636659, 0, 0, 0, 0, 0, 0])]) (m := 10889035741474750477227762954512693975795) rfl rfl ⟨tt_ok, tab_ok (tabs_cons E_sane_ok (tabs_cons E_new_ok (tabs_cons E_made_ok (tabs_cons E_mblock_ok (tabs_cons E_rpmake_ok (tabs_cons E_take_ok (tabs_cons E_finish_ok (tabs_cons E_same_ok (tabs_cons E_rpat_ok tabs_nil))))))))) _ rfl rfl⟩ tt_mixed Try.func7 rfl (by decide) (by show (2 : Nat) ≤ _; exact Nat.le_of_ble_eq_true rfl) ⟨fun m hm => (V.bare_has rfl m hm).elim, by simp, by simp⟩ ?_
  simp only [↓gPre, gPost, handV, V.bufs, buildArr, toCs, List.set_cons_succ, List.set_cons_zero, List.foldr_cons, List.foldr_nil, List.append_eq, Nat.reduceShiftRight, Nat.reduceMod, List.mem_cons, addB, addK, zeroOp, callSem, resName, keepsB, newB, V.pure, C.pure, V.ptrs, C.ptrs, C.bufs, appendSem, dstOk, lk, V.cells, Op.eff, partV, partD, cut, lay, zeroD, C.toDs, C.toD, V.toD, toDs, buildCells, List.flatMap_nil, List.flatMap_cons, List.all_nil, List.all_cons, List.map_nil, List.map_cons, List.zip_cons_cons, List.zip_nil_left, List.nil_append, List.append_nil, List.cons_append, List.drop_zero, List.drop_succ_cons, List.take_succ_cons, List.take_zero, List.length_cons, List.length_nil, List.getElem?_cons_succ, List.getElem?_cons_zero, Option.getD_some, Option.getD_none, Option.map_some, Option.map_none, Option.some.injEq, Option.isSome_none, Option.isSome_some, Option.toList_some, Option.toList_none, if_true, if_false, ↓reduceIte, reduceCtorEq, Nat.reduceEqDiff, Nat.reduceLT, Nat.reduceLeDiff, List.not_mem_nil, false_implies, implies_true, true_and, and_true, forall_const, Nat.succ_ne_self, Bool.false_eq_true, Bool.true_and, Bool.and_true, eq_self, ne_eq, not_true_eq_false, not_false_eq_true, or_true, true_or, and_self, imp_self, bne_self_eq_false, beq_self_eq_true, Bool.or_false, Bool.false_or, Bool.and_false, Bool.false_and, false_or, or_false, Nat.reduceAdd, Nat.reduceMul, beq_true, beq_false, Name.mk.injEq, decide_true, decide_false, Bool.or_true, Bool.true_or, Bool.or_self, Bool.not_eq_true', Bool.not_true, Bool.not_false, Bool.true_eq_false, Bool.cond_true_left, Bool.cond_false_right, Nat.zero_add, Int.reduceLE, Int.reduceLT, Int.reduceNeg, Int.reduceAdd, Int.reduceToNat, List.range_succ, List.range_zero, Int.toNat_natCast, List.mem_nil_iff, List.mem_append, E_sane_eq, E_new_eq, E_made_eq, E_mblock_eq, E_rpmake_eq, E_take_eq, E_finish_eq, E_same_eq, E_rpat_eq, rs_eta, ph_eta, Try.ntmps7, Try.results7, tt_1, tt_2, tt_3, tt_4, tt_5, tt_6, tt_7, tt_8, tt_12, tt_15, tt_16, tt_17, tt_18, tt_19, tt_21, tt_22, tt_23, tt_24, tt_25, tt_26, tt_27, tt_28, tt_29, tt_30, tt_31, tt_32, tt_33, tt_34, tt_35, tt_36, tt_37, tt_38, tt_39, tt_40, tt_41, tt_43, tt_44, tt_45, tt_46, tt_47, tt_48, tt_49, tt_51, tt_52, tt_53, tt_54, tt_55, tt_56, tt_57, tt_58, tt_59, tt_60, tt_62, tt_64, tt_65, tt_66, tt_67, tt_68, tt_69, tt_70, tt_71, tt_72, tt_73, tt_74, tt_75, tt_76, tt_77, tt_78, tt_80, tt_81, tt_83, tt_84, tt_85, tt_86, tt_87, tt_88, tt_89, tt_91, tt_92, tt_93, tt_94, tt_95, tt_96, tt_97, tt_98, tt_99, tt_100, tt_101, tt_102, tt_103, tt_104, tt_105, tt_106, tt_109, tt_110, tt_111, tt_112, tt_113, tt_114, tt_115, tt_116, tt_117, tt_118, tt_119, tt_120, tt_121, tt_122]
  intro h0
  obtain ⟨_, _, _, hWp, hp0, hpv, hXc⟩ := lm_few (List.take 300 s)
  generalize (lmX (List.take 300 s)).p = P at *
  have hpi := phV_in hpv
  have hg : P.d ≤ 50 * P.n := by
    rw [IntWalk.i64_in (50 * P.n) (by omega)] at h0
    exact Int.not_lt.1 (of_decide_eq_false h0)
  have ht1 : 0 ≤ w.tmod 60 ∧ w.tmod 60 < 60 := by rw [Int.tmod_eq_emod_of_nonneg hw.1]; omega
  rw [IntWalk.i64_in (w.tmod 60) (by omega)]
  have hDl := bkO_len (lmR (List.take 300 s)) 20
  have hDa := bkO_all (lmR (List.take 300 s)) 20
  rw [show (1 * 20 : Int).toNat = 20 from rfl]
  generalize bkO (lmR (List.take 300 s)) 20 = Q at *
  have hmE : maN P 20 = ((mkN P 20 : Nat) : Int) := by
    have : maE P 20 = 0 := by
      unfold maE
      rw [if_neg (by rw [hpv]; decide), if_neg (by decide)]
    unfold maN
    rw [if_pos this]
  rw [hmE]
  have hM1 := (mkN_iff hpv (n := 20) (by decide) (k := mkN P 20) (mkN_le hpv (by decide))).1 (Nat.le_refl _)
  have hM6 := mkN_le hpv (n := 20) (by decide)
  have hK : (if w.tmod 60 < ((mkN P 20 : Nat) : Int) then w.tmod 60 else ((mkN P 20 : Nat) : Int)) = ((min (w.tmod 60).toNat (mkN P 20) : Nat) : Int) := by split <;> omega
  rw [hK]
  have hKn : ned P ((min (w.tmod 60).toNat (mkN P 20) : Nat) : Int) ≤ 20 := Int.le_trans (ned_mono hpv (by omega) (by omega) (by omega)) hM1
  have hK6 : min (w.tmod 60).toNat (mkN P 20) ≤ 60 := by omega
  generalize min (w.tmod 60).toNat (mkN P 20) = K at *
  have hst := stR_zero hpv 1 Q
  obtain ⟨t1, t2, t3, t4⟩ := tk_step hpv (c := 1) (s := Q) (W := 20) (N := 0) (n := K) (by decide) (by rw [hDl]; rfl) hDa (by decide) (by omega) (by rw [Nat.zero_add]; exact hKn) (by omega)
  have hv : rsV ⟨1, P, Q⟩ = true := by
    have := stR_V hpv (c := 1) (s := Q) (W := 20) (N := 0) (by decide) (by rw [hDl]; rfl) hDa (by decide) (by decide) (by rw [ned_zero]; decide) (by omega)
    rw [hst] at this
    exact this.1
  rw [hst] at t1 t2 t3 t4
  obtain ⟨f1, f2, f3⟩ := fi_tk hv (by show Q.length ≤ _; omega) (by omega) t1
  have hO : tkO ⟨1, P, Q⟩ K = outO ⟨1, P, Q⟩ K := by unfold tkO; rw [if_pos t1]; rfl
  rw [t1, f1, f2, f3, hO]
  have hol : (outO ⟨1, P, Q⟩ K).length = K := by rw [outO_len]; exact Nat.mul_one _
  rw [hol]
  refine ⟨by decide, by omega, by omega, fun _ => by omega, fun h => by simp at h, fun _ => ?_⟩
  refine ELoop_keep (fun i => ⟨[(90, vI .i64 (i : Nat))], [], []⟩) (fun i => i ≤ K) (fun i => K - i) (· + 1) 0 (Nat.zero_le _) ?_ ?_
  · simp only [↓gPre, gPost, handV, V.bufs, buildArr, toCs, List.set_cons_succ, List.set_cons_zero, List.foldr_cons, List.foldr_nil, List.append_eq, Nat.reduceShiftRight, Nat.reduceMod, List.mem_cons, addB, addK, zeroOp, callSem, resName, keepsB, newB, V.pure, C.pure, V.ptrs, C.ptrs, C.bufs, appendSem, dstOk, lk, V.cells, Op.eff, partV, partD, cut, lay, zeroD, C.toDs, C.toD, V.toD, toDs, buildCells, List.flatMap_nil, List.flatMap_cons, List.all_nil, List.all_cons, List.map_nil, List.map_cons, List.zip_cons_cons, List.zip_nil_left, List.nil_append, List.append_nil, List.cons_append, List.drop_zero, List.drop_succ_cons, List.take_succ_cons, List.take_zero, List.length_cons, List.length_nil, List.getElem?_cons_succ, List.getElem?_cons_zero, Option.getD_some, Option.getD_none, Option.map_some, Option.map_none, Option.some.injEq, Option.isSome_none, Option.isSome_some, Option.toList_some, Option.toList_none, if_true, if_false, ↓reduceIte, reduceCtorEq, Nat.reduceEqDiff, Nat.reduceLT, Nat.reduceLeDiff, List.not_mem_nil, false_implies, implies_true, true_and, and_true, forall_const, Nat.succ_ne_self, Bool.false_eq_true, Bool.true_and, Bool.and_true, eq_self, ne_eq, not_true_eq_false, not_false_eq_true, or_true, true_or, and_self, imp_self, bne_self_eq_false, beq_self_eq_true, Bool.or_false, Bool.false_or, Bool.and_false, Bool.false_and, false_or, or_false, Nat.reduceAdd, Nat.reduceMul, beq_true, beq_false, Name.mk.injEq, decide_true, decide_false, Bool.or_true, Bool.true_or, Bool.or_self, Bool.not_eq_true', Bool.not_true, Bool.not_false, Bool.true_eq_false, Bool.cond_true_left, Bool.cond_false_right, Nat.zero_add, Int.reduceLE, Int.reduceLT, Int.reduceNeg, Int.reduceAdd, Int.reduceToNat, List.range_succ, List.range_zero, Int.toNat_natCast, List.mem_nil_iff, List.mem_append, E_sane_eq, E_new_eq, E_made_eq, E_mblock_eq, E_rpmake_eq, E_take_eq, E_finish_eq, E_same_eq, E_rpat_eq, rs_eta, ph_eta, Try.ntmps7, Try.results7, tt_1, tt_2, tt_3, tt_4, tt_5, tt_6, tt_7, tt_8, tt_12, tt_15, tt_16, tt_17, tt_18, tt_19, tt_21, tt_22, tt_23, tt_24, tt_25, tt_26, tt_27, tt_28, tt_29, tt_30, tt_31, tt_32, tt_33, tt_34, tt_35, tt_36, tt_37, tt_38, tt_39, tt_40, tt_41, tt_43, tt_44, tt_45, tt_46, tt_47, tt_48, tt_49, tt_51, tt_52, tt_53, tt_54, tt_55, tt_56, tt_57, tt_58, tt_59, tt_60, tt_62, tt_64, tt_65, tt_66, tt_67, tt_68, tt_69, tt_70, tt_71, tt_72, tt_73, tt_74, tt_75, tt_76, tt_77, tt_78, tt_80, tt_81, tt_83, tt_84, tt_85, tt_86, tt_87, tt_88, tt_89, tt_91, tt_92, tt_93, tt_94, tt_95, tt_96, tt_97, tt_98, tt_99, tt_100, tt_101, tt_102, tt_103, tt_104, tt_105, tt_106, tt_109, tt_110, tt_111, tt_112, tt_113, tt_114, tt_115, tt_116, tt_117, tt_118, tt_119, tt_120, tt_121, tt_122]
    rfl
  intro i hi
  simp only [↓gPre, gPost, handV, V.bufs, buildArr, toCs, List.set_cons_succ, List.set_cons_zero, List.foldr_cons, List.foldr_nil, List.append_eq, Nat.reduceShiftRight, Nat.reduceMod, List.mem_cons, addB, addK, zeroOp, callSem, resName, keepsB, newB, V.pure, C.pure, V.ptrs, C.ptrs, C.bufs, appendSem, dstOk, lk, V.cells, Op.eff, partV, partD, cut, lay, zeroD, C.toDs, C.toD, V.toD, toDs, buildCells, List.flatMap_nil, List.flatMap_cons, List.all_nil, List.all_cons, List.map_nil, List.map_cons, List.zip_cons_cons, List.zip_nil_left, List.nil_append, List.append_nil, List.cons_append, List.drop_zero, List.drop_succ_cons, List.take_succ_cons, List.take_zero, List.length_cons, List.length_nil, List.getElem?_cons_succ, List.getElem?_cons_zero, Option.getD_some, Option.getD_none, Option.map_some, Option.map_none, Option.some.injEq, Option.isSome_none, Option.isSome_some, Option.toList_some, Option.toList_none, if_true, if_false, ↓reduceIte, reduceCtorEq, Nat.reduceEqDiff, Nat.reduceLT, Nat.reduceLeDiff, List.not_mem_nil, false_implies, implies_true, true_and, and_true, forall_const, Nat.succ_ne_self, Bool.false_eq_true, Bool.true_and, Bool.and_true, eq_self, ne_eq, not_true_eq_false, not_false_eq_true, or_true, true_or, and_self, imp_self, bne_self_eq_false, beq_self_eq_true, Bool.or_false, Bool.false_or, Bool.and_false, Bool.false_and, false_or, or_false, Nat.reduceAdd, Nat.reduceMul, beq_true, beq_false, Name.mk.injEq, decide_true, decide_false, Bool.or_true, Bool.true_or, Bool.or_self, Bool.not_eq_true', Bool.not_true, Bool.not_false, Bool.true_eq_false, Bool.cond_true_left, Bool.cond_false_right, Nat.zero_add, Int.reduceLE, Int.reduceLT, Int.reduceNeg, Int.reduceAdd, Int.reduceToNat, List.range_succ, List.range_zero, Int.toNat_natCast, List.mem_nil_iff, List.mem_append, E_sane_eq, E_new_eq, E_made_eq, E_mblock_eq, E_rpmake_eq, E_take_eq, E_finish_eq, E_same_eq, E_rpat_eq, rs_eta, ph_eta, Try.ntmps7, Try.results7, tt_1, tt_2, tt_3, tt_4, tt_5, tt_6, tt_7, tt_8, tt_12, tt_15, tt_16, tt_17, tt_18, tt_19, tt_21, tt_22, tt_23, tt_24, tt_25, tt_26, tt_27, tt_28, tt_29, tt_30, tt_31, tt_32, tt_33, tt_34, tt_35, tt_36, tt_37, tt_38, tt_39, tt_40, tt_41, tt_43, tt_44, tt_45, tt_46, tt_47, tt_48, tt_49, tt_51, tt_52, tt_53, tt_54, tt_55, tt_56, tt_57, tt_58, tt_59, tt_60, tt_62, tt_64, tt_65, tt_66, tt_67, tt_68, tt_69, tt_70, tt_71, tt_72, tt_73, tt_74, tt_75, tt_76, tt_77, tt_78, tt_80, tt_81, tt_83, tt_84, tt_85, tt_86, tt_87, tt_88, tt_89, tt_91, tt_92, tt_93, tt_94, tt_95, tt_96, tt_97, tt_98, tt_99, tt_100, tt_101, tt_102, tt_103, tt_104, tt_105, tt_106, tt_109, tt_110, tt_111, tt_112, tt_113, tt_114, tt_115, tt_116, tt_117, tt_118, tt_119, tt_120, tt_121, tt_122]
  refine fun h1 => ⟨by have := of_decide_eq_true h1; omega, by kernel_rfl, ?_⟩
  have hiK : i < K := by have := of_decide_eq_true h1; omega
  obtain ⟨_, _, q3⟩ := at_eq hpv (g := i) (by omega)
  have q4 := ned_succ hpv (n := i) (by omega)
  have q5 : ned P ((i + 1 : Nat) : Int) ≤ ned P (K : Int) := ned_mono hpv (by omega) (by omega) (by omega)
  have hfr := qAt_in hpv (n := (i : Int)) (by omega)
  have hpr := prt_in hpv
  rw [q3]
  have hg0 : ∀ k : Nat, k ≤ 19 → gx ⟨1, P, Q⟩ k 0 = Q[k]?.getD 0 := fun k hk => by
    have hfa : frA ⟨1, P, Q⟩ k = k := by
      unfold frA
      show min (k * 1) (Q.length - 1) = k
      omega
    unfold gx
    rw [hfa, Nat.add_zero]
  have ho := outO_at ⟨1, P, Q⟩ K i hiK rfl
  have hoc : outC ⟨1, P, Q⟩ i 0 = btw (Q[qN P i]?.getD 0) (Q[qN P i + 1]?.getD 0) (fAt P i) (prt P) := by
    unfold outC
    rw [hg0 _ (by show qN P i ≤ 19; omega), hg0 _ (by show qN P i + 1 ≤ 19; omega)]
  rw [ho, hoc]
  have w1 : IntKind.i64.wrap (((qN P i : Nat) : Int) + 1) = ((qN P i + 1 : Nat) : Int) := by rw [IntWalk.i64_in _ (by omega)]; rfl
  rw [w1, Int.toNat_natCast, Int.toNat_natCast]
  generalize Q[qN P i]?.getD 0 = x1
  generalize Q[qN P i + 1]?.getD 0 = x2
  have b1 : btw x1 x2 (fAt P i) (prt P) ≤ max x1 x2 := btw_le (by omega) ⟨hfr.2.1, hfr.2.2.1⟩ (by omega) (by omega)
  have b2 : min x1 x2 ≤ btw x1 x2 (fAt P i) (prt P) := btw_ge (by omega) ⟨hfr.2.1, hfr.2.2.1⟩ (by omega) (by omega)
  generalize btw x1 x2 (fAt P i) (prt P) = z at *
  refine ⟨by omega, by omega, fun h2 => ?_, fun _ => ⟨(wrapN _ (by omega)).symm, by omega, by omega⟩⟩
  simp only [Bool.or_eq_true, decide_eq_true_eq] at h2
  rcases h2 with h2 | h2 <;> split at h2 <;> omega

end Go.Vam
