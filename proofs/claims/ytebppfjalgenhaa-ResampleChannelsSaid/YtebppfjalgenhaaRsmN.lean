/- The law ResampleCounts gives true. Conditions: none. -/
import Derived.Test.YtebppfjalgenhaaRsmK
set_option linter.unusedVariables false
set_option linter.unusedSimpArgs false
set_option maxRecDepth 40000
set_option maxHeartbeats 4000000
namespace Go.Vam
open Go.Proofs

theorem ooL_at (p : Ph) (c : Int) (s : List Int) : ∀ N z j : Nat, z < N → j < c.toNat → (ooL p c s N)[z * c.toNat + j]?.getD 0 = ocX p c s z j
  | 0, z, j, hz, _ => absurd hz (Nat.not_lt_zero _)
  | N + 1, z, j, hz, hj => by
    have hl := ooL_len p c s N
    rw [ooL]
    by_cases h : z < N
    · have : z * c.toNat + j < N * c.toNat := by
        have := Nat.mul_le_mul_right c.toNat (show z + 1 ≤ N from h)
        rw [Nat.add_mul, Nat.one_mul] at this
        omega
      rw [List.getElem?_append_left (by omega)]
      exact ooL_at p c s N z j h hj
    · have : z = N := by omega
      subst this
      rw [List.getElem?_append_right (by omega), hl, Nat.add_sub_cancel_left, List.getElem?_map, List.getElem?_range hj]
      rfl
/-- How far the last frames reach; the end comes ahead of the bound. -/
theorem q_far {p : Ph} (h : phV p = true) (hr : p.d ≤ 200 * p.n) : 300 ≤ qAt p 65535 := by
  obtain ⟨h1, h2, h3, _, h5, h6⟩ := phV_in h
  have hs := stp_in h
  have hp := prt_in h
  have e : 300 * prt p ≤ ahd p 65535 := by
    have e1 : 61440 * p.n ≤ stp p := by
      rw [hs.1, Int.mul_comm]
      exact Int.mul_le_mul_of_nonneg_left (by omega) (by omega)
    unfold ahd
    omega
  have := Int.le_ediv_of_mul_le (by omega) e
  unfold qAt
  omega
/-- At the end nothing waits. -/
theorem fi_all {x : Rs} (hv : rsV x = true) (hl : x.l.length ≤ 1000000) (hr : x.p.d ≤ 200 * x.p.n) (hw : x.l.length / x.c.toNat ≤ 299) (hp : x.p.p ≤ 1000000000000) : fiE x 65536 = 0 ∧ (fiR x 65536).l = [] := by
  obtain ⟨⟨k1, k2⟩, k3, k4, k5⟩ := blk_in (rsV_in hv).2 hl
  have hpv := (rsV_in hv).1
  have hci := cnt_in hv hl (n := 65536) (by decide)
  have hlt : cnt x 65536 < 65536 := by
    have h1 := cnt_iff hv (n := 65536) (k := 65535) (by decide)
    have h2 := q_far hpv hr
    have h3 : (((65535 : Nat)) : Int) = 65535 := rfl
    rw [h3] at h1
    have h4 : ¬ qAt x.p 65535 < ((x.l.length / x.c.toNat : Nat) : Int) := by omega
    have h5 : ¬ (65535 : Int) < cnt x 65536 := fun h => h4 (h1.2 h)
    omega
  have hq := cnt_iff hv (n := 65536) (k := (cnt x 65536).toNat) (by omega)
  have hcn : ((cnt x 65536).toNat : Int) = cnt x 65536 := by omega
  rw [hcn] at hq
  have hq2 : ((x.l.length / x.c.toNat : Nat) : Int) ≤ qAt x.p (cnt x 65536) := by
    have : ¬ qAt x.p (cnt x 65536) < ((x.l.length / x.c.toNat : Nat) : Int) := fun h => Int.lt_irrefl _ (hq.1 h)
    omega
  have hq3 := qAt_in hpv (n := cnt x 65536) (by omega)
  have hpi := phV_in hpv
  have e0 : rcE x 65536 = 0 := rcE_of hv (by decide)
  have e2 : poE x (cnt x 65536) = 0 := by
    have h0 : phC x.p (cnt x 65536) = 0 := phC_of hpv (by omega)
    have h1 : atP x.p (cnt x 65536) = x.p.p + qAt x.p (cnt x 65536) := by unfold atP; rw [if_pos h0]
    unfold poE adE
    rw [if_pos h0, h1, if_neg (by omega)]
  have eE : fiE x 65536 = 0 := by unfold fiE; rw [if_neg (by rw [e0]; decide), e2]
  refine ⟨eE, ?_⟩
  unfold fiR
  rw [if_pos eE]
  unfold poR
  rw [if_pos e2]
  show List.drop _ x.l = []
  have hqN : x.l.length / x.c.toNat ≤ qN x.p (cnt x 65536).toNat := by
    have := qN_eq hpv (g := (cnt x 65536).toNat) (by omega)
    rw [hcn] at this
    omega
  have := gone_min (q := qN x.p (cnt x 65536).toNat) k3
  rw [Nat.min_eq_left hqN, ← k3] at this
  rw [← this]
  exact List.drop_length
theorem ooL_all {p : Ph} (h : phV p = true) (c : Int) {s : List Int} (ha : s.all smpX = true) : ∀ N : Nat, N ≤ 65536 → (ooL p c s N).all smpX = true
  | 0, _ => rfl
  | N + 1, hN => by
    rw [ooL, List.all_append, ooL_all h c ha N (by omega), Bool.true_and, List.all_eq_true]
    intro x hx
    rw [List.mem_map] at hx
    obtain ⟨j, _, rfl⟩ := hx
    have hp := prt_in h
    have hq := qAt_in h (n := (N : Int)) (by omega)
    have := btw_in (a := s[qN p N * c.toNat + j]?.getD 0) (b := s[(qN p N + 1) * c.toNat + j]?.getD 0) (f := fAt p N) (P := prt p) (by omega) ⟨hq.2.1, hq.2.2.1⟩ (smp_get ha _) (smp_get ha _)
    simp only [smpX, Bool.and_eq_true, decide_eq_true_eq]
    exact this


theorem spec_counts15 (s : List UInt8) (w : Int) (hw : 0 ≤ w ∧ w ≤ 255) : Spec Try.prog 0 8 [vL (LB s), vI .u8 w] [] [] (vB true) [] [] := by
  refine spec_of_E (X := ⟨Try.prog, tt, Try.f8.ntmps, 1, fun _ => 0, (tab [(10, E_sane), (13, E_new), (14, E_made), (15, E_wave), (21, E_waiting), (36, E_rpmake), (30, E_convert), (27, E_finish), (38, E_frames)])⟩) (M := [(10, [0, 0, 0, 0, 0, 135248730604813299, 0, 0, 0, 0, 0, 126100793861716979, 0, 0, 0]), (12, [0, 0, 0, 0, 0, 19807040333418179223328504819, 0, 0, 0, 0, 0, 19807021739100152924100475891, 0, 0, 0, 0, 0, 19805831702746469773506624499, 0, 0, 0, 0, 0, 19740549708487279798072490995, 0, 0, 0, 0, 0, 14856489397244177932259539955, 0, 0])]) (m := 4295343091) rfl rfl ⟨tt_ok, tab_ok (tabs_cons E_sane_ok (tabs_cons E_new_ok (tabs_cons E_made_ok (tabs_cons E_wave_ok (tabs_cons E_waiting_ok (tabs_cons E_rpmake_ok (tabs_cons E_convert_ok (tabs_cons E_finish_ok (tabs_cons E_frames_ok tabs_nil))))))))) _ rfl rfl⟩ tt_mixed Try.func8 rfl (by decide) (by show (2 : Nat) ≤ _; exact Nat.le_of_ble_eq_true rfl) ⟨fun m hm => (V.bare_has rfl m hm).elim, by simp, by simp⟩ ?_
  simp only [↓gPre, gPost, handV, V.bufs, buildArr, toCs, List.set_cons_succ, List.set_cons_zero, List.foldr_cons, List.foldr_nil, List.append_eq, Nat.reduceShiftRight, Nat.reduceMod, List.mem_cons, addB, addK, zeroOp, callSem, resName, keepsB, newB, V.pure, C.pure, V.ptrs, C.ptrs, C.bufs, appendSem, dstOk, lk, V.cells, Op.eff, partV, partD, cut, lay, zeroD, C.toDs, C.toD, V.toD, toDs, buildCells, List.flatMap_nil, List.flatMap_cons, List.all_nil, List.all_cons, List.map_nil, List.map_cons, List.zip_cons_cons, List.zip_nil_left, List.nil_append, List.append_nil, List.cons_append, List.drop_zero, List.drop_succ_cons, List.take_succ_cons, List.take_zero, List.length_cons, List.length_nil, List.getElem?_cons_succ, List.getElem?_cons_zero, Option.getD_some, Option.getD_none, Option.map_some, Option.map_none, Option.some.injEq, Option.isSome_none, Option.isSome_some, Option.toList_some, Option.toList_none, if_true, if_false, ↓reduceIte, reduceCtorEq, Nat.reduceEqDiff, Nat.reduceLT, Nat.reduceLeDiff, List.not_mem_nil, false_implies, implies_true, true_and, and_true, forall_const, Nat.succ_ne_self, Bool.false_eq_true, Bool.true_and, Bool.and_true, eq_self, ne_eq, not_true_eq_false, not_false_eq_true, or_true, true_or, and_self, imp_self, bne_self_eq_false, beq_self_eq_true, Bool.or_false, Bool.false_or, Bool.and_false, Bool.false_and, false_or, or_false, Nat.reduceAdd, Nat.reduceMul, beq_true, beq_false, Name.mk.injEq, decide_true, decide_false, Bool.or_true, Bool.true_or, Bool.or_self, Bool.not_eq_true', Bool.not_true, Bool.not_false, Bool.true_eq_false, Bool.cond_true_left, Bool.cond_false_right, Nat.zero_add, Int.reduceLE, Int.reduceLT, Int.reduceNeg, Int.reduceAdd, Int.reduceToNat, List.range_succ, List.range_zero, Int.toNat_natCast, List.mem_nil_iff, List.mem_append, E_sane_eq, E_new_eq, E_made_eq, E_wave_eq, E_waiting_eq, E_rpmake_eq, E_convert_eq, E_finish_eq, E_frames_eq, rs_eta, ph_eta, Try.ntmps8, Try.results8, tt_1, tt_2, tt_3, tt_4, tt_5, tt_6, tt_7, tt_8, tt_12, tt_15, tt_16, tt_17, tt_18, tt_19, tt_21, tt_22, tt_23, tt_24, tt_25, tt_26, tt_27, tt_28, tt_29, tt_30, tt_31, tt_32, tt_33, tt_34, tt_35, tt_36, tt_37, tt_38, tt_39, tt_40, tt_41, tt_43, tt_44, tt_45, tt_46, tt_47, tt_48, tt_49, tt_51, tt_52, tt_53, tt_54, tt_55, tt_56, tt_57, tt_58, tt_59, tt_60, tt_62, tt_64, tt_65, tt_66, tt_67, tt_68, tt_69, tt_70, tt_71, tt_72, tt_73, tt_74, tt_75, tt_76, tt_77, tt_78, tt_80, tt_81, tt_83, tt_84, tt_85, tt_86, tt_87, tt_88, tt_89, tt_91, tt_92, tt_93, tt_94, tt_95, tt_96, tt_97, tt_98, tt_99, tt_100, tt_101, tt_102, tt_103, tt_104, tt_105, tt_106, tt_109, tt_110, tt_111, tt_112, tt_113, tt_114, tt_115, tt_116, tt_117, tt_118, tt_119, tt_120, tt_121, tt_122]
  intro h0
  obtain ⟨W, hWl, hWa, hWp, hp0, hpv, hXc⟩ := lm_few (List.take 300 s)
  have hok := (lmX_ok (List.take 300 s)).len
  have hcc := lmC (List.take 300 s)
  generalize lmX (List.take 300 s) = X at *
  generalize 1 + dN (List.take 300 s) 2 = c at *
  obtain ⟨c', P, S0⟩ := X
  simp only at hWl hWa hWp hp0 hpv hXc hok h0
  subst hXc
  simp only
  have hpi := phV_in hpv
  have hg : P.d ≤ 50 * P.n := by
    rw [IntWalk.i64_in (50 * P.n) (by omega)] at h0
    exact Int.not_lt.1 (of_decide_eq_false h0)
  have hst := stR_zero hpv c' S0
  have hWd : S0.length / c'.toNat = W := by rw [hWl, Nat.mul_div_cancel _ (by omega)]
  have hW2 := Nat.mul_le_mul (show W ≤ 22 by omega) (show c'.toNat ≤ 2 by omega)
  have ht1 : 0 ≤ w.tmod 30 ∧ w.tmod 30 < 30 := by rw [Int.tmod_eq_emod_of_nonneg hw.1]; omega
  rw [IntWalk.i64_in (w.tmod 30) (by omega)]
  have hF0 : w.tmod 30 = ((w.tmod 30).toNat : Int) := by omega
  rw [hF0]
  generalize hF : (w.tmod 30).toNat = F at *
  have hF40 : F ≤ 29 := by omega
  rw [Int.toNat_natCast]
  have hBl := waO_len 4 c' 0 F
  have hBa := waO_all 4 c' 0 F
  generalize waO 4 c' 0 F = B at *
  have hB2 := Nat.mul_le_mul hF40 (show c'.toNat ≤ 2 by omega)
  have hwa : waN ⟨c', P, S0⟩ = (W : Int) := by
    have hv : rsV ⟨c', P, S0⟩ = true := by
      have := stR_V hpv (c := c') (s := S0) (N := 0) (by omega) hWl hWa (by omega) (by decide) (by rw [ned_zero]; exact Int.natCast_nonneg _) (by omega)
      rw [hst] at this
      exact this.1
    unfold waN
    rw [if_pos hv]
    show ((S0.length / c'.toNat : Nat) : Int) = W
    rw [hWd]
  have hfew := mk_few hpv (W := W + F) (by omega) (by omega)
  have hcv := cv_step hpv (c := c') (s := S0) (y := B) (W := W) (V := F) (N := 0) (by omega) hWl hWa hBl hBa (by omega) (by decide) (by rw [ned_zero]; exact Int.natCast_nonneg _) (by omega) hfew
  rw [hst] at hcv
  obtain ⟨w1, w2, w3, w4⟩ := hcv
  have w4' : cvO ⟨c', P, S0⟩ c' B = ooL P c' (S0 ++ B) (mkN P ((W + F : Nat) : Int)) := w4
  have hM1 := (mkN_iff hpv (n := ((W + F : Nat) : Int)) (Int.natCast_nonneg _) (k := mkN P ((W + F : Nat) : Int)) (by omega)).1 (Nat.le_refl _)
  have hsl : (S0 ++ B).length = (W + F) * c'.toNat := by rw [List.length_append, hWl, hBl, Nat.add_mul]
  have hsa : (S0 ++ B).all smpX = true := by rw [List.all_append, hWa, hBa]; rfl
  obtain ⟨v1, v2, v3, v4⟩ := stR_V hpv (c := c') (s := S0 ++ B) (N := mkN P ((W + F : Nat) : Int)) (by omega) hsl hsa (by omega) (by omega) hM1 (by omega)
  have hmE : maN P ((W + F : Nat) : Int) = ((mkN P ((W + F : Nat) : Int) : Nat) : Int) := by
    have : maE P ((W + F : Nat) : Int) = 0 := by
      unfold maE
      rw [if_neg (by rw [hpv]; decide), if_neg (by simp only [Bool.or_eq_true, decide_eq_true_eq]; omega)]
    unfold maN
    rw [if_pos this]
  have hwf : IntKind.i64.wrap ((W : Int) + (F : Int)) = ((W + F : Nat) : Int) := by rw [IntWalk.i64_in _ (by omega)]; omega
  rw [hwa, hwf, hmE, w1, w2, w3, w4']
  have hoa := ooL_all hpv c' hsa (mkN P ((W + F : Nat) : Int)) (by omega)
  have hol := ooL_len P c' (S0 ++ B) (mkN P ((W + F : Nat) : Int))
  generalize mkN P ((W + F : Nat) : Int) = M at *
  have hob : blkV c' (ooL P c' (S0 ++ B) M) = true := blkV_mk (by omega) hol (by omega) hoa
  have hl2 : (stR P c' (S0 ++ B) M).l.length ≤ 1000000 := by
    show (List.drop _ (S0 ++ B)).length ≤ _
    rw [List.length_drop, List.length_append]
    omega
  have hqn := qN_eq hpv (g := M) (by omega)
  obtain ⟨f1, f2⟩ := fi_all v1 hl2 (by show P.d ≤ 200 * P.n; omega) (by show _ / c'.toNat ≤ 299; rw [v3]; omega) (by show P.p + (qN P M : Int) ≤ _; omega)
  rw [f1, f2, if_pos hob]
  have hob2 : (ooL P c' (S0 ++ B) M).length / c'.toNat = M := by rw [hol, Nat.mul_div_cancel _ (by omega)]
  rw [hob2]
  have hM2 := Nat.mul_le_mul (show M ≤ 65536 by omega) (show c'.toNat ≤ 2 by omega)
  have hz : waN (fiR (stR P c' (S0 ++ B) M) 65536) = 0 := by
    unfold waN
    rw [f2]
    split <;> simp
  have hz2 : waN (stR P c' (S0 ++ B) M) = ((W + F - qN P M : Nat) : Int) := by
    unfold waN
    rw [if_pos v1]
    show (((stR P c' (S0 ++ B) M).l.length / c'.toNat : Nat) : Int) = _
    rw [v3]
  have hz3 : (stR P c' (S0 ++ B) M).p.p = P.p + (qN P M : Int) := rfl
  rw [hz, hz2, hz3, IntWalk.i64_in (P.p + (qN P M : Int) - P.p) (by omega), IntWalk.i64_in (((W + F : Nat) : Int) - ((W + F - qN P M : Nat) : Int)) (by omega)]
  have hz4 : P.p + (qN P M : Int) - P.p = ((W + F : Nat) : Int) - ((W + F - qN P M : Nat) : Int) := by omega
  rw [hz4]
  exact ⟨by decide, by omega, by kernel_rfl, ⟨⟨by omega, by omega⟩, by omega, by omega⟩, ⟨by omega, by omega⟩, hl2, by kernel_rfl, fun _ => by omega, fun _ => Nat.zero_le _, fun _ => hl2, by simp⟩

end Go.Vam
