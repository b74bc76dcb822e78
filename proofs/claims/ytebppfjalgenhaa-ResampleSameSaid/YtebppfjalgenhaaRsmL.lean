/- The law ResampleSame gives true. Conditions: none. -/
import Derived.Test.YtebppfjalgenhaaRsmN
set_option linter.unusedVariables false
set_option linter.unusedSimpArgs false
set_option maxRecDepth 40000
set_option maxHeartbeats 4000000
namespace Go.Vam
open Go.Proofs

theorem outO_at (x : Rs) : ∀ N z : Nat, z < N → x.c = 1 → (outO x N)[z]?.getD 0 = outC x z 0
  | 0, z, hz, _ => absurd hz (Nat.not_lt_zero _)
  | N + 1, z, hz, hc => by
    have hl := outO_len x N
    have h1 : x.c.toNat = 1 := by rw [hc]; rfl
    rw [h1, Nat.mul_one] at hl
    rw [outO]
    by_cases h : z < N
    · rw [List.getElem?_append_left (by omega)]
      exact outO_at x N z h hc
    · have : z = N := by omega
      subst this
      rw [List.getElem?_append_right (by omega), hl, Nat.sub_self, h1]
      rfl
theorem bkO_len (l : List UInt8) (n : Nat) : (bkO l n).length = n := by simp [bkO]
theorem bkO_all (l : List UInt8) (n : Nat) : (bkO l n).all smpX = true := by
  rw [List.all_eq_true]
  intro x hx
  simp only [bkO, List.mem_map] at hx
  obtain ⟨i, _, rfl⟩ := hx
  have := sV_in (bkR l i)
  simp only [smpX, Bool.and_eq_true, decide_eq_true_eq]
  exact this
/-- What can be taken comes out at the end as well. -/
theorem fi_tk {x : Rs} {n : Nat} (hv : rsV x = true) (hl : x.l.length ≤ 1000000) (hn : n ≤ 65536) (h : tkE x n = 0) : fiE x n = 0 ∧ fiC x n = tkC x n ∧ fiO x n = tkO x n := by
  obtain ⟨h1, h2, h3⟩ := tkE_po h
  have hpv := (rsV_in hv).1
  have hc : cnt x n = n := by
    have hci := cnt_in hv hl (n := (n : Int)) (by omega)
    rcases Nat.eq_zero_or_pos n with h0 | h0
    · subst h0; omega
    · have hk := cnt_iff hv (n := (n : Int)) (k := n - 1) (by omega)
      have hns := ned_succ hpv (n := n - 1) (by omega)
      rw [show n - 1 + 1 = n by omega] at hns
      have hq := qN_eq hpv (g := n - 1) (by omega)
      have h4 := hk.1 (by omega)
      omega
  have eE : fiE x n = 0 := by unfold fiE; rw [if_neg (by rw [h1]; decide), hc, h2]
  refine ⟨eE, by unfold fiC tkC; rw [if_pos eE, if_pos h], ?_⟩
  unfold fiO tkO
  rw [if_pos eE, if_pos h, hc]


def P1 : Ph := ⟨1, 1, 0, 0, 0⟩
theorem p1_V : phV P1 = true := by decide +kernel
theorem p1_q (k : Int) : qAt P1 k = k ∧ fAt P1 k = 0 := by
  have e : ahd P1 k = k * 65536 := by
    unfold ahd
    have h1 : stp P1 = 65536 := by decide
    rw [h1]
    show (0 : Int) + _ = _
    omega
  have h2 : prt P1 = 65536 := by decide
  unfold qAt fAt
  rw [e, h2]
  omega
theorem p1_qN (k : Nat) : qN P1 k = k := by unfold qN; rw [(p1_q k).1]; rfl
theorem p1_mk {F : Nat} (h1 : 1 ≤ F) (h2 : F ≤ 60000) : mkN P1 (F : Int) = F - 1 := by
  refine mkN_eq p1_V (by omega) (by omega) ?_ ?_
  · unfold ned
    split
    · omega
    · rw [(p1_q _).1, (p1_q _).1]; omega
  · unfold ned
    rw [if_neg (by omega), (p1_q _).1, (p1_q _).1]
    omega
theorem btw_zero (a b : Int) {P : Int} (hP : 0 < P) : btw a b 0 P = a := by
  unfold btw
  rw [Int.sub_zero, Int.mul_zero, Int.add_zero, Int.add_comm, Int.add_mul_ediv_right _ _ (by omega), Int.ediv_eq_zero_of_lt (by omega) (by omega), Int.zero_add]
theorem btw_same (a f : Int) {P : Int} (hP : 0 < P) : btw a a f P = a := by
  unfold btw
  have e : a * (P - f) + a * f = a * P := by rw [← Int.mul_add]; congr 1; omega
  rw [e, Int.add_comm, Int.add_mul_ediv_right _ _ (by omega), Int.ediv_eq_zero_of_lt (by omega) (by omega), Int.zero_add]
theorem p1_oo {s : List Int} {F : Nat} (hs : s.length = F * 2) : ∀ N : Nat, N ≤ F → ooL P1 2 s N = s.take (N * 2)
  | 0, _ => rfl
  | N + 1, hN => by
    have hP : (0 : Int) < prt P1 := by decide
    have e : (List.range (2 : Int).toNat).map (ocX P1 2 s N) = [s[N * 2]?.getD 0, s[N * 2 + 1]?.getD 0] := by
      show [ocX P1 2 s N 0, ocX P1 2 s N 1] = _
      unfold ocX
      rw [p1_qN, (p1_q N).2, btw_zero _ _ hP, btw_zero _ _ hP]
      rfl
    rw [ooL, p1_oo hs N (by omega), e, Nat.add_mul]
    rw [List.getElem?_eq_getElem (by omega), List.getElem?_eq_getElem (by omega)]
    show _ = s.take (N * 2 + 1 + 1)
    rw [List.take_add_one, List.take_add_one, List.getElem?_eq_getElem (by omega), List.getElem?_eq_getElem (by omega), List.append_assoc]
    rfl
theorem p1_fi {s : List Int} {F : Nat} (h1 : 1 ≤ F) (h2 : F ≤ 60000) (hs : s.length = F * 2) (ha : s.all smpX = true) : fiE (stR P1 2 s (F - 1)) 50 = 0 ∧ fiO (stR P1 2 s (F - 1)) 50 = s.drop ((F - 1) * 2) := by
  have hn : ned P1 ((F - 1 : Nat) : Int) ≤ F := by
    unfold ned
    split
    · omega
    · rw [(p1_q _).1, (p1_q _).1]; omega
  obtain ⟨v1, v2, v3, v4⟩ := stR_V p1_V (c := 2) (W := F) (N := F - 1) (by decide) hs ha (by omega) (by omega) hn (by show (0 : Int) + F ≤ _; omega)
  have hq : F - qN P1 (F - 1) = 1 := by rw [p1_qN]; omega
  rw [hq] at v2 v3
  have hl : (stR P1 2 s (F - 1)).l = s.drop ((F - 1) * 2) := by
    unfold stR
    rw [p1_qN]
    rfl
  have hl2 : (s.drop ((F - 1) * 2)).length = 2 := by rw [← hl, v2]; rfl
  have hpv := (rsV_in v1).1
  have hf : (stR P1 2 s (F - 1)).p.f = 0 := (p1_q ((F - 1 : Nat) : Int)).2
  have hz := adv_zero hpv
  have hfz : fAt (stR P1 2 s (F - 1)).p ((0 : Nat) : Int) = 0 := by
    have := congrArg Ph.f hz.1
    exact Eq.trans this hf
  have hlef : lefX (stR P1 2 s (F - 1)) = 65536 := by
    unfold lefX
    show (((stR P1 2 s (F - 1)).l.length / (2 : Int).toNat : Nat) : Int) * prt (stR P1 2 s (F - 1)).p - (stR P1 2 s (F - 1)).p.f = 65536
    rw [v3, hf]
    have : prt (stR P1 2 s (F - 1)).p = 65536 := (show prt P1 = 65536 by decide)
    rw [this]
    rfl
  have hst : stp (stR P1 2 s (F - 1)).p = 65536 := (show stp P1 = 65536 by decide)
  have hct : cnt (stR P1 2 s (F - 1)) 50 = 1 := by
    unfold cnt
    rw [hlef, hst]
    decide
  have hps : (stR P1 2 s (F - 1)).p.p = ((F - 1 : Nat) : Int) := by
    show (0 : Int) + (qN P1 (F - 1) : Int) = _
    rw [p1_qN]
    omega
  have e2 : poE (stR P1 2 s (F - 1)) 1 = 0 := by
    have h0 : phC (stR P1 2 s (F - 1)).p 1 = 0 := phC_of hpv (by decide)
    have hq := qAt_in hpv (n := 1) (by decide)
    have h1 : atP (stR P1 2 s (F - 1)).p 1 = (stR P1 2 s (F - 1)).p.p + qAt (stR P1 2 s (F - 1)).p 1 := by unfold atP; rw [if_pos h0]
    unfold poE adE
    rw [if_pos h0, h1, hps, if_neg (by omega)]
  have eE : fiE (stR P1 2 s (F - 1)) 50 = 0 := by
    unfold fiE
    rw [if_neg (by rw [rcE_of v1 (by decide)]; decide), hct, e2]
  refine ⟨eE, ?_⟩
  unfold fiO
  rw [if_pos eE, hct]
  have hP : (0 : Int) < prt (stR P1 2 s (F - 1)).p := (show (0 : Int) < prt P1 by decide)
  have hoc : ∀ ch : Nat, outC (stR P1 2 s (F - 1)) 0 ch = (s.drop ((F - 1) * 2))[ch]?.getD 0 := fun ch => by
    unfold outC
    rw [hfz, btw_zero _ _ hP, hz.2]
    unfold gx frA
    rw [Nat.zero_mul, Nat.zero_min, Nat.zero_add, hl]
  show ([] : List Int) ++ [outC (stR P1 2 s (F - 1)) 0 0, outC (stR P1 2 s (F - 1)) 0 1] = _
  rw [hoc, hoc]
  generalize s.drop ((F - 1) * 2) = t at *
  match t, hl2 with
  | [x, y], _ => rfl
theorem oo_const {p : Ph} (h : phV p = true) {c : Int} {a : Int} {W : Nat} : ∀ N : Nat, N ≤ 65536 → ned p N ≤ W → ∀ x ∈ ooL p c (List.replicate (W * c.toNat) a) N, x = a
  | 0, _, _, x, hx => by cases hx
  | N + 1, hN, hW, x, hx => by
    have h1 := ned_succ h hN
    have h2 : ned p N ≤ ned p ((N + 1 : Nat) : Int) := ned_mono h (by omega) (by omega) (by omega)
    have hp := prt_in h
    rw [ooL, List.mem_append] at hx
    rcases hx with hx | hx
    · exact oo_const h N (by omega) (by omega) x hx
    · rw [List.mem_map] at hx
      obtain ⟨ch, hch, rfl⟩ := hx
      rw [List.mem_range] at hch
      have h3 : (qN p N + 2) * c.toNat ≤ W * c.toNat := Nat.mul_le_mul_right _ (by omega)
      have h4 : (qN p N + 2) * c.toNat = qN p N * c.toNat + 2 * c.toNat := Nat.add_mul ..
      have h5 : (qN p N + 1) * c.toNat = qN p N * c.toNat + c.toNat := by rw [Nat.add_mul, Nat.one_mul]
      unfold ocX
      rw [List.getElem?_replicate, if_pos (by omega), List.getElem?_replicate, if_pos (by omega)]
      exact btw_same _ _ (by omega)


theorem spec_same15 (s : List UInt8) (w v : Int) (hw : 0 ≤ w ∧ w ≤ 255) (hv : -2147483648 ≤ v ∧ v ≤ 2147483647) : Spec Try.prog 0 6 [vL (LB s), vI .u8 w, vI .i32 v] [] [] (vB true) [] [] := by
  refine spec_of_E (X := ⟨Try.prog, tt, Try.f6.ntmps, 1, fun _ => 0, (tab [(10, E_sane), (13, E_new), (14, E_made), (34, E_mblock), (23, E_rsnew), (30, E_convert), (27, E_finish), (33, E_join), (29, E_same), (35, E_rsat)])⟩) (M := [(8, [0, 0, 0, 0, 0, 674349555742569809627513273386516423, 0, 0, 0, 0, 0, 674349555742569805159942443034984391, 0, 0, 0, 0, 0, 0]), (19, [0, 0, 0, 0, 0, 674636044778220799320556357682184135, 0, 0, 0, 0, 0, 0])]) (m := 674349555742569219475818102756720583) rfl rfl ⟨tt_ok, tab_ok (tabs_cons E_sane_ok (tabs_cons E_new_ok (tabs_cons E_made_ok (tabs_cons E_mblock_ok (tabs_cons E_rsnew_ok (tabs_cons E_convert_ok (tabs_cons E_finish_ok (tabs_cons E_join_ok (tabs_cons E_same_ok (tabs_cons E_rsat_ok tabs_nil)))))))))) _ rfl rfl⟩ tt_mixed Try.func6 rfl (by decide) (by show (3 : Nat) ≤ _; exact Nat.le_of_ble_eq_true rfl) ⟨fun m hm => (V.bare_has rfl m hm).elim, by simp, by simp⟩ ?_
  simp only [↓gPre, gPost, handV, V.bufs, buildArr, toCs, List.set_cons_succ, List.set_cons_zero, List.foldr_cons, List.foldr_nil, List.append_eq, Nat.reduceShiftRight, Nat.reduceMod, List.mem_cons, addB, addK, zeroOp, callSem, resName, keepsB, newB, V.pure, C.pure, V.ptrs, C.ptrs, C.bufs, appendSem, dstOk, lk, V.cells, Op.eff, partV, partD, cut, lay, zeroD, C.toDs, C.toD, V.toD, toDs, buildCells, List.flatMap_nil, List.flatMap_cons, List.all_nil, List.all_cons, List.map_nil, List.map_cons, List.zip_cons_cons, List.zip_nil_left, List.nil_append, List.append_nil, List.cons_append, List.drop_zero, List.drop_succ_cons, List.take_succ_cons, List.take_zero, List.length_cons, List.length_nil, List.getElem?_cons_succ, List.getElem?_cons_zero, Option.getD_some, Option.getD_none, Option.map_some, Option.map_none, Option.some.injEq, Option.isSome_none, Option.isSome_some, Option.toList_some, Option.toList_none, if_true, if_false, ↓reduceIte, reduceCtorEq, Nat.reduceEqDiff, Nat.reduceLT, Nat.reduceLeDiff, List.not_mem_nil, false_implies, implies_true, true_and, and_true, forall_const, Nat.succ_ne_self, Bool.false_eq_true, Bool.true_and, Bool.and_true, eq_self, ne_eq, not_true_eq_false, not_false_eq_true, or_true, true_or, and_self, imp_self, bne_self_eq_false, beq_self_eq_true, Bool.or_false, Bool.false_or, Bool.and_false, Bool.false_and, false_or, or_false, Nat.reduceAdd, Nat.reduceMul, beq_true, beq_false, Name.mk.injEq, decide_true, decide_false, Bool.or_true, Bool.true_or, Bool.or_self, Bool.not_eq_true', Bool.not_true, Bool.not_false, Bool.true_eq_false, Bool.cond_true_left, Bool.cond_false_right, Nat.zero_add, Int.reduceLE, Int.reduceLT, Int.reduceNeg, Int.reduceAdd, Int.reduceToNat, List.range_succ, List.range_zero, Int.toNat_natCast, List.mem_nil_iff, List.mem_append, E_sane_eq, E_new_eq, E_made_eq, E_mblock_eq, E_rsnew_eq, E_convert_eq, E_finish_eq, E_join_eq, E_same_eq, E_rsat_eq, rs_eta, ph_eta, Try.ntmps6, Try.results6, tt_1, tt_2, tt_3, tt_4, tt_5, tt_6, tt_7, tt_8, tt_12, tt_15, tt_16, tt_17, tt_18, tt_19, tt_21, tt_22, tt_23, tt_24, tt_25, tt_26, tt_27, tt_28, tt_29, tt_30, tt_31, tt_32, tt_33, tt_34, tt_35, tt_36, tt_37, tt_38, tt_39, tt_40, tt_41, tt_43, tt_44, tt_45, tt_46, tt_47, tt_48, tt_49, tt_51, tt_52, tt_53, tt_54, tt_55, tt_56, tt_57, tt_58, tt_59, tt_60, tt_62, tt_64, tt_65, tt_66, tt_67, tt_68, tt_69, tt_70, tt_71, tt_72, tt_73, tt_74, tt_75, tt_76, tt_77, tt_78, tt_80, tt_81, tt_83, tt_84, tt_85, tt_86, tt_87, tt_88, tt_89, tt_91, tt_92, tt_93, tt_94, tt_95, tt_96, tt_97, tt_98, tt_99, tt_100, tt_101, tt_102, tt_103, tt_104, tt_105, tt_106, tt_109, tt_110, tt_111, tt_112, tt_113, tt_114, tt_115, tt_116, tt_117, tt_118, tt_119, tt_120, tt_121, tt_122]
  have ht1 : 0 ≤ w.tmod 30 ∧ w.tmod 30 < 30 := by rw [Int.tmod_eq_emod_of_nonneg hw.1]; omega
  rw [IntWalk.i64_in (w.tmod 30) (by omega), IntWalk.i64_in (1 + w.tmod 30) (by omega)]
  have hF0 : (2 * (1 + w.tmod 30)).toNat = (1 + w.tmod 30).toNat * 2 := by omega
  rw [hF0]
  generalize hF : (1 + w.tmod 30).toNat = F at *
  have hF1 : 1 ≤ F ∧ F ≤ 30 := by omega
  have hBl := bkO_len (List.take 300 s) (F * 2)
  have hBa := bkO_all (List.take 300 s) (F * 2)
  generalize bkO (List.take 300 s) (F * 2) = B at *
  generalize bkR (List.take 300 s) (F * 2) = s1 at *
  have hnw : nwR 2 1 1 = ⟨2, P1, []⟩ ∧ nwE 2 1 1 = 0 := ⟨by kernel_rfl, by kernel_rfl⟩
  have hmk := p1_mk hF1.1 (by omega)
  have hcv := cv_step p1_V (c := 2) (s := []) (y := B) (W := 0) (V := F) (N := 0) (by decide) rfl rfl hBl hBa (by omega) (by decide) (by rw [ned_zero]; decide) (by show (0 : Int) + _ ≤ _; omega) (by rw [Nat.zero_add, hmk]; omega)
  rw [stR_zero p1_V, Nat.zero_add, hmk, List.nil_append] at hcv
  obtain ⟨w1, w2, w3, w4⟩ := hcv
  have w4' : cvO ⟨2, P1, []⟩ 2 B = B.take ((F - 1) * 2) := by
    have : cvO ⟨2, P1, []⟩ 2 B = ooL P1 2 B (F - 1) := w4
    rw [this]
    exact p1_oo hBl _ (by omega)
  obtain ⟨f1, f2⟩ := p1_fi hF1.1 (by omega) hBl hBa
  rw [hnw.1, hnw.2, w1, w2, w3, w4', f1, f2, List.take_append_drop]
  have hl1 : (stR P1 2 B (F - 1)).l.length ≤ 1000000 := by
    show (List.drop _ B).length ≤ _
    rw [List.length_drop]; omega
  have hl2 : (List.take ((F - 1) * 2) B).length + (List.drop ((F - 1) * 2) B).length ≤ 1000000 := by rw [List.length_take, List.length_drop]; omega
  refine ⟨by decide, ⟨by omega, by omega⟩, ⟨Nat.zero_le _, by omega⟩, hl1, by kernel_rfl, fun _ => hl2, fun _ => by omega, fun h => by simp at h, fun _ h0 => ?_⟩
  clear w4 f1 f2 hl1 hl2 w1 w2 w3 w4'
  obtain ⟨W, hWl, hWa, hWp, hp0, hpv, hXc⟩ := lm_few (s1)
  have hok := (lmX_ok (s1)).len
  have hcc := lmC (s1)
  generalize lmX (s1) = X at *
  generalize 1 + dN (s1) 2 = c at *
  obtain ⟨c', P, S0⟩ := X
  simp only at hWl hWa hWp hp0 hpv hXc hok h0
  subst hXc
  simp only
  have hpi := phV_in hpv
  have hg : P.d ≤ 50 * P.n := by
    rw [IntWalk.i64_in (50 * P.n) (by omega)] at h0
    exact Int.not_lt.1 (of_decide_eq_false h0)
  have hst := stR_zero hpv c' S0
  have hWd : S0.length / c'.toNat = W := by rw [hWl, Nat.mul_div_cancel _ (by omega)]
  have hW2 := Nat.mul_le_mul (show W ≤ 22 by omega) (show c'.toNat ≤ 2 by omega)
  refine ELoop_nilB ⟨1, 17⟩ 1 1 ⟨1, 99⟩ rfl rfl (by simp only [↓gPre, gPost, handV, V.bufs, buildArr, toCs, List.set_cons_succ, List.set_cons_zero, List.foldr_cons, List.foldr_nil, List.append_eq, Nat.reduceShiftRight, Nat.reduceMod, List.mem_cons, addB, addK, zeroOp, callSem, resName, keepsB, newB, V.pure, C.pure, V.ptrs, C.ptrs, C.bufs, appendSem, dstOk, lk, V.cells, Op.eff, partV, partD, cut, lay, zeroD, C.toDs, C.toD, V.toD, toDs, buildCells, List.flatMap_nil, List.flatMap_cons, List.all_nil, List.all_cons, List.map_nil, List.map_cons, List.zip_cons_cons, List.zip_nil_left, List.nil_append, List.append_nil, List.cons_append, List.drop_zero, List.drop_succ_cons, List.take_succ_cons, List.take_zero, List.length_cons, List.length_nil, List.getElem?_cons_succ, List.getElem?_cons_zero, Option.getD_some, Option.getD_none, Option.map_some, Option.map_none, Option.some.injEq, Option.isSome_none, Option.isSome_some, Option.toList_some, Option.toList_none, if_true, if_false, ↓reduceIte, reduceCtorEq, Nat.reduceEqDiff, Nat.reduceLT, Nat.reduceLeDiff, List.not_mem_nil, false_implies, implies_true, true_and, and_true, forall_const, Nat.succ_ne_self, Bool.false_eq_true, Bool.true_and, Bool.and_true, eq_self, ne_eq, not_true_eq_false, not_false_eq_true, or_true, true_or, and_self, imp_self, bne_self_eq_false, beq_self_eq_true, Bool.or_false, Bool.false_or, Bool.and_false, Bool.false_and, false_or, or_false, Nat.reduceAdd, Nat.reduceMul, beq_true, beq_false, Name.mk.injEq, decide_true, decide_false, Bool.or_true, Bool.true_or, Bool.or_self, Bool.not_eq_true', Bool.not_true, Bool.not_false, Bool.true_eq_false, Bool.cond_true_left, Bool.cond_false_right, Nat.zero_add, Int.reduceLE, Int.reduceLT, Int.reduceNeg, Int.reduceAdd, Int.reduceToNat, List.range_succ, List.range_zero, Int.toNat_natCast, List.mem_nil_iff, List.mem_append, E_sane_eq, E_new_eq, E_made_eq, E_mblock_eq, E_rsnew_eq, E_convert_eq, E_finish_eq, E_join_eq, E_same_eq, E_rsat_eq, rs_eta, ph_eta, Try.ntmps6, Try.results6, tt_1, tt_2, tt_3, tt_4, tt_5, tt_6, tt_7, tt_8, tt_12, tt_15, tt_16, tt_17, tt_18, tt_19, tt_21, tt_22, tt_23, tt_24, tt_25, tt_26, tt_27, tt_28, tt_29, tt_30, tt_31, tt_32, tt_33, tt_34, tt_35, tt_36, tt_37, tt_38, tt_39, tt_40, tt_41, tt_43, tt_44, tt_45, tt_46, tt_47, tt_48, tt_49, tt_51, tt_52, tt_53, tt_54, tt_55, tt_56, tt_57, tt_58, tt_59, tt_60, tt_62, tt_64, tt_65, tt_66, tt_67, tt_68, tt_69, tt_70, tt_71, tt_72, tt_73, tt_74, tt_75, tt_76, tt_77, tt_78, tt_80, tt_81, tt_83, tt_84, tt_85, tt_86, tt_87, tt_88, tt_89, tt_91, tt_92, tt_93, tt_94, tt_95, tt_96, tt_97, tt_98, tt_99, tt_100, tt_101, tt_102, tt_103, tt_104, tt_105, tt_106, tt_109, tt_110, tt_111, tt_112, tt_113, tt_114, tt_115, tt_116, tt_117, tt_118, tt_119, tt_120, tt_121, tt_122]) (Nat.le_refl _) ?_
  simp only [↓gPre, gPost, handV, V.bufs, buildArr, toCs, List.set_cons_succ, List.set_cons_zero, List.foldr_cons, List.foldr_nil, List.append_eq, Nat.reduceShiftRight, Nat.reduceMod, List.mem_cons, addB, addK, zeroOp, callSem, resName, keepsB, newB, V.pure, C.pure, V.ptrs, C.ptrs, C.bufs, appendSem, dstOk, lk, V.cells, Op.eff, partV, partD, cut, lay, zeroD, C.toDs, C.toD, V.toD, toDs, buildCells, List.flatMap_nil, List.flatMap_cons, List.all_nil, List.all_cons, List.map_nil, List.map_cons, List.zip_cons_cons, List.zip_nil_left, List.nil_append, List.append_nil, List.cons_append, List.drop_zero, List.drop_succ_cons, List.take_succ_cons, List.take_zero, List.length_cons, List.length_nil, List.getElem?_cons_succ, List.getElem?_cons_zero, Option.getD_some, Option.getD_none, Option.map_some, Option.map_none, Option.some.injEq, Option.isSome_none, Option.isSome_some, Option.toList_some, Option.toList_none, if_true, if_false, ↓reduceIte, reduceCtorEq, Nat.reduceEqDiff, Nat.reduceLT, Nat.reduceLeDiff, List.not_mem_nil, false_implies, implies_true, true_and, and_true, forall_const, Nat.succ_ne_self, Bool.false_eq_true, Bool.true_and, Bool.and_true, eq_self, ne_eq, not_true_eq_false, not_false_eq_true, or_true, true_or, and_self, imp_self, bne_self_eq_false, beq_self_eq_true, Bool.or_false, Bool.false_or, Bool.and_false, Bool.false_and, false_or, or_false, Nat.reduceAdd, Nat.reduceMul, beq_true, beq_false, Name.mk.injEq, decide_true, decide_false, Bool.or_true, Bool.true_or, Bool.or_self, Bool.not_eq_true', Bool.not_true, Bool.not_false, Bool.true_eq_false, Bool.cond_true_left, Bool.cond_false_right, Nat.zero_add, Int.reduceLE, Int.reduceLT, Int.reduceNeg, Int.reduceAdd, Int.reduceToNat, List.range_succ, List.range_zero, Int.toNat_natCast, List.mem_nil_iff, List.mem_append, E_sane_eq, E_new_eq, E_made_eq, E_mblock_eq, E_rsnew_eq, E_convert_eq, E_finish_eq, E_join_eq, E_same_eq, E_rsat_eq, rs_eta, ph_eta, Try.ntmps6, Try.results6, tt_1, tt_2, tt_3, tt_4, tt_5, tt_6, tt_7, tt_8, tt_12, tt_15, tt_16, tt_17, tt_18, tt_19, tt_21, tt_22, tt_23, tt_24, tt_25, tt_26, tt_27, tt_28, tt_29, tt_30, tt_31, tt_32, tt_33, tt_34, tt_35, tt_36, tt_37, tt_38, tt_39, tt_40, tt_41, tt_43, tt_44, tt_45, tt_46, tt_47, tt_48, tt_49, tt_51, tt_52, tt_53, tt_54, tt_55, tt_56, tt_57, tt_58, tt_59, tt_60, tt_62, tt_64, tt_65, tt_66, tt_67, tt_68, tt_69, tt_70, tt_71, tt_72, tt_73, tt_74, tt_75, tt_76, tt_77, tt_78, tt_80, tt_81, tt_83, tt_84, tt_85, tt_86, tt_87, tt_88, tt_89, tt_91, tt_92, tt_93, tt_94, tt_95, tt_96, tt_97, tt_98, tt_99, tt_100, tt_101, tt_102, tt_103, tt_104, tt_105, tt_106, tt_109, tt_110, tt_111, tt_112, tt_113, tt_114, tt_115, tt_116, tt_117, tt_118, tt_119, tt_120, tt_121, tt_122]
  have hvw : IntKind.i64.wrap v = v := IntWalk.i64_in _ (by omega)
  have hc12 : c' * 12 = ((12 * c'.toNat : Nat) : Int) := by omega
  refine ELoop_keep (fun g => ⟨[(18, vI .i64 (g : Nat))], [(⟨1, 17⟩, [.d (.int .i64 c'), .own ⟨1, 99⟩ (LI .i32 (List.replicate g (satG v)))])], [(⟨1, 99⟩, ⟨false, 1, LI .i32 (List.replicate g (satG v))⟩)]⟩) (fun g => g ≤ 12 * c'.toNat) (fun g => 12 * c'.toNat - g) (· + 1) 0 (Nat.zero_le _) ?_ ?_
  · simp only [↓gPre, gPost, handV, V.bufs, buildArr, toCs, List.set_cons_succ, List.set_cons_zero, List.foldr_cons, List.foldr_nil, List.append_eq, Nat.reduceShiftRight, Nat.reduceMod, List.mem_cons, addB, addK, zeroOp, callSem, resName, keepsB, newB, V.pure, C.pure, V.ptrs, C.ptrs, C.bufs, appendSem, dstOk, lk, V.cells, Op.eff, partV, partD, cut, lay, zeroD, C.toDs, C.toD, V.toD, toDs, buildCells, List.flatMap_nil, List.flatMap_cons, List.all_nil, List.all_cons, List.map_nil, List.map_cons, List.zip_cons_cons, List.zip_nil_left, List.nil_append, List.append_nil, List.cons_append, List.drop_zero, List.drop_succ_cons, List.take_succ_cons, List.take_zero, List.length_cons, List.length_nil, List.getElem?_cons_succ, List.getElem?_cons_zero, Option.getD_some, Option.getD_none, Option.map_some, Option.map_none, Option.some.injEq, Option.isSome_none, Option.isSome_some, Option.toList_some, Option.toList_none, if_true, if_false, ↓reduceIte, reduceCtorEq, Nat.reduceEqDiff, Nat.reduceLT, Nat.reduceLeDiff, List.not_mem_nil, false_implies, implies_true, true_and, and_true, forall_const, Nat.succ_ne_self, Bool.false_eq_true, Bool.true_and, Bool.and_true, eq_self, ne_eq, not_true_eq_false, not_false_eq_true, or_true, true_or, and_self, imp_self, bne_self_eq_false, beq_self_eq_true, Bool.or_false, Bool.false_or, Bool.and_false, Bool.false_and, false_or, or_false, Nat.reduceAdd, Nat.reduceMul, beq_true, beq_false, Name.mk.injEq, decide_true, decide_false, Bool.or_true, Bool.true_or, Bool.or_self, Bool.not_eq_true', Bool.not_true, Bool.not_false, Bool.true_eq_false, Bool.cond_true_left, Bool.cond_false_right, Nat.zero_add, Int.reduceLE, Int.reduceLT, Int.reduceNeg, Int.reduceAdd, Int.reduceToNat, List.range_succ, List.range_zero, Int.toNat_natCast, List.mem_nil_iff, List.mem_append, E_sane_eq, E_new_eq, E_made_eq, E_mblock_eq, E_rsnew_eq, E_convert_eq, E_finish_eq, E_join_eq, E_same_eq, E_rsat_eq, rs_eta, ph_eta, Try.ntmps6, Try.results6, tt_1, tt_2, tt_3, tt_4, tt_5, tt_6, tt_7, tt_8, tt_12, tt_15, tt_16, tt_17, tt_18, tt_19, tt_21, tt_22, tt_23, tt_24, tt_25, tt_26, tt_27, tt_28, tt_29, tt_30, tt_31, tt_32, tt_33, tt_34, tt_35, tt_36, tt_37, tt_38, tt_39, tt_40, tt_41, tt_43, tt_44, tt_45, tt_46, tt_47, tt_48, tt_49, tt_51, tt_52, tt_53, tt_54, tt_55, tt_56, tt_57, tt_58, tt_59, tt_60, tt_62, tt_64, tt_65, tt_66, tt_67, tt_68, tt_69, tt_70, tt_71, tt_72, tt_73, tt_74, tt_75, tt_76, tt_77, tt_78, tt_80, tt_81, tt_83, tt_84, tt_85, tt_86, tt_87, tt_88, tt_89, tt_91, tt_92, tt_93, tt_94, tt_95, tt_96, tt_97, tt_98, tt_99, tt_100, tt_101, tt_102, tt_103, tt_104, tt_105, tt_106, tt_109, tt_110, tt_111, tt_112, tt_113, tt_114, tt_115, tt_116, tt_117, tt_118, tt_119, tt_120, tt_121, tt_122]
    exact ⟨rfl, rfl, rfl⟩
  intro g hg
  simp only [↓gPre, gPost, handV, V.bufs, buildArr, toCs, List.set_cons_succ, List.set_cons_zero, List.foldr_cons, List.foldr_nil, List.append_eq, Nat.reduceShiftRight, Nat.reduceMod, List.mem_cons, addB, addK, zeroOp, callSem, resName, keepsB, newB, V.pure, C.pure, V.ptrs, C.ptrs, C.bufs, appendSem, dstOk, lk, V.cells, Op.eff, partV, partD, cut, lay, zeroD, C.toDs, C.toD, V.toD, toDs, buildCells, List.flatMap_nil, List.flatMap_cons, List.all_nil, List.all_cons, List.map_nil, List.map_cons, List.zip_cons_cons, List.zip_nil_left, List.nil_append, List.append_nil, List.cons_append, List.drop_zero, List.drop_succ_cons, List.take_succ_cons, List.take_zero, List.length_cons, List.length_nil, List.getElem?_cons_succ, List.getElem?_cons_zero, Option.getD_some, Option.getD_none, Option.map_some, Option.map_none, Option.some.injEq, Option.isSome_none, Option.isSome_some, Option.toList_some, Option.toList_none, if_true, if_false, ↓reduceIte, reduceCtorEq, Nat.reduceEqDiff, Nat.reduceLT, Nat.reduceLeDiff, List.not_mem_nil, false_implies, implies_true, true_and, and_true, forall_const, Nat.succ_ne_self, Bool.false_eq_true, Bool.true_and, Bool.and_true, eq_self, ne_eq, not_true_eq_false, not_false_eq_true, or_true, true_or, and_self, imp_self, bne_self_eq_false, beq_self_eq_true, Bool.or_false, Bool.false_or, Bool.and_false, Bool.false_and, false_or, or_false, Nat.reduceAdd, Nat.reduceMul, beq_true, beq_false, Name.mk.injEq, decide_true, decide_false, Bool.or_true, Bool.true_or, Bool.or_self, Bool.not_eq_true', Bool.not_true, Bool.not_false, Bool.true_eq_false, Bool.cond_true_left, Bool.cond_false_right, Nat.zero_add, Int.reduceLE, Int.reduceLT, Int.reduceNeg, Int.reduceAdd, Int.reduceToNat, List.range_succ, List.range_zero, Int.toNat_natCast, List.mem_nil_iff, List.mem_append, E_sane_eq, E_new_eq, E_made_eq, E_mblock_eq, E_rsnew_eq, E_convert_eq, E_finish_eq, E_join_eq, E_same_eq, E_rsat_eq, rs_eta, ph_eta, Try.ntmps6, Try.results6, tt_1, tt_2, tt_3, tt_4, tt_5, tt_6, tt_7, tt_8, tt_12, tt_15, tt_16, tt_17, tt_18, tt_19, tt_21, tt_22, tt_23, tt_24, tt_25, tt_26, tt_27, tt_28, tt_29, tt_30, tt_31, tt_32, tt_33, tt_34, tt_35, tt_36, tt_37, tt_38, tt_39, tt_40, tt_41, tt_43, tt_44, tt_45, tt_46, tt_47, tt_48, tt_49, tt_51, tt_52, tt_53, tt_54, tt_55, tt_56, tt_57, tt_58, tt_59, tt_60, tt_62, tt_64, tt_65, tt_66, tt_67, tt_68, tt_69, tt_70, tt_71, tt_72, tt_73, tt_74, tt_75, tt_76, tt_77, tt_78, tt_80, tt_81, tt_83, tt_84, tt_85, tt_86, tt_87, tt_88, tt_89, tt_91, tt_92, tt_93, tt_94, tt_95, tt_96, tt_97, tt_98, tt_99, tt_100, tt_101, tt_102, tt_103, tt_104, tt_105, tt_106, tt_109, tt_110, tt_111, tt_112, tt_113, tt_114, tt_115, tt_116, tt_117, tt_118, tt_119, tt_120, tt_121, tt_122]
  rw [hc12, IntWalk.i64_in ((12 * c'.toNat : Nat) : Int) (by omega), hvw]
  refine ⟨fun h1 => ?_, fun h1 => ?_⟩
  · have := of_decide_eq_true h1
    have hrp : List.replicate (g + 1) (satG v) = List.replicate g (satG v) ++ [satG v] := List.replicate_succ'
    rw [hrp]
    exact ⟨by kernel_rfl, by unfold roomOK; rw [List.length_replicate]; omega, ⟨(wrapN _ (by omega)).symm, rfl, rfl⟩, by omega, by omega⟩
  have hgc : g = 12 * c'.toNat := by have := of_decide_eq_false h1; omega
  rw [hgc]
  have hsa := satG_in v
  have hCa : (List.replicate (12 * c'.toNat) (satG v)).all smpX = true := by
    rw [List.all_eq_true]
    intro x hx
    rw [(List.mem_replicate.1 hx).2]
    simp only [smpX, Bool.and_eq_true, decide_eq_true_eq]
    exact hsa
  have hfew := mk_few hpv (W := 12) (by omega) (by decide)
  have hM1 := (mkN_iff hpv (n := ((12 : Nat) : Int)) (Int.natCast_nonneg _) (k := mkN P ((12 : Nat) : Int)) (by omega)).1 (Nat.le_refl _)
  have hc2 := cv_step hpv (c := c') (s := []) (y := List.replicate (12 * c'.toNat) (satG v)) (W := 0) (V := 12) (N := 0) (by omega) (by simp) rfl (by simp) hCa (by omega) (by decide) (by rw [ned_zero]; decide) (by omega) (by rw [Nat.zero_add]; exact hfew)
  rw [stR_zero hpv, Nat.zero_add, List.nil_append] at hc2
  obtain ⟨w1, w2, w3, w4⟩ := hc2
  have w4' : cvO ⟨c', P, []⟩ c' (List.replicate (12 * c'.toNat) (satG v)) = ooL P c' (List.replicate (12 * c'.toNat) (satG v)) (mkN P ((12 : Nat) : Int)) := w4
  rw [w1, w4']
  have hcon := oo_const hpv (c := c') (a := satG v) (W := 12) (mkN P ((12 : Nat) : Int)) (by omega) hM1
  have hol := ooL_len P c' (List.replicate (12 * c'.toNat) (satG v)) (mkN P ((12 : Nat) : Int))
  have hob := Nat.mul_le_mul (show mkN P ((12 : Nat) : Int) ≤ 65536 by omega) (show c'.toNat ≤ 2 by omega)
  generalize ooL P c' (List.replicate (12 * c'.toNat) (satG v)) (mkN P ((12 : Nat) : Int)) = O at *
  refine ⟨by rw [List.length_replicate]; omega, ?_⟩
  refine ELoop_keep (fun j => ⟨[(111, vI .i64 (j : Nat))], [], []⟩) (fun j => j ≤ O.length) (fun j => O.length - j) (· + 1) 0 (Nat.zero_le _) ?_ ?_
  · simp only [↓gPre, gPost, handV, V.bufs, buildArr, toCs, List.set_cons_succ, List.set_cons_zero, List.foldr_cons, List.foldr_nil, List.append_eq, Nat.reduceShiftRight, Nat.reduceMod, List.mem_cons, addB, addK, zeroOp, callSem, resName, keepsB, newB, V.pure, C.pure, V.ptrs, C.ptrs, C.bufs, appendSem, dstOk, lk, V.cells, Op.eff, partV, partD, cut, lay, zeroD, C.toDs, C.toD, V.toD, toDs, buildCells, List.flatMap_nil, List.flatMap_cons, List.all_nil, List.all_cons, List.map_nil, List.map_cons, List.zip_cons_cons, List.zip_nil_left, List.nil_append, List.append_nil, List.cons_append, List.drop_zero, List.drop_succ_cons, List.take_succ_cons, List.take_zero, List.length_cons, List.length_nil, List.getElem?_cons_succ, List.getElem?_cons_zero, Option.getD_some, Option.getD_none, Option.map_some, Option.map_none, Option.some.injEq, Option.isSome_none, Option.isSome_some, Option.toList_some, Option.toList_none, if_true, if_false, ↓reduceIte, reduceCtorEq, Nat.reduceEqDiff, Nat.reduceLT, Nat.reduceLeDiff, List.not_mem_nil, false_implies, implies_true, true_and, and_true, forall_const, Nat.succ_ne_self, Bool.false_eq_true, Bool.true_and, Bool.and_true, eq_self, ne_eq, not_true_eq_false, not_false_eq_true, or_true, true_or, and_self, imp_self, bne_self_eq_false, beq_self_eq_true, Bool.or_false, Bool.false_or, Bool.and_false, Bool.false_and, false_or, or_false, Nat.reduceAdd, Nat.reduceMul, beq_true, beq_false, Name.mk.injEq, decide_true, decide_false, Bool.or_true, Bool.true_or, Bool.or_self, Bool.not_eq_true', Bool.not_true, Bool.not_false, Bool.true_eq_false, Bool.cond_true_left, Bool.cond_false_right, Nat.zero_add, Int.reduceLE, Int.reduceLT, Int.reduceNeg, Int.reduceAdd, Int.reduceToNat, List.range_succ, List.range_zero, Int.toNat_natCast, List.mem_nil_iff, List.mem_append, E_sane_eq, E_new_eq, E_made_eq, E_mblock_eq, E_rsnew_eq, E_convert_eq, E_finish_eq, E_join_eq, E_same_eq, E_rsat_eq, rs_eta, ph_eta, Try.ntmps6, Try.results6, tt_1, tt_2, tt_3, tt_4, tt_5, tt_6, tt_7, tt_8, tt_12, tt_15, tt_16, tt_17, tt_18, tt_19, tt_21, tt_22, tt_23, tt_24, tt_25, tt_26, tt_27, tt_28, tt_29, tt_30, tt_31, tt_32, tt_33, tt_34, tt_35, tt_36, tt_37, tt_38, tt_39, tt_40, tt_41, tt_43, tt_44, tt_45, tt_46, tt_47, tt_48, tt_49, tt_51, tt_52, tt_53, tt_54, tt_55, tt_56, tt_57, tt_58, tt_59, tt_60, tt_62, tt_64, tt_65, tt_66, tt_67, tt_68, tt_69, tt_70, tt_71, tt_72, tt_73, tt_74, tt_75, tt_76, tt_77, tt_78, tt_80, tt_81, tt_83, tt_84, tt_85, tt_86, tt_87, tt_88, tt_89, tt_91, tt_92, tt_93, tt_94, tt_95, tt_96, tt_97, tt_98, tt_99, tt_100, tt_101, tt_102, tt_103, tt_104, tt_105, tt_106, tt_109, tt_110, tt_111, tt_112, tt_113, tt_114, tt_115, tt_116, tt_117, tt_118, tt_119, tt_120, tt_121, tt_122]
    rfl
  intro j hj
  simp only [↓gPre, gPost, handV, V.bufs, buildArr, toCs, List.set_cons_succ, List.set_cons_zero, List.foldr_cons, List.foldr_nil, List.append_eq, Nat.reduceShiftRight, Nat.reduceMod, List.mem_cons, addB, addK, zeroOp, callSem, resName, keepsB, newB, V.pure, C.pure, V.ptrs, C.ptrs, C.bufs, appendSem, dstOk, lk, V.cells, Op.eff, partV, partD, cut, lay, zeroD, C.toDs, C.toD, V.toD, toDs, buildCells, List.flatMap_nil, List.flatMap_cons, List.all_nil, List.all_cons, List.map_nil, List.map_cons, List.zip_cons_cons, List.zip_nil_left, List.nil_append, List.append_nil, List.cons_append, List.drop_zero, List.drop_succ_cons, List.take_succ_cons, List.take_zero, List.length_cons, List.length_nil, List.getElem?_cons_succ, List.getElem?_cons_zero, Option.getD_some, Option.getD_none, Option.map_some, Option.map_none, Option.some.injEq, Option.isSome_none, Option.isSome_some, Option.toList_some, Option.toList_none, if_true, if_false, ↓reduceIte, reduceCtorEq, Nat.reduceEqDiff, Nat.reduceLT, Nat.reduceLeDiff, List.not_mem_nil, false_implies, implies_true, true_and, and_true, forall_const, Nat.succ_ne_self, Bool.false_eq_true, Bool.true_and, Bool.and_true, eq_self, ne_eq, not_true_eq_false, not_false_eq_true, or_true, true_or, and_self, imp_self, bne_self_eq_false, beq_self_eq_true, Bool.or_false, Bool.false_or, Bool.and_false, Bool.false_and, false_or, or_false, Nat.reduceAdd, Nat.reduceMul, beq_true, beq_false, Name.mk.injEq, decide_true, decide_false, Bool.or_true, Bool.true_or, Bool.or_self, Bool.not_eq_true', Bool.not_true, Bool.not_false, Bool.true_eq_false, Bool.cond_true_left, Bool.cond_false_right, Nat.zero_add, Int.reduceLE, Int.reduceLT, Int.reduceNeg, Int.reduceAdd, Int.reduceToNat, List.range_succ, List.range_zero, Int.toNat_natCast, List.mem_nil_iff, List.mem_append, E_sane_eq, E_new_eq, E_made_eq, E_mblock_eq, E_rsnew_eq, E_convert_eq, E_finish_eq, E_join_eq, E_same_eq, E_rsat_eq, rs_eta, ph_eta, Try.ntmps6, Try.results6, tt_1, tt_2, tt_3, tt_4, tt_5, tt_6, tt_7, tt_8, tt_12, tt_15, tt_16, tt_17, tt_18, tt_19, tt_21, tt_22, tt_23, tt_24, tt_25, tt_26, tt_27, tt_28, tt_29, tt_30, tt_31, tt_32, tt_33, tt_34, tt_35, tt_36, tt_37, tt_38, tt_39, tt_40, tt_41, tt_43, tt_44, tt_45, tt_46, tt_47, tt_48, tt_49, tt_51, tt_52, tt_53, tt_54, tt_55, tt_56, tt_57, tt_58, tt_59, tt_60, tt_62, tt_64, tt_65, tt_66, tt_67, tt_68, tt_69, tt_70, tt_71, tt_72, tt_73, tt_74, tt_75, tt_76, tt_77, tt_78, tt_80, tt_81, tt_83, tt_84, tt_85, tt_86, tt_87, tt_88, tt_89, tt_91, tt_92, tt_93, tt_94, tt_95, tt_96, tt_97, tt_98, tt_99, tt_100, tt_101, tt_102, tt_103, tt_104, tt_105, tt_106, tt_109, tt_110, tt_111, tt_112, tt_113, tt_114, tt_115, tt_116, tt_117, tt_118, tt_119, tt_120, tt_121, tt_122]
  rw [hvw]
  refine fun h1 => ⟨by have := of_decide_eq_true h1; omega, fun h2 => ?_, fun _ => ?_⟩
  · have hlt : j < O.length := by have := of_decide_eq_true h1; omega
    have hx := hcon _ (List.getElem_mem hlt)
    rw [List.getElem?_eq_getElem hlt] at h2
    simp [hx] at h2
  · have := of_decide_eq_true h1
    exact ⟨(wrapN _ (by omega)).symm, by omega, by omega⟩

end Go.Vam
