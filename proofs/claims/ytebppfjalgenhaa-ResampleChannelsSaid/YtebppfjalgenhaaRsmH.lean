/- Made resamplers, sane. Conditions: none. -/
import Derived.Test.YtebppfjalgenhaaRsmG
set_option linter.unusedVariables false
set_option linter.unusedSimpArgs false
set_option maxRecDepth 40000
set_option maxHeartbeats 4000000
namespace Go.Vam
open Go.Proofs

theorem gR2 {c n d a p f c2 n2 d2 a2 p2 f2 : Int} {l l2 : List Int} {i : Nat} : (([D.agg [D.int .i64 c, D.int .i64 n, D.int .i64 d, D.int .i64 a, D.int .i64 p, D.int .i64 f, D.list (LI .i32 l)], D.agg [D.int .i64 c2, D.int .i64 n2, D.int .i64 d2, D.int .i64 a2, D.int .i64 p2, D.int .i64 f2, D.list (LI .i32 l2)]])[i]?).getD (D.agg [D.int .i64 0, D.int .i64 0, D.int .i64 0, D.int .i64 0, D.int .i64 0, D.int .i64 0, D.list []]) = D.agg [D.int .i64 (([⟨c, ⟨n, d, a, p, f⟩, l⟩, ⟨c2, ⟨n2, d2, a2, p2, f2⟩, l2⟩] : List Rs)[i]?.getD rs0).c, D.int .i64 (([⟨c, ⟨n, d, a, p, f⟩, l⟩, ⟨c2, ⟨n2, d2, a2, p2, f2⟩, l2⟩] : List Rs)[i]?.getD rs0).p.n, D.int .i64 (([⟨c, ⟨n, d, a, p, f⟩, l⟩, ⟨c2, ⟨n2, d2, a2, p2, f2⟩, l2⟩] : List Rs)[i]?.getD rs0).p.d, D.int .i64 (([⟨c, ⟨n, d, a, p, f⟩, l⟩, ⟨c2, ⟨n2, d2, a2, p2, f2⟩, l2⟩] : List Rs)[i]?.getD rs0).p.a, D.int .i64 (([⟨c, ⟨n, d, a, p, f⟩, l⟩, ⟨c2, ⟨n2, d2, a2, p2, f2⟩, l2⟩] : List Rs)[i]?.getD rs0).p.p, D.int .i64 (([⟨c, ⟨n, d, a, p, f⟩, l⟩, ⟨c2, ⟨n2, d2, a2, p2, f2⟩, l2⟩] : List Rs)[i]?.getD rs0).p.f, D.list (LI .i32 (([⟨c, ⟨n, d, a, p, f⟩, l⟩, ⟨c2, ⟨n2, d2, a2, p2, f2⟩, l2⟩] : List Rs)[i]?.getD rs0).l)] := by
  match i with
  | 0 => rfl
  | 1 => rfl
  | i + 2 => rfl
theorem gB2 {k k2 : Int} {y y2 : List Int} {i : Nat} : (([D.agg [D.int .i64 k, D.list (LI .i32 y)], D.agg [D.int .i64 k2, D.list (LI .i32 y2)]])[i]?).getD (D.agg [D.int .i64 0, D.list []]) = D.agg [D.int .i64 (([(k, y), (k2, y2)])[i]?.getD (0, [])).1, D.list (LI .i32 (([(k, y), (k2, y2)])[i]?.getD (0, [])).2)] := by
  match i with
  | 0 => rfl
  | 1 => rfl
  | i + 2 => rfl
theorem two_of {α : Type} {P : α → Prop} {a b z : α} (ha : P a) (hb : P b) (hz : P z) (i : Nat) : P (([a, b])[i]?.getD z) := by
  match i with
  | 0 => exact ha
  | 1 => exact hb
  | i + 2 => exact hz
theorem mkN_eq {p : Ph} (h : phV p = true) {n : Int} (h0 : 0 ≤ n) {k : Nat} (hk : k < 65536) (h1 : ned p k ≤ n) (h2 : n < ned p ((k + 1 : Nat) : Int)) : mkN p n = k := by
  have a := (mkN_iff h h0 (show k ≤ 65536 by omega)).2 h1
  have b := mkN_iff h h0 (show k + 1 ≤ 65536 by omega)
  have : ¬ (k + 1 ≤ mkN p n) := fun h => by have := b.1 h; omega
  omega
theorem ph_eta (x : Ph) : (⟨x.n, x.d, x.a, x.p, x.f⟩ : Ph) = x := rfl
theorem rs_eta (x : Rs) : (⟨x.c, x.p, x.l⟩ : Rs) = x := rfl
def eg0 : Rs := ⟨1, ⟨1, 2, 0, 0, 0⟩, []⟩
theorem eg_nw : nwR 1 1 2 = eg0 ∧ nwE 1 1 2 = 0 := ⟨by kernel_rfl, by kernel_rfl⟩
theorem eg_cv : cvE eg0 1 [0, 10, 20] = 0 ∧ cvO eg0 1 [0, 10, 20] = [0, 5, 10, 15] ∧ cvR eg0 1 [0, 10, 20] = ⟨1, ⟨1, 2, 0, 2, 0⟩, [20]⟩ := ⟨by kernel_rfl, by kernel_rfl, by kernel_rfl⟩
theorem eg_fi : fiE ⟨1, ⟨1, 2, 0, 2, 0⟩, [20]⟩ 9 = 0 ∧ fiO ⟨1, ⟨1, 2, 0, 2, 0⟩, [20]⟩ 9 = [20, 20] := ⟨by kernel_rfl, by kernel_rfl⟩
theorem eg_wa : rsV eg0 = true ∧ waN ⟨1, ⟨1, 2, 0, 2, 0⟩, [20]⟩ = 1 := ⟨by kernel_rfl, by kernel_rfl⟩
/-- What law15.made makes. -/
def lmX (l : List UInt8) : Rs := mrX (dT l 2) (1 + dN l 2)
def lmR (l : List UInt8) : List UInt8 := mrR (dT l 2)
theorem lmC (l : List UInt8) : 1 ≤ 1 + dN l 2 ∧ 1 + dN l 2 ≤ 2 := by
  have := dN_ge l 2
  have := dN_lt l 2 (by decide)
  omega
theorem lmX_ok (l : List UInt8) : okR (lmX l) (1 + dN l 2) := mrS_ok _ (by have := lmC l; omega) _


theorem spec_made (l : List UInt8) : Spec Try.prog 0 14 [.c (.lp ⟨0, 0⟩ 0)] [(⟨0, 0⟩, [.d (.list (LB l))])] [] (.agg [.d (.int .i64 (lmX l).c), .d (.int .i64 (lmX l).p.n), .d (.int .i64 (lmX l).p.d), .d (.int .i64 (lmX l).p.a), .d (.int .i64 (lmX l).p.p), .d (.int .i64 (lmX l).p.f), .d (.list (LI .i32 (lmX l).l))]) [(⟨0, 0⟩, [.d (.list (LB (lmR l)))])] [] := by
  refine spec_of_E (X := ⟨Try.prog, tt, Try.f14.ntmps, 1, fun _ => 0, (tab [(41, E_next), (40, E_mkrs)])⟩) (M := []) (m := 5) rfl rfl ⟨tt_ok, tab_ok (tabs_cons E_next_ok (tabs_cons E_mkrs_ok tabs_nil)) _ rfl rfl⟩ tt_mixed Try.func14 rfl (by decide) (by show (1 : Nat) ≤ _; exact Nat.le_of_ble_eq_true rfl) ⟨by simp [V.has, C.has], by simp [C.has], by simp⟩ ?_
  simp only [↓gPre, gPost, handV, V.bufs, buildArr, toCs, List.set_cons_succ, List.set_cons_zero, List.foldr_cons, List.foldr_nil, List.append_eq, Nat.reduceShiftRight, Nat.reduceMod, List.mem_cons, addB, addK, zeroOp, callSem, resName, keepsB, newB, V.pure, C.pure, V.ptrs, C.ptrs, C.bufs, appendSem, dstOk, lk, V.cells, Op.eff, partV, partD, cut, lay, zeroD, C.toDs, C.toD, V.toD, toDs, buildCells, List.flatMap_nil, List.flatMap_cons, List.all_nil, List.all_cons, List.map_nil, List.map_cons, List.zip_cons_cons, List.zip_nil_left, List.nil_append, List.append_nil, List.cons_append, List.drop_zero, List.drop_succ_cons, List.take_succ_cons, List.take_zero, List.length_cons, List.length_nil, List.getElem?_cons_succ, List.getElem?_cons_zero, Option.getD_some, Option.getD_none, Option.map_some, Option.map_none, Option.some.injEq, Option.isSome_none, Option.isSome_some, Option.toList_some, Option.toList_none, if_true, if_false, ↓reduceIte, reduceCtorEq, Nat.reduceEqDiff, Nat.reduceLT, Nat.reduceLeDiff, List.not_mem_nil, false_implies, implies_true, true_and, and_true, forall_const, Nat.succ_ne_self, Bool.false_eq_true, Bool.true_and, Bool.and_true, eq_self, ne_eq, not_true_eq_false, not_false_eq_true, or_true, true_or, and_self, imp_self, bne_self_eq_false, beq_self_eq_true, Bool.or_false, Bool.false_or, Bool.and_false, Bool.false_and, false_or, or_false, Nat.reduceAdd, Nat.reduceMul, beq_true, beq_false, Name.mk.injEq, decide_true, decide_false, Bool.or_true, Bool.true_or, Bool.or_self, Bool.not_eq_true', Bool.not_true, Bool.not_false, Bool.true_eq_false, Bool.cond_true_left, Bool.cond_false_right, Nat.zero_add, Int.reduceLE, Int.reduceLT, Int.reduceNeg, Int.reduceAdd, Int.reduceToNat, List.range_succ, List.range_zero, Int.toNat_natCast, List.mem_nil_iff, List.mem_append, E_next_eq, E_mkrs_eq, Try.ntmps14, Try.results14, tt_1, tt_2, tt_3, tt_4, tt_5, tt_6, tt_7, tt_8, tt_12, tt_15, tt_16, tt_17, tt_18, tt_19, tt_21, tt_22, tt_23, tt_24, tt_25, tt_26, tt_27, tt_28, tt_29, tt_30, tt_31, tt_32, tt_33, tt_34, tt_35, tt_36, tt_37, tt_38, tt_39, tt_40, tt_41, tt_43, tt_44, tt_45, tt_46, tt_47, tt_48, tt_49, tt_51, tt_52, tt_53, tt_54, tt_55, tt_56, tt_57, tt_58, tt_59, tt_60, tt_62, tt_64, tt_65, tt_66, tt_67, tt_68, tt_69, tt_70, tt_71, tt_72, tt_73, tt_74, tt_75, tt_76, tt_77, tt_78, tt_80, tt_81, tt_83, tt_84, tt_85, tt_86, tt_87, tt_88, tt_89, tt_91, tt_92, tt_93, tt_94, tt_95, tt_96, tt_97, tt_98, tt_99, tt_100, tt_101, tt_102, tt_103, tt_104, tt_105, tt_106, tt_109, tt_110, tt_111, tt_112, tt_113, tt_114, tt_115, tt_116, tt_117, tt_118, tt_119, tt_120, tt_121, tt_122]
  have h := lmC l
  rw [IntWalk.i64_in (1 + dN l 2) (by omega)]
  exact ⟨by omega, ⟨rfl, rfl, rfl, rfl, rfl, rfl, rfl⟩, rfl⟩
def E_made : List V → Boxes → Toks → Name → Option Ent
  | [.c (.lp n0 0)], [(m0, [.d (.list q_l)])], [], _ => some ⟨n0.lv ≤ 1 ∧ m0 = n0 ∧ q_l = LB (bys q_l), .agg [.d (.int .i64 (lmX (bys q_l)).c), .d (.int .i64 (lmX (bys q_l)).p.n), .d (.int .i64 (lmX (bys q_l)).p.d), .d (.int .i64 (lmX (bys q_l)).p.a), .d (.int .i64 (lmX (bys q_l)).p.p), .d (.int .i64 (lmX (bys q_l)).p.f), .d (.list (LI .i32 (lmX (bys q_l)).l))], [(n0, [.d (.list (LB (lmR (bys q_l))))])], []⟩
  | _, _, _, _ => none
theorem E_made_eq  {q_l : List D} {n0 : Name} {m0 : Name} {nF : Name} : E_made [.c (.lp n0 0)] [(m0, [.d (.list q_l)])] [] nF = some ⟨n0.lv ≤ 1 ∧ m0 = n0 ∧ q_l = LB (bys q_l), .agg [.d (.int .i64 (lmX (bys q_l)).c), .d (.int .i64 (lmX (bys q_l)).p.n), .d (.int .i64 (lmX (bys q_l)).p.d), .d (.int .i64 (lmX (bys q_l)).p.a), .d (.int .i64 (lmX (bys q_l)).p.p), .d (.int .i64 (lmX (bys q_l)).p.f), .d (.list (LI .i32 (lmX (bys q_l)).l))], [(n0, [.d (.list (LB (lmR (bys q_l))))])], []⟩ := Eq.trans rfl rfl
theorem E_made_ok : Snd Try.prog 14 E_made := by
  intro vs b k n e h hn hp
  unfold E_made at h
  split at h
  · cases h; obtain ⟨hl0, rfl, hq0⟩ := hp; obtain ⟨_, rfl⟩ := LB_ex hq0; simp only [ints_LI, bys_LB, blks_LK, lls_LL]; exact Spec.ren1 (spec_made _) 0 (by simp [supOK, V.names, C.names, namesB, namesK]) hl0 
  · cases h

theorem spec_sane  : Spec Try.prog 0 10 [] [] [] (vB true) [] [] := by
  refine spec_of_E (X := ⟨Try.prog, tt, Try.f10.ntmps, 1, fun _ => 0, (tab [(23, E_rsnew), (30, E_convert), (27, E_finish), (19, E_rsvalid), (21, E_waiting)])⟩) (M := [(2, [0, 0, 0, 0, 0, 3686783, 0, 0, 0, 0, 0, 2097535, 0]), (4, [0, 0, 0, 0, 0, 9444732965730700493183, 0, 0, 0, 0, 0, 9444732965464412520831, 0, 0, 0, 0, 0, 9444732948147104383359, 0, 0, 0, 0, 0, 9444730713939476742527, 0, 0, 0, 0, 0, 9444588850551214571903, 0, 0, 0, 0, 0, 9435509593702435651967, 0, 0, 0, 0, 0, 9149585060559937601919, 0, 0, 0, 0])]) (m := 383) rfl rfl ⟨tt_ok, tab_ok (tabs_cons E_rsnew_ok (tabs_cons E_convert_ok (tabs_cons E_finish_ok (tabs_cons E_rsvalid_ok (tabs_cons E_waiting_ok tabs_nil))))) _ rfl rfl⟩ tt_mixed Try.func10 rfl (by decide) (by show (0 : Nat) ≤ _; exact Nat.le_of_ble_eq_true rfl) ⟨fun m hm => (V.bare_has rfl m hm).elim, by simp, by simp⟩ ?_
  simp only [↓gPre, gPost, handV, V.bufs, buildArr, toCs, List.set_cons_succ, List.set_cons_zero, List.foldr_cons, List.foldr_nil, List.append_eq, Nat.reduceShiftRight, Nat.reduceMod, List.mem_cons, addB, addK, zeroOp, callSem, resName, keepsB, newB, V.pure, C.pure, V.ptrs, C.ptrs, C.bufs, appendSem, dstOk, lk, V.cells, Op.eff, partV, partD, cut, lay, zeroD, C.toDs, C.toD, V.toD, toDs, buildCells, List.flatMap_nil, List.flatMap_cons, List.all_nil, List.all_cons, List.map_nil, List.map_cons, List.zip_cons_cons, List.zip_nil_left, List.nil_append, List.append_nil, List.cons_append, List.drop_zero, List.drop_succ_cons, List.take_succ_cons, List.take_zero, List.length_cons, List.length_nil, List.getElem?_cons_succ, List.getElem?_cons_zero, Option.getD_some, Option.getD_none, Option.map_some, Option.map_none, Option.some.injEq, Option.isSome_none, Option.isSome_some, Option.toList_some, Option.toList_none, if_true, if_false, ↓reduceIte, reduceCtorEq, Nat.reduceEqDiff, Nat.reduceLT, Nat.reduceLeDiff, List.not_mem_nil, false_implies, implies_true, true_and, and_true, forall_const, Nat.succ_ne_self, Bool.false_eq_true, Bool.true_and, Bool.and_true, eq_self, ne_eq, not_true_eq_false, not_false_eq_true, or_true, true_or, and_self, imp_self, bne_self_eq_false, beq_self_eq_true, Bool.or_false, Bool.false_or, Bool.and_false, Bool.false_and, false_or, or_false, Nat.reduceAdd, Nat.reduceMul, beq_true, beq_false, Name.mk.injEq, decide_true, decide_false, Bool.or_true, Bool.true_or, Bool.or_self, Bool.not_eq_true', Bool.not_true, Bool.not_false, Bool.true_eq_false, Bool.cond_true_left, Bool.cond_false_right, Nat.zero_add, Int.reduceLE, Int.reduceLT, Int.reduceNeg, Int.reduceAdd, Int.reduceToNat, List.range_succ, List.range_zero, Int.toNat_natCast, List.mem_nil_iff, List.mem_append, E_rsnew_eq, E_convert_eq, E_finish_eq, E_rsvalid_eq, E_waiting_eq, rs_eta, ph_eta, Try.ntmps10, Try.results10, tt_1, tt_2, tt_3, tt_4, tt_5, tt_6, tt_7, tt_8, tt_12, tt_15, tt_16, tt_17, tt_18, tt_19, tt_21, tt_22, tt_23, tt_24, tt_25, tt_26, tt_27, tt_28, tt_29, tt_30, tt_31, tt_32, tt_33, tt_34, tt_35, tt_36, tt_37, tt_38, tt_39, tt_40, tt_41, tt_43, tt_44, tt_45, tt_46, tt_47, tt_48, tt_49, tt_51, tt_52, tt_53, tt_54, tt_55, tt_56, tt_57, tt_58, tt_59, tt_60, tt_62, tt_64, tt_65, tt_66, tt_67, tt_68, tt_69, tt_70, tt_71, tt_72, tt_73, tt_74, tt_75, tt_76, tt_77, tt_78, tt_80, tt_81, tt_83, tt_84, tt_85, tt_86, tt_87, tt_88, tt_89, tt_91, tt_92, tt_93, tt_94, tt_95, tt_96, tt_97, tt_98, tt_99, tt_100, tt_101, tt_102, tt_103, tt_104, tt_105, tt_106, tt_109, tt_110, tt_111, tt_112, tt_113, tt_114, tt_115, tt_116, tt_117, tt_118, tt_119, tt_120, tt_121, tt_122]
  rw [eg_nw.1, eg_nw.2, eg_cv.1, eg_cv.2.1, eg_cv.2.2, eg_fi.1, eg_fi.2, eg_wa.2, eg_wa.1]
  decide
def E_sane : List V → Boxes → Toks → Name → Option Ent
  | [], [], [], _ => some ⟨True, vB true, [], []⟩
  | _, _, _, _ => none
theorem E_sane_eq  {nF : Name} : E_sane [] [] [] nF = some ⟨True, vB true, [], []⟩ := Eq.trans rfl rfl
theorem E_sane_ok : Snd Try.prog 10 E_sane := by
  intro vs b k n e h hn hp
  unfold E_sane at h
  split at h
  · cases h; exact (spec_sane ).lift rfl _
  · cases h

end Go.Vam
