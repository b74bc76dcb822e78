/- The law ResamplePieces gives true. Conditions: none. -/
import Derived.Test.YtebppfjalgenhaaRsmJ
set_option linter.unusedVariables false
set_option linter.unusedSimpArgs false
set_option maxRecDepth 40000
set_option maxHeartbeats 4000000
namespace Go.Vam
open Go.Proofs

theorem cv_tot {x : Rs} {ch : Int} {y : List Int} (hx : okR x ch) (hy : y.length ≤ 1000000) (h : cvE x ch y = 0) : ((cvR x ch y).p.n = x.p.n ∧ (cvR x ch y).p.d = x.p.d) ∧ (cvR x ch y).p.p + (((cvR x ch y).l.length / ch.toNat : Nat) : Int) = x.p.p + (((x.l.length + y.length) / ch.toNat : Nat) : Int) := by
  obtain ⟨h1, h2⟩ := cvE_tk h
  have hl := hx.len
  obtain ⟨f1, f2, f3⟩ := feR_ok h1 (by omega) hy
  obtain ⟨t1, t2, t3⟩ := tkE_po h2
  obtain ⟨p1, p2, p3, p4, p5⟩ := po_ok f2 (by omega) t2
  obtain ⟨⟨k1, k2⟩, k3, k4, k5⟩ := blk_in (rsV_in f2).2 (by omega)
  have e : cvR x ch y = poR (feR x ch y) (cvN x ch y) := by unfold cvR; rw [if_pos h]
  have e2 : poR (feR x ch y) (cvN x ch y) = ⟨(feR x ch y).c, adP (feR x ch y).p (cvN x ch y), (feR x ch y).l.drop (min (feR x ch y).l.length (qN (feR x ch y).p (cvN x ch y).toNat * (feR x ch y).c.toNat))⟩ := by unfold poR; rw [if_pos t2]
  have hc : (feR x ch y).c = ch := by rw [f1]; exact hx.c
  have hp : (feR x ch y).p = x.p := by rw [f1]
  have hfl : (feR x ch y).l = x.l ++ y := by rw [f1]
  have hn : ((cvN x ch y).toNat : Int) = cvN x ch y := by omega
  have hq := q_le_ned (rsV_in f2).1 (n := (cvN x ch y).toNat) (by omega)
  have hq2 := qN_eq (rsV_in f2).1 (g := (cvN x ch y).toNat) (by omega)
  rw [hn] at hq hq2
  have hlen : (poR (feR x ch y) (cvN x ch y)).l.length / ch.toNat = (x.l ++ y).length / ch.toNat - qN x.p (cvN x ch y).toNat := by
    rw [e2]
    show (List.drop _ (feR x ch y).l).length / ch.toNat = _
    rw [hc] at k3 t3
    rw [hp] at hq t3
    rw [hfl] at k3 t3
    rw [hc, hp, hfl, ← gone_min k3, List.length_drop]
    have e3 : min ((x.l ++ y).length / ch.toNat) (qN x.p (cvN x ch y).toNat) = qN x.p (cvN x ch y).toNat := by omega
    rw [e3]
    generalize (x.l ++ y).length / ch.toNat = w at *
    rw [k3, ← Nat.sub_mul, Nat.mul_div_cancel _ (by rw [hc] at k1; omega)]
  rw [e, p4, hlen, hp]
  rw [hp] at hq hq2 t3
  rw [hc, hfl] at t3
  rw [← List.length_append]
  refine ⟨⟨rfl, rfl⟩, ?_⟩
  show x.p.p + qAt x.p (cvN x ch y) + _ = _
  generalize (x.l ++ y).length / ch.toNat = w at *
  omega
theorem mr_tot (l : List UInt8) {ch : Int} (hc : 1 ≤ ch ∧ ch ≤ 8) : ∀ k : Nat, ((mrS l ch k).p.n = baN l ∧ (mrS l ch k).p.d = baD l) ∧ (mrS l ch k).p.p + (((mrS l ch k).l.length / ch.toNat : Nat) : Int) ≤ 11 * k
  | 0 => by
    refine ⟨⟨rfl, rfl⟩, ?_⟩
    show (0 : Int) + (((([] : List Int).length) / ch.toNat : Nat) : Int) ≤ _
    simp
  | k + 1 => by
    obtain ⟨⟨i1, i2⟩, i3⟩ := mr_tot l hc k
    unfold mrS
    split
    · rename_i h
      have hok := mrS_ok l hc k
      have hw := mrW_len l hc ((mrN l : Int) - k) k
      have hd := dN_lt (mrQ l k) 12 (by decide)
      have hd0 := dN_ge (mrQ l k) 12
      obtain ⟨⟨t1, t2⟩, t3⟩ := cv_tot hok (Nat.le_trans hw (by decide)) h
      refine ⟨⟨by rw [t1, i1], by rw [t2, i2]⟩, ?_⟩
      rw [t3, waO_len]
      obtain ⟨_, k3, _⟩ := blk_in (rsV_in hok.v).2 (by have := hok.len; omega)
      rw [hok.c] at k3
      generalize (mrS l ch k).l.length / ch.toNat = w at *
      rw [k3, ← Nat.add_mul, Nat.mul_div_cancel _ (by omega)]
      omega
    · refine ⟨⟨i1, i2⟩, ?_⟩
      omega
/-- A made resampler: few frames have come and wait. -/
theorem lm_few (l : List UInt8) : ∃ W : Nat, (lmX l).l.length = W * (1 + dN l 2).toNat ∧ (lmX l).l.all smpX = true ∧ (lmX l).p.p + W ≤ 22 ∧ 0 ≤ (lmX l).p.p ∧ phV (lmX l).p = true ∧ (lmX l).c = 1 + dN l 2 := by
  have hc := lmC l
  have hok := lmX_ok l
  have hpv := (rsV_in hok.v).1
  obtain ⟨_, h2⟩ := mr_tot (dT l 2) (ch := 1 + dN l 2) (by omega) (mrN (dT l 2))
  have hN : mrN (dT l 2) ≤ 2 := by
    have := dN_lt (dT (baR (dT l 2)) 6) 3 (by decide)
    unfold mrN
    omega
  obtain ⟨_, k3, k4, k5⟩ := blk_in (rsV_in hok.v).2 (by have := hok.len; omega)
  rw [hok.c] at k3
  refine ⟨(lmX l).l.length / (1 + dN l 2).toNat, k3, k5, ?_, (phV_in hpv).2.2.2.1.1, hpv, hok.c⟩
  have h3 : (lmX l).p.p + (((lmX l).l.length / (1 + dN l 2).toNat : Nat) : Int) ≤ 11 * (mrN (dT l 2) : Nat) := h2
  omega


theorem spec_join (c d : Int) (a b : List Int) (hl : a.length + b.length ≤ 1000000) : Spec Try.prog 0 33 [.agg [.d (.int .i64 c), .d (.list (LI .i32 a))], .agg [.d (.int .i64 d), .d (.list (LI .i32 b))]] [] [] (.agg [.d (.int .i64 c), .d (.list (LI .i32 (a ++ b)))]) [] [] := by
  refine spec_of_E (X := ⟨Try.prog, tt, Try.f33.ntmps, 1, fun _ => 0, (tab [])⟩) (M := []) (m := 31) rfl rfl ⟨tt_ok, tab_ok tabs_nil _ rfl rfl⟩ tt_mixed Try.func33 rfl (by decide) (by show (2 : Nat) ≤ _; exact Nat.le_of_ble_eq_true rfl) ⟨fun m hm => (V.bare_has rfl m hm).elim, by simp, by simp⟩ ?_
  simp only [↓gPre, gPost, handV, V.bufs, buildArr, toCs, List.set_cons_succ, List.set_cons_zero, List.foldr_cons, List.foldr_nil, List.append_eq, Nat.reduceShiftRight, Nat.reduceMod, List.mem_cons, addB, addK, zeroOp, callSem, resName, keepsB, newB, V.pure, C.pure, V.ptrs, C.ptrs, C.bufs, appendSem, dstOk, lk, V.cells, Op.eff, partV, partD, cut, lay, zeroD, C.toDs, C.toD, V.toD, toDs, buildCells, List.flatMap_nil, List.flatMap_cons, List.all_nil, List.all_cons, List.map_nil, List.map_cons, List.zip_cons_cons, List.zip_nil_left, List.nil_append, List.append_nil, List.cons_append, List.drop_zero, List.drop_succ_cons, List.take_succ_cons, List.take_zero, List.length_cons, List.length_nil, List.getElem?_cons_succ, List.getElem?_cons_zero, Option.getD_some, Option.getD_none, Option.map_some, Option.map_none, Option.some.injEq, Option.isSome_none, Option.isSome_some, Option.toList_some, Option.toList_none, if_true, if_false, ↓reduceIte, reduceCtorEq, Nat.reduceEqDiff, Nat.reduceLT, Nat.reduceLeDiff, List.not_mem_nil, false_implies, implies_true, true_and, and_true, forall_const, Nat.succ_ne_self, Bool.false_eq_true, Bool.true_and, Bool.and_true, eq_self, ne_eq, not_true_eq_false, not_false_eq_true, or_true, true_or, and_self, imp_self, bne_self_eq_false, beq_self_eq_true, Bool.or_false, Bool.false_or, Bool.and_false, Bool.false_and, false_or, or_false, Nat.reduceAdd, Nat.reduceMul, beq_true, beq_false, Name.mk.injEq, decide_true, decide_false, Bool.or_true, Bool.true_or, Bool.or_self, Bool.not_eq_true', Bool.not_true, Bool.not_false, Bool.true_eq_false, Bool.cond_true_left, Bool.cond_false_right, Nat.zero_add, Int.reduceLE, Int.reduceLT, Int.reduceNeg, Int.reduceAdd, Int.reduceToNat, List.range_succ, List.range_zero, Int.toNat_natCast, List.mem_nil_iff, List.mem_append, rs_eta, ph_eta, Try.ntmps33, Try.results33, tt_1, tt_2, tt_3, tt_4, tt_5, tt_6, tt_7, tt_8, tt_12, tt_15, tt_16, tt_17, tt_18, tt_19, tt_21, tt_22, tt_23, tt_24, tt_25, tt_26, tt_27, tt_28, tt_29, tt_30, tt_31, tt_32, tt_33, tt_34, tt_35, tt_36, tt_37, tt_38, tt_39, tt_40, tt_41, tt_43, tt_44, tt_45, tt_46, tt_47, tt_48, tt_49, tt_51, tt_52, tt_53, tt_54, tt_55, tt_56, tt_57, tt_58, tt_59, tt_60, tt_62, tt_64, tt_65, tt_66, tt_67, tt_68, tt_69, tt_70, tt_71, tt_72, tt_73, tt_74, tt_75, tt_76, tt_77, tt_78, tt_80, tt_81, tt_83, tt_84, tt_85, tt_86, tt_87, tt_88, tt_89, tt_91, tt_92, tt_93, tt_94, tt_95, tt_96, tt_97, tt_98, tt_99, tt_100, tt_101, tt_102, tt_103, tt_104, tt_105, tt_106, tt_109, tt_110, tt_111, tt_112, tt_113, tt_114, tt_115, tt_116, tt_117, tt_118, tt_119, tt_120, tt_121, tt_122]
  exact ⟨by kernel_rfl, by unfold roomOK; omega, by unfold roomOK; omega⟩
def E_join : List V → Boxes → Toks → Name → Option Ent
  | [.agg [.d (.int .i64 c), .d (.list q_a)], .agg [.d (.int .i64 d), .d (.list q_b)]], [], [], _ => some ⟨(ints q_a).length + (ints q_b).length ≤ 1000000 ∧ q_a = LI .i32 (ints q_a) ∧ q_b = LI .i32 (ints q_b), .agg [.d (.int .i64 c), .d (.list (LI .i32 ((ints q_a) ++ (ints q_b))))], [], []⟩
  | _, _, _, _ => none
theorem E_join_eq {c d : Int}  {q_a : List D} {q_b : List D} {nF : Name} : E_join [.agg [.d (.int .i64 c), .d (.list q_a)], .agg [.d (.int .i64 d), .d (.list q_b)]] [] [] nF = some ⟨(ints q_a).length + (ints q_b).length ≤ 1000000 ∧ q_a = LI .i32 (ints q_a) ∧ q_b = LI .i32 (ints q_b), .agg [.d (.int .i64 c), .d (.list (LI .i32 ((ints q_a) ++ (ints q_b))))], [], []⟩ := Eq.trans rfl rfl
theorem E_join_ok : Snd Try.prog 33 E_join := by
  intro vs b k n e h hn hp
  unfold E_join at h
  split at h
  · cases h; obtain ⟨hp0, hq0, hq1⟩ := hp; obtain ⟨_, rfl⟩ := LI_ex hq0; obtain ⟨_, rfl⟩ := LI_ex hq1; simp only [ints_LI, bys_LB, blks_LK, lls_LL] at hp0 ⊢; exact (spec_join _ _ _ _ hp0).lift rfl _
  · cases h

/-- Frames of a block. -/
def cutK (k : Int) (l : List Int) (f t : Nat) : List Int := (l.drop (f * k.toNat)).take ((t - f) * k.toNat)

theorem spec_cut (k : Int) (l : List Int) (f t : Int) (hl : l.length ≤ 1000000) (hk : 1 ≤ k ∧ k ≤ 8) (hf : 0 ≤ f ∧ f ≤ t) (ht : t.toNat * k.toNat ≤ l.length) : Spec Try.prog 0 58 [.agg [.d (.int .i64 k), .d (.list (LI .i32 l))], vI .i64 f, vI .i64 t] [] [] (.agg [.d (.int .i64 k), .d (.list (LI .i32 (cutK k l f.toNat t.toNat)))]) [] [] := by
  refine spec_of_E (X := ⟨Try.prog, tt, Try.f58.ntmps, 1, fun _ => 0, (tab [])⟩) (M := [(1, [0, 0, 0, 0, 0, 4193615, 0, 0, 0, 0, 0, 3949903, 0, 0, 0, 0])]) (m := 79) rfl rfl ⟨tt_ok, tab_ok tabs_nil _ rfl rfl⟩ tt_mixed Try.func58 rfl (by decide) (by show (3 : Nat) ≤ _; exact Nat.le_of_ble_eq_true rfl) ⟨by simp [V.has, C.has], by simp [C.has], by simp⟩ ?_
  simp only [↓gPre, gPost, handV, V.bufs, buildArr, toCs, List.set_cons_succ, List.set_cons_zero, List.foldr_cons, List.foldr_nil, List.append_eq, Nat.reduceShiftRight, Nat.reduceMod, List.mem_cons, addB, addK, zeroOp, callSem, resName, keepsB, newB, V.pure, C.pure, V.ptrs, C.ptrs, C.bufs, appendSem, dstOk, lk, V.cells, Op.eff, partV, partD, cut, lay, zeroD, C.toDs, C.toD, V.toD, toDs, buildCells, List.flatMap_nil, List.flatMap_cons, List.all_nil, List.all_cons, List.map_nil, List.map_cons, List.zip_cons_cons, List.zip_nil_left, List.nil_append, List.append_nil, List.cons_append, List.drop_zero, List.drop_succ_cons, List.take_succ_cons, List.take_zero, List.length_cons, List.length_nil, List.getElem?_cons_succ, List.getElem?_cons_zero, Option.getD_some, Option.getD_none, Option.map_some, Option.map_none, Option.some.injEq, Option.isSome_none, Option.isSome_some, Option.toList_some, Option.toList_none, if_true, if_false, ↓reduceIte, reduceCtorEq, Nat.reduceEqDiff, Nat.reduceLT, Nat.reduceLeDiff, List.not_mem_nil, false_implies, implies_true, true_and, and_true, forall_const, Nat.succ_ne_self, Bool.false_eq_true, Bool.true_and, Bool.and_true, eq_self, ne_eq, not_true_eq_false, not_false_eq_true, or_true, true_or, and_self, imp_self, bne_self_eq_false, beq_self_eq_true, Bool.or_false, Bool.false_or, Bool.and_false, Bool.false_and, false_or, or_false, Nat.reduceAdd, Nat.reduceMul, beq_true, beq_false, Name.mk.injEq, decide_true, decide_false, Bool.or_true, Bool.true_or, Bool.or_self, Bool.not_eq_true', Bool.not_true, Bool.not_false, Bool.true_eq_false, Bool.cond_true_left, Bool.cond_false_right, Nat.zero_add, Int.reduceLE, Int.reduceLT, Int.reduceNeg, Int.reduceAdd, Int.reduceToNat, List.range_succ, List.range_zero, Int.toNat_natCast, List.mem_nil_iff, List.mem_append, rs_eta, ph_eta, Try.ntmps58, Try.results58, tt_1, tt_2, tt_3, tt_4, tt_5, tt_6, tt_7, tt_8, tt_12, tt_15, tt_16, tt_17, tt_18, tt_19, tt_21, tt_22, tt_23, tt_24, tt_25, tt_26, tt_27, tt_28, tt_29, tt_30, tt_31, tt_32, tt_33, tt_34, tt_35, tt_36, tt_37, tt_38, tt_39, tt_40, tt_41, tt_43, tt_44, tt_45, tt_46, tt_47, tt_48, tt_49, tt_51, tt_52, tt_53, tt_54, tt_55, tt_56, tt_57, tt_58, tt_59, tt_60, tt_62, tt_64, tt_65, tt_66, tt_67, tt_68, tt_69, tt_70, tt_71, tt_72, tt_73, tt_74, tt_75, tt_76, tt_77, tt_78, tt_80, tt_81, tt_83, tt_84, tt_85, tt_86, tt_87, tt_88, tt_89, tt_91, tt_92, tt_93, tt_94, tt_95, tt_96, tt_97, tt_98, tt_99, tt_100, tt_101, tt_102, tt_103, tt_104, tt_105, tt_106, tt_109, tt_110, tt_111, tt_112, tt_113, tt_114, tt_115, tt_116, tt_117, tt_118, tt_119, tt_120, tt_121, tt_122]
  have hkm : (k.toNat : Int) = k := by omega
  have hfm : (f.toNat : Int) = f := by omega
  have htm : (t.toNat : Int) = t := by omega
  have hle : f.toNat * k.toNat ≤ t.toNat * k.toNat := Nat.mul_le_mul_right _ (by omega)
  have c1 : f * k = ((f.toNat * k.toNat : Nat) : Int) := by rw [Int.natCast_mul, hkm, hfm]
  have c2 : t * k = ((t.toNat * k.toNat : Nat) : Int) := by rw [Int.natCast_mul, hkm, htm]
  have hsub : (t.toNat - f.toNat) * k.toNat = t.toNat * k.toNat - f.toNat * k.toNat := Nat.sub_mul ..
  refine ⟨by kernel_rfl, ?_⟩
  unfold cutK
  rw [c1, c2, hsub]
  generalize f.toNat * k.toNat = x at *
  generalize t.toNat * k.toNat = y at *
  rw [IntWalk.i64_in (x : Int) (by omega), IntWalk.i64_in (y : Int) (by omega)]
  refine ⟨by omega, ?_, rfl⟩
  have : (List.take ((y : Int).toNat - (x : Int).toNat) (List.drop (x : Int).toNat l)).length ≤ l.length := by rw [List.length_take, List.length_drop]; omega
  unfold roomOK
  omega
def E_cut : List V → Boxes → Toks → Name → Option Ent
  | [.agg [.d (.int .i64 k), .d (.list q_l)], .c (.d (.int .i64 f)), .c (.d (.int .i64 t))], [], [], _ => some ⟨(ints q_l).length ≤ 1000000 ∧ (1 ≤ k ∧ k ≤ 8) ∧ (0 ≤ f ∧ f ≤ t) ∧ t.toNat * k.toNat ≤ (ints q_l).length ∧ q_l = LI .i32 (ints q_l), .agg [.d (.int .i64 k), .d (.list (LI .i32 (cutK k (ints q_l) f.toNat t.toNat)))], [], []⟩
  | _, _, _, _ => none
theorem E_cut_eq {k : Int} {f t : Int}  {q_l : List D} {nF : Name} : E_cut [.agg [.d (.int .i64 k), .d (.list q_l)], .c (.d (.int .i64 f)), .c (.d (.int .i64 t))] [] [] nF = some ⟨(ints q_l).length ≤ 1000000 ∧ (1 ≤ k ∧ k ≤ 8) ∧ (0 ≤ f ∧ f ≤ t) ∧ t.toNat * k.toNat ≤ (ints q_l).length ∧ q_l = LI .i32 (ints q_l), .agg [.d (.int .i64 k), .d (.list (LI .i32 (cutK k (ints q_l) f.toNat t.toNat)))], [], []⟩ := Eq.trans rfl rfl
theorem E_cut_ok : Snd Try.prog 58 E_cut := by
  intro vs b k n e h hn hp
  unfold E_cut at h
  split at h
  · cases h; obtain ⟨hp0, hp1, hp2, hp3, hq0⟩ := hp; obtain ⟨_, rfl⟩ := LI_ex hq0; simp only [ints_LI, bys_LB, blks_LK, lls_LL] at hp0 hp1 hp2 hp3 ⊢; exact (spec_cut _ _ _ _ hp0 hp1 hp2 hp3).lift rfl _
  · cases h

/-- Where a block is cut, and the parts. -/
def cqP (n : Nat) (p : List UInt8) : Nat → Nat
  | 0 => 0
  | i + 1 => if cqP n p i + (p[i]?.getD 0).toNat % 8 ≤ n then cqP n p i + (p[i]?.getD 0).toNat % 8 else cqP n p i
def cqL (k : Int) (l : List Int) (n : Nat) (p : List UInt8) : Nat → List (Int × List Int)
  | 0 => []
  | i + 1 => if cqP n p i + (p[i]?.getD 0).toNat % 8 ≤ n then cqL k l n p i ++ [(k, cutK k l (cqP n p i) (cqP n p i + (p[i]?.getD 0).toNat % 8))] else cqL k l n p i
theorem cqP_le (n : Nat) (p : List UInt8) : ∀ i, cqP n p i ≤ n
  | 0 => Nat.zero_le _
  | i + 1 => by have := cqP_le n p i; unfold cqP; split <;> omega
theorem cqL_len (k : Int) (l : List Int) (n : Nat) (p : List UInt8) : ∀ i, (cqL k l n p i).length ≤ i
  | 0 => Nat.le_refl _
  | i + 1 => by
    have := cqL_len k l n p i
    unfold cqL
    split
    · rw [List.length_append]; simp; omega
    · omega

theorem spec_mcut (k : Int) (l : List Int) (p : List UInt8) (hl : l.length ≤ 1000000) (hb : blkV k l = true) (hp : p.length ≤ 1000) : Spec Try.prog 0 32 [.agg [.d (.int .i64 k), .d (.list (LI .i32 l))], vL (LB p)] [] [] (vL (LK (cqL k l (l.length / k.toNat) p p.length ++ [(k, cutK k l (cqP (l.length / k.toNat) p p.length) (l.length / k.toNat))]))) [] [] := by
  refine spec_of_E (X := ⟨Try.prog, tt, Try.f32.ntmps, 1, fun _ => 0, (tab [(38, E_frames), (58, E_cut)])⟩) (M := []) (m := 67233527) rfl rfl ⟨tt_ok, tab_ok (tabs_cons E_frames_ok (tabs_cons E_cut_ok tabs_nil)) _ rfl rfl⟩ tt_mixed Try.func32 rfl (by decide) (by show (2 : Nat) ≤ _; exact Nat.le_of_ble_eq_true rfl) ⟨by simp [V.has, C.has], by simp [C.has], by simp⟩ ?_
  simp only [↓gPre, gPost, handV, V.bufs, buildArr, toCs, List.set_cons_succ, List.set_cons_zero, List.foldr_cons, List.foldr_nil, List.append_eq, Nat.reduceShiftRight, Nat.reduceMod, List.mem_cons, addB, addK, zeroOp, callSem, resName, keepsB, newB, V.pure, C.pure, V.ptrs, C.ptrs, C.bufs, appendSem, dstOk, lk, V.cells, Op.eff, partV, partD, cut, lay, zeroD, C.toDs, C.toD, V.toD, toDs, buildCells, List.flatMap_nil, List.flatMap_cons, List.all_nil, List.all_cons, List.map_nil, List.map_cons, List.zip_cons_cons, List.zip_nil_left, List.nil_append, List.append_nil, List.cons_append, List.drop_zero, List.drop_succ_cons, List.take_succ_cons, List.take_zero, List.length_cons, List.length_nil, List.getElem?_cons_succ, List.getElem?_cons_zero, Option.getD_some, Option.getD_none, Option.map_some, Option.map_none, Option.some.injEq, Option.isSome_none, Option.isSome_some, Option.toList_some, Option.toList_none, if_true, if_false, ↓reduceIte, reduceCtorEq, Nat.reduceEqDiff, Nat.reduceLT, Nat.reduceLeDiff, List.not_mem_nil, false_implies, implies_true, true_and, and_true, forall_const, Nat.succ_ne_self, Bool.false_eq_true, Bool.true_and, Bool.and_true, eq_self, ne_eq, not_true_eq_false, not_false_eq_true, or_true, true_or, and_self, imp_self, bne_self_eq_false, beq_self_eq_true, Bool.or_false, Bool.false_or, Bool.and_false, Bool.false_and, false_or, or_false, Nat.reduceAdd, Nat.reduceMul, beq_true, beq_false, Name.mk.injEq, decide_true, decide_false, Bool.or_true, Bool.true_or, Bool.or_self, Bool.not_eq_true', Bool.not_true, Bool.not_false, Bool.true_eq_false, Bool.cond_true_left, Bool.cond_false_right, Nat.zero_add, Int.reduceLE, Int.reduceLT, Int.reduceNeg, Int.reduceAdd, Int.reduceToNat, List.range_succ, List.range_zero, Int.toNat_natCast, List.mem_nil_iff, List.mem_append, E_frames_eq, E_cut_eq, rs_eta, ph_eta, Try.ntmps32, Try.results32, tt_1, tt_2, tt_3, tt_4, tt_5, tt_6, tt_7, tt_8, tt_12, tt_15, tt_16, tt_17, tt_18, tt_19, tt_21, tt_22, tt_23, tt_24, tt_25, tt_26, tt_27, tt_28, tt_29, tt_30, tt_31, tt_32, tt_33, tt_34, tt_35, tt_36, tt_37, tt_38, tt_39, tt_40, tt_41, tt_43, tt_44, tt_45, tt_46, tt_47, tt_48, tt_49, tt_51, tt_52, tt_53, tt_54, tt_55, tt_56, tt_57, tt_58, tt_59, tt_60, tt_62, tt_64, tt_65, tt_66, tt_67, tt_68, tt_69, tt_70, tt_71, tt_72, tt_73, tt_74, tt_75, tt_76, tt_77, tt_78, tt_80, tt_81, tt_83, tt_84, tt_85, tt_86, tt_87, tt_88, tt_89, tt_91, tt_92, tt_93, tt_94, tt_95, tt_96, tt_97, tt_98, tt_99, tt_100, tt_101, tt_102, tt_103, tt_104, tt_105, tt_106, tt_109, tt_110, tt_111, tt_112, tt_113, tt_114, tt_115, tt_116, tt_117, tt_118, tt_119, tt_120, tt_121, tt_122]
  obtain ⟨hc, _⟩ := blkV_in hb
  obtain ⟨k1, k2, k3⟩ := chBk_in hc
  refine ⟨hl, ?_⟩
  rw [if_pos hb]
  generalize hn : l.length / k.toNat = n at *
  have hnl : n ≤ l.length := by rw [← hn]; exact Nat.div_le_self ..
  refine ELoop_nilT 5 2 ⟨1, 99⟩ rfl (by simp only [↓gPre, gPost, handV, V.bufs, buildArr, toCs, List.set_cons_succ, List.set_cons_zero, List.foldr_cons, List.foldr_nil, List.append_eq, Nat.reduceShiftRight, Nat.reduceMod, List.mem_cons, addB, addK, zeroOp, callSem, resName, keepsB, newB, V.pure, C.pure, V.ptrs, C.ptrs, C.bufs, appendSem, dstOk, lk, V.cells, Op.eff, partV, partD, cut, lay, zeroD, C.toDs, C.toD, V.toD, toDs, buildCells, List.flatMap_nil, List.flatMap_cons, List.all_nil, List.all_cons, List.map_nil, List.map_cons, List.zip_cons_cons, List.zip_nil_left, List.nil_append, List.append_nil, List.cons_append, List.drop_zero, List.drop_succ_cons, List.take_succ_cons, List.take_zero, List.length_cons, List.length_nil, List.getElem?_cons_succ, List.getElem?_cons_zero, Option.getD_some, Option.getD_none, Option.map_some, Option.map_none, Option.some.injEq, Option.isSome_none, Option.isSome_some, Option.toList_some, Option.toList_none, if_true, if_false, ↓reduceIte, reduceCtorEq, Nat.reduceEqDiff, Nat.reduceLT, Nat.reduceLeDiff, List.not_mem_nil, false_implies, implies_true, true_and, and_true, forall_const, Nat.succ_ne_self, Bool.false_eq_true, Bool.true_and, Bool.and_true, eq_self, ne_eq, not_true_eq_false, not_false_eq_true, or_true, true_or, and_self, imp_self, bne_self_eq_false, beq_self_eq_true, Bool.or_false, Bool.false_or, Bool.and_false, Bool.false_and, false_or, or_false, Nat.reduceAdd, Nat.reduceMul, beq_true, beq_false, Name.mk.injEq, decide_true, decide_false, Bool.or_true, Bool.true_or, Bool.or_self, Bool.not_eq_true', Bool.not_true, Bool.not_false, Bool.true_eq_false, Bool.cond_true_left, Bool.cond_false_right, Nat.zero_add, Int.reduceLE, Int.reduceLT, Int.reduceNeg, Int.reduceAdd, Int.reduceToNat, List.range_succ, List.range_zero, Int.toNat_natCast, List.mem_nil_iff, List.mem_append, E_frames_eq, E_cut_eq, rs_eta, ph_eta, Try.ntmps32, Try.results32, tt_1, tt_2, tt_3, tt_4, tt_5, tt_6, tt_7, tt_8, tt_12, tt_15, tt_16, tt_17, tt_18, tt_19, tt_21, tt_22, tt_23, tt_24, tt_25, tt_26, tt_27, tt_28, tt_29, tt_30, tt_31, tt_32, tt_33, tt_34, tt_35, tt_36, tt_37, tt_38, tt_39, tt_40, tt_41, tt_43, tt_44, tt_45, tt_46, tt_47, tt_48, tt_49, tt_51, tt_52, tt_53, tt_54, tt_55, tt_56, tt_57, tt_58, tt_59, tt_60, tt_62, tt_64, tt_65, tt_66, tt_67, tt_68, tt_69, tt_70, tt_71, tt_72, tt_73, tt_74, tt_75, tt_76, tt_77, tt_78, tt_80, tt_81, tt_83, tt_84, tt_85, tt_86, tt_87, tt_88, tt_89, tt_91, tt_92, tt_93, tt_94, tt_95, tt_96, tt_97, tt_98, tt_99, tt_100, tt_101, tt_102, tt_103, tt_104, tt_105, tt_106, tt_109, tt_110, tt_111, tt_112, tt_113, tt_114, tt_115, tt_116, tt_117, tt_118, tt_119, tt_120, tt_121, tt_122]) (Nat.le_refl _) ?_
  simp only [↓gPre, gPost, handV, V.bufs, buildArr, toCs, List.set_cons_succ, List.set_cons_zero, List.foldr_cons, List.foldr_nil, List.append_eq, Nat.reduceShiftRight, Nat.reduceMod, List.mem_cons, addB, addK, zeroOp, callSem, resName, keepsB, newB, V.pure, C.pure, V.ptrs, C.ptrs, C.bufs, appendSem, dstOk, lk, V.cells, Op.eff, partV, partD, cut, lay, zeroD, C.toDs, C.toD, V.toD, toDs, buildCells, List.flatMap_nil, List.flatMap_cons, List.all_nil, List.all_cons, List.map_nil, List.map_cons, List.zip_cons_cons, List.zip_nil_left, List.nil_append, List.append_nil, List.cons_append, List.drop_zero, List.drop_succ_cons, List.take_succ_cons, List.take_zero, List.length_cons, List.length_nil, List.getElem?_cons_succ, List.getElem?_cons_zero, Option.getD_some, Option.getD_none, Option.map_some, Option.map_none, Option.some.injEq, Option.isSome_none, Option.isSome_some, Option.toList_some, Option.toList_none, if_true, if_false, ↓reduceIte, reduceCtorEq, Nat.reduceEqDiff, Nat.reduceLT, Nat.reduceLeDiff, List.not_mem_nil, false_implies, implies_true, true_and, and_true, forall_const, Nat.succ_ne_self, Bool.false_eq_true, Bool.true_and, Bool.and_true, eq_self, ne_eq, not_true_eq_false, not_false_eq_true, or_true, true_or, and_self, imp_self, bne_self_eq_false, beq_self_eq_true, Bool.or_false, Bool.false_or, Bool.and_false, Bool.false_and, false_or, or_false, Nat.reduceAdd, Nat.reduceMul, beq_true, beq_false, Name.mk.injEq, decide_true, decide_false, Bool.or_true, Bool.true_or, Bool.or_self, Bool.not_eq_true', Bool.not_true, Bool.not_false, Bool.true_eq_false, Bool.cond_true_left, Bool.cond_false_right, Nat.zero_add, Int.reduceLE, Int.reduceLT, Int.reduceNeg, Int.reduceAdd, Int.reduceToNat, List.range_succ, List.range_zero, Int.toNat_natCast, List.mem_nil_iff, List.mem_append, E_frames_eq, E_cut_eq, rs_eta, ph_eta, Try.ntmps32, Try.results32, tt_1, tt_2, tt_3, tt_4, tt_5, tt_6, tt_7, tt_8, tt_12, tt_15, tt_16, tt_17, tt_18, tt_19, tt_21, tt_22, tt_23, tt_24, tt_25, tt_26, tt_27, tt_28, tt_29, tt_30, tt_31, tt_32, tt_33, tt_34, tt_35, tt_36, tt_37, tt_38, tt_39, tt_40, tt_41, tt_43, tt_44, tt_45, tt_46, tt_47, tt_48, tt_49, tt_51, tt_52, tt_53, tt_54, tt_55, tt_56, tt_57, tt_58, tt_59, tt_60, tt_62, tt_64, tt_65, tt_66, tt_67, tt_68, tt_69, tt_70, tt_71, tt_72, tt_73, tt_74, tt_75, tt_76, tt_77, tt_78, tt_80, tt_81, tt_83, tt_84, tt_85, tt_86, tt_87, tt_88, tt_89, tt_91, tt_92, tt_93, tt_94, tt_95, tt_96, tt_97, tt_98, tt_99, tt_100, tt_101, tt_102, tt_103, tt_104, tt_105, tt_106, tt_109, tt_110, tt_111, tt_112, tt_113, tt_114, tt_115, tt_116, tt_117, tt_118, tt_119, tt_120, tt_121, tt_122]
  refine ELoop_keep (fun i => ⟨[(15, vI .i64 (i : Nat)), (6, vI .i64 ((cqP n p i : Nat) : Int)), (5, .c (.own ⟨1, 99⟩ (LK (cqL k l n p i))))], [], [(⟨1, 99⟩, ⟨false, 2, LK (cqL k l n p i)⟩)]⟩) (fun i => i ≤ p.length) (fun i => p.length - i) (· + 1) 0 (Nat.zero_le _) ?_ ?_
  · simp only [↓gPre, gPost, handV, V.bufs, buildArr, toCs, List.set_cons_succ, List.set_cons_zero, List.foldr_cons, List.foldr_nil, List.append_eq, Nat.reduceShiftRight, Nat.reduceMod, List.mem_cons, addB, addK, zeroOp, callSem, resName, keepsB, newB, V.pure, C.pure, V.ptrs, C.ptrs, C.bufs, appendSem, dstOk, lk, V.cells, Op.eff, partV, partD, cut, lay, zeroD, C.toDs, C.toD, V.toD, toDs, buildCells, List.flatMap_nil, List.flatMap_cons, List.all_nil, List.all_cons, List.map_nil, List.map_cons, List.zip_cons_cons, List.zip_nil_left, List.nil_append, List.append_nil, List.cons_append, List.drop_zero, List.drop_succ_cons, List.take_succ_cons, List.take_zero, List.length_cons, List.length_nil, List.getElem?_cons_succ, List.getElem?_cons_zero, Option.getD_some, Option.getD_none, Option.map_some, Option.map_none, Option.some.injEq, Option.isSome_none, Option.isSome_some, Option.toList_some, Option.toList_none, if_true, if_false, ↓reduceIte, reduceCtorEq, Nat.reduceEqDiff, Nat.reduceLT, Nat.reduceLeDiff, List.not_mem_nil, false_implies, implies_true, true_and, and_true, forall_const, Nat.succ_ne_self, Bool.false_eq_true, Bool.true_and, Bool.and_true, eq_self, ne_eq, not_true_eq_false, not_false_eq_true, or_true, true_or, and_self, imp_self, bne_self_eq_false, beq_self_eq_true, Bool.or_false, Bool.false_or, Bool.and_false, Bool.false_and, false_or, or_false, Nat.reduceAdd, Nat.reduceMul, beq_true, beq_false, Name.mk.injEq, decide_true, decide_false, Bool.or_true, Bool.true_or, Bool.or_self, Bool.not_eq_true', Bool.not_true, Bool.not_false, Bool.true_eq_false, Bool.cond_true_left, Bool.cond_false_right, Nat.zero_add, Int.reduceLE, Int.reduceLT, Int.reduceNeg, Int.reduceAdd, Int.reduceToNat, List.range_succ, List.range_zero, Int.toNat_natCast, List.mem_nil_iff, List.mem_append, E_frames_eq, E_cut_eq, rs_eta, ph_eta, Try.ntmps32, Try.results32, tt_1, tt_2, tt_3, tt_4, tt_5, tt_6, tt_7, tt_8, tt_12, tt_15, tt_16, tt_17, tt_18, tt_19, tt_21, tt_22, tt_23, tt_24, tt_25, tt_26, tt_27, tt_28, tt_29, tt_30, tt_31, tt_32, tt_33, tt_34, tt_35, tt_36, tt_37, tt_38, tt_39, tt_40, tt_41, tt_43, tt_44, tt_45, tt_46, tt_47, tt_48, tt_49, tt_51, tt_52, tt_53, tt_54, tt_55, tt_56, tt_57, tt_58, tt_59, tt_60, tt_62, tt_64, tt_65, tt_66, tt_67, tt_68, tt_69, tt_70, tt_71, tt_72, tt_73, tt_74, tt_75, tt_76, tt_77, tt_78, tt_80, tt_81, tt_83, tt_84, tt_85, tt_86, tt_87, tt_88, tt_89, tt_91, tt_92, tt_93, tt_94, tt_95, tt_96, tt_97, tt_98, tt_99, tt_100, tt_101, tt_102, tt_103, tt_104, tt_105, tt_106, tt_109, tt_110, tt_111, tt_112, tt_113, tt_114, tt_115, tt_116, tt_117, tt_118, tt_119, tt_120, tt_121, tt_122]
    exact ⟨⟨rfl, rfl, rfl⟩, rfl⟩
  intro i hi
  simp only [↓gPre, gPost, handV, V.bufs, buildArr, toCs, List.set_cons_succ, List.set_cons_zero, List.foldr_cons, List.foldr_nil, List.append_eq, Nat.reduceShiftRight, Nat.reduceMod, List.mem_cons, addB, addK, zeroOp, callSem, resName, keepsB, newB, V.pure, C.pure, V.ptrs, C.ptrs, C.bufs, appendSem, dstOk, lk, V.cells, Op.eff, partV, partD, cut, lay, zeroD, C.toDs, C.toD, V.toD, toDs, buildCells, List.flatMap_nil, List.flatMap_cons, List.all_nil, List.all_cons, List.map_nil, List.map_cons, List.zip_cons_cons, List.zip_nil_left, List.nil_append, List.append_nil, List.cons_append, List.drop_zero, List.drop_succ_cons, List.take_succ_cons, List.take_zero, List.length_cons, List.length_nil, List.getElem?_cons_succ, List.getElem?_cons_zero, Option.getD_some, Option.getD_none, Option.map_some, Option.map_none, Option.some.injEq, Option.isSome_none, Option.isSome_some, Option.toList_some, Option.toList_none, if_true, if_false, ↓reduceIte, reduceCtorEq, Nat.reduceEqDiff, Nat.reduceLT, Nat.reduceLeDiff, List.not_mem_nil, false_implies, implies_true, true_and, and_true, forall_const, Nat.succ_ne_self, Bool.false_eq_true, Bool.true_and, Bool.and_true, eq_self, ne_eq, not_true_eq_false, not_false_eq_true, or_true, true_or, and_self, imp_self, bne_self_eq_false, beq_self_eq_true, Bool.or_false, Bool.false_or, Bool.and_false, Bool.false_and, false_or, or_false, Nat.reduceAdd, Nat.reduceMul, beq_true, beq_false, Name.mk.injEq, decide_true, decide_false, Bool.or_true, Bool.true_or, Bool.or_self, Bool.not_eq_true', Bool.not_true, Bool.not_false, Bool.true_eq_false, Bool.cond_true_left, Bool.cond_false_right, Nat.zero_add, Int.reduceLE, Int.reduceLT, Int.reduceNeg, Int.reduceAdd, Int.reduceToNat, List.range_succ, List.range_zero, Int.toNat_natCast, List.mem_nil_iff, List.mem_append, E_frames_eq, E_cut_eq, rs_eta, ph_eta, Try.ntmps32, Try.results32, tt_1, tt_2, tt_3, tt_4, tt_5, tt_6, tt_7, tt_8, tt_12, tt_15, tt_16, tt_17, tt_18, tt_19, tt_21, tt_22, tt_23, tt_24, tt_25, tt_26, tt_27, tt_28, tt_29, tt_30, tt_31, tt_32, tt_33, tt_34, tt_35, tt_36, tt_37, tt_38, tt_39, tt_40, tt_41, tt_43, tt_44, tt_45, tt_46, tt_47, tt_48, tt_49, tt_51, tt_52, tt_53, tt_54, tt_55, tt_56, tt_57, tt_58, tt_59, tt_60, tt_62, tt_64, tt_65, tt_66, tt_67, tt_68, tt_69, tt_70, tt_71, tt_72, tt_73, tt_74, tt_75, tt_76, tt_77, tt_78, tt_80, tt_81, tt_83, tt_84, tt_85, tt_86, tt_87, tt_88, tt_89, tt_91, tt_92, tt_93, tt_94, tt_95, tt_96, tt_97, tt_98, tt_99, tt_100, tt_101, tt_102, tt_103, tt_104, tt_105, tt_106, tt_109, tt_110, tt_111, tt_112, tt_113, tt_114, tt_115, tt_116, tt_117, tt_118, tt_119, tt_120, tt_121, tt_122]
  have hb8 : (IntKind.i64.wrap (((p[i]?.getD 0).toNat : Nat) : Int)).tmod 8 = (((p[i]?.getD 0).toNat % 8 : Nat) : Int) := by
    have := (p[i]?.getD 0).toNat_lt
    rw [IntWalk.i64_in _ (by omega), Int.tmod_eq_emod_of_nonneg (by omega)]
    omega
  have hb7 : (p[i]?.getD 0).toNat % 8 < 8 := Nat.mod_lt _ (by decide)
  have hq := cqP_le n p i
  have hql := cqL_len k l n p i
  have hP : cqP n p (i + 1) = if cqP n p i + (p[i]?.getD 0).toNat % 8 ≤ n then cqP n p i + (p[i]?.getD 0).toNat % 8 else cqP n p i := rfl
  have hL : cqL k l n p (i + 1) = if cqP n p i + (p[i]?.getD 0).toNat % 8 ≤ n then cqL k l n p i ++ [(k, cutK k l (cqP n p i) (cqP n p i + (p[i]?.getD 0).toNat % 8))] else cqL k l n p i := rfl
  rw [hb8]
  generalize (p[i]?.getD 0).toNat % 8 = b at *
  rw [IntWalk.i64_in (((cqP n p i : Nat) : Int) + (b : Int)) (by omega)]
  have en : ((cqP n p i : Nat) : Int) + (b : Int) = ((cqP n p i + b : Nat) : Int) := by omega
  rw [en, Int.toNat_natCast]
  refine ⟨fun h1 => ⟨by have := of_decide_eq_true h1; omega, by decide, fun h2 => ?_, fun h2 => ?_⟩, fun h1 => ?_⟩
  · have h3 : cqP n p i + b ≤ n := by have := of_decide_eq_true h2; omega
    have h4 := of_decide_eq_true h1
    rw [hP, hL, if_pos h3, if_pos h3]
    refine ⟨⟨hl, ⟨k1, k2⟩, by omega, ?_⟩, by unfold roomOK; omega, ⟨⟨(wrapN _ (by omega)).symm, rfl, rfl⟩, rfl⟩, by omega, by omega⟩
    rw [k3]
    exact Nat.mul_le_mul_right _ h3
  · have h3 : ¬ (cqP n p i + b ≤ n) := by have := of_decide_eq_false h2; omega
    have h4 := of_decide_eq_true h1
    rw [hP, hL, if_neg h3, if_neg h3]
    exact ⟨⟨⟨(wrapN _ (by omega)).symm, rfl, rfl⟩, rfl⟩, by omega, by omega⟩
  · have h4 := of_decide_eq_false h1
    have hi2 : p.length = i := by omega
    rw [hi2]
    exact ⟨⟨hl, ⟨k1, k2⟩, by omega, by omega⟩, by unfold roomOK; omega, rfl⟩
def E_mcut : List V → Boxes → Toks → Name → Option Ent
  | [.agg [.d (.int .i64 k), .d (.list q_l)], .c (.d (.list q_p))], [], [], _ => some ⟨(ints q_l).length ≤ 1000000 ∧ blkV k (ints q_l) = true ∧ (bys q_p).length ≤ 1000 ∧ q_l = LI .i32 (ints q_l) ∧ q_p = LB (bys q_p), vL (LK (cqL k (ints q_l) ((ints q_l).length / k.toNat) (bys q_p) (bys q_p).length ++ [(k, cutK k (ints q_l) (cqP ((ints q_l).length / k.toNat) (bys q_p) (bys q_p).length) ((ints q_l).length / k.toNat))])), [], []⟩
  | _, _, _, _ => none
theorem E_mcut_eq {k : Int}  {q_l : List D} {q_p : List D} {nF : Name} : E_mcut [.agg [.d (.int .i64 k), .d (.list q_l)], .c (.d (.list q_p))] [] [] nF = some ⟨(ints q_l).length ≤ 1000000 ∧ blkV k (ints q_l) = true ∧ (bys q_p).length ≤ 1000 ∧ q_l = LI .i32 (ints q_l) ∧ q_p = LB (bys q_p), vL (LK (cqL k (ints q_l) ((ints q_l).length / k.toNat) (bys q_p) (bys q_p).length ++ [(k, cutK k (ints q_l) (cqP ((ints q_l).length / k.toNat) (bys q_p) (bys q_p).length) ((ints q_l).length / k.toNat))])), [], []⟩ := Eq.trans rfl rfl
theorem E_mcut_ok : Snd Try.prog 32 E_mcut := by
  intro vs b k n e h hn hp
  unfold E_mcut at h
  split at h
  · cases h; obtain ⟨hp0, hp1, hp2, hq0, hq1⟩ := hp; obtain ⟨_, rfl⟩ := LI_ex hq0; obtain ⟨_, rfl⟩ := LB_ex hq1; simp only [ints_LI, bys_LB, blks_LK, lls_LL] at hp0 hp1 hp2 ⊢; exact (spec_mcut _ _ _ hp0 hp1 hp2).lift rfl _
  · cases h

/-- Parts in a row, from one frame to another. -/
def chain (k : Int) (l : List Int) (n : Nat) : Nat → List (Int × List Int) → Prop
  | q, [] => q = n
  | q, x :: xs => ∃ m, q ≤ m ∧ m ≤ n ∧ x = (k, cutK k l q m) ∧ chain k l n m xs
theorem chain_snoc {k : Int} {l : List Int} {n m : Nat} (h : m ≤ n) : ∀ {xs : List (Int × List Int)} {q : Nat}, chain k l m q xs → chain k l n q (xs ++ [(k, cutK k l m n)])
  | [], q, e => ⟨n, by cases e; exact h, Nat.le_refl _, by cases e; rfl, rfl⟩
  | x :: xs, q, ⟨m', h1, h2, h3, h4⟩ => ⟨m', h1, by omega, h3, chain_snoc h h4⟩
theorem cqP_mono (n : Nat) (p : List UInt8) (i : Nat) : cqP n p i ≤ cqP n p (i + 1) := by
  have e : cqP n p (i + 1) = if cqP n p i + (p[i]?.getD 0).toNat % 8 ≤ n then cqP n p i + (p[i]?.getD 0).toNat % 8 else cqP n p i := rfl
  rw [e]
  split
  · exact Nat.le_add_right _ _
  · exact Nat.le_refl _
theorem chain_cq (k : Int) (l : List Int) (n : Nat) (p : List UInt8) : ∀ i, chain k l (cqP n p i) 0 (cqL k l n p i)
  | 0 => rfl
  | i + 1 => by
    have ih := chain_cq k l n p i
    show chain k l (if _ then _ else _) 0 (if _ then _ else _)
    split
    · exact chain_snoc (Nat.le_add_right _ _) ih
    · exact ih
theorem chain_parts (k : Int) (l : List Int) (n : Nat) (p : List UInt8) (i : Nat) : chain k l n 0 (cqL k l n p i ++ [(k, cutK k l (cqP n p i) n)]) :=
  chain_snoc (cqP_le n p i) (chain_cq k l n p i)
theorem cutK_len {k : Int} {l : List Int} {f t : Nat} (h : t * k.toNat ≤ l.length) : (cutK k l f t).length = (t - f) * k.toNat := by
  unfold cutK
  rw [List.length_take, List.length_drop, Nat.sub_mul]
  omega
theorem cutK_get {k : Int} {l : List Int} {f t j : Nat} (hj : j < (t - f) * k.toNat) : (cutK k l f t)[j]? = l[f * k.toNat + j]? := by
  unfold cutK
  rw [List.getElem?_take_of_lt hj, List.getElem?_drop]


theorem blkV_cut {k : Int} {s : List Int} {q m : Nat} (hb : blkV k s = true) (hq : q ≤ m) (hm : m * k.toNat ≤ s.length) (hl : s.length ≤ 65536) : blkV k (cutK k s q m) = true := by
  obtain ⟨hc, ha⟩ := blkV_in hb
  obtain ⟨k1, k2, k3⟩ := chBk_in hc
  have hlen := cutK_len (f := q) hm
  have hle : (cutK k s q m).length ≤ s.length := by unfold cutK; rw [List.length_take, List.length_drop]; omega
  unfold blkV
  have hch : chBk k (cutK k s q m).length = false := by
    rw [hlen] at hle ⊢
    unfold chBk
    have e : (((m - q) * k.toNat : Nat) : Int) = ((m - q : Nat) : Int) * k := by
      rw [Int.natCast_mul]; congr 1; omega
    have hdl : m - q ≤ (m - q) * k.toNat := Nat.le_mul_of_pos_right _ (by omega)
    rw [e, Int.mul_tmod_left, Int.mul_tdiv_cancel _ (by omega), IntWalk.i64_in _ (by omega)]
    simp only [Bool.or_eq_false_iff, decide_eq_false_iff_not, bne_self_eq_false, and_true]
    omega
  rw [hch]
  simp only [Bool.not_false, Bool.true_and, List.all_eq_true]
  intro x hx
  exact List.all_eq_true.1 ha x (List.mem_of_mem_drop (List.mem_of_mem_take hx))

theorem spec_pieces (s p : List UInt8) (w : Int) (hw : 0 ≤ w ∧ w ≤ 255) : Spec Try.prog 0 5 [vL (LB s), vL (LB p), vI .u8 w] [] [] (vB true) [] [] := by
  refine spec_of_E (X := ⟨Try.prog, tt, Try.f5.ntmps, 1, fun _ => 0, (tab [(10, E_sane), (13, E_new), (14, E_made), (15, E_wave), (30, E_convert), (32, E_mcut), (33, E_join), (18, E_rssame), (29, E_same)])⟩) (M := [(5, [0, 0, 0, 0, 0, 4726689939610628767687, 0, 0, 0, 0, 0, 4726689939547278000071, 0, 0, 0]), (8, [0, 0, 0, 0, 0, 4726697890729770336199, 0, 0, 0, 0, 0, 0]), (13, [0, 0, 0, 0, 0, 6811172019390857592775, 0, 0, 0, 0, 0, 0]), (18, [0, 0, 0, 0, 0, 1229482285238016932354441159, 0, 0, 0, 0, 0, 618974746332629199127822279, 0])]) (m := 4726689939061678260167) rfl rfl ⟨tt_ok, tab_ok (tabs_cons E_sane_ok (tabs_cons E_new_ok (tabs_cons E_made_ok (tabs_cons E_wave_ok (tabs_cons E_convert_ok (tabs_cons E_mcut_ok (tabs_cons E_join_ok (tabs_cons E_rssame_ok (tabs_cons E_same_ok tabs_nil))))))))) _ rfl rfl⟩ tt_mixed Try.func5 rfl (by decide) (by show (3 : Nat) ≤ _; exact Nat.le_of_ble_eq_true rfl) ⟨fun m hm => (V.bare_has rfl m hm).elim, by simp, by simp⟩ ?_
  simp only [↓gPre, gPost, handV, V.bufs, buildArr, toCs, List.set_cons_succ, List.set_cons_zero, List.foldr_cons, List.foldr_nil, List.append_eq, Nat.reduceShiftRight, Nat.reduceMod, List.mem_cons, addB, addK, zeroOp, callSem, resName, keepsB, newB, V.pure, C.pure, V.ptrs, C.ptrs, C.bufs, appendSem, dstOk, lk, V.cells, Op.eff, partV, partD, cut, lay, zeroD, C.toDs, C.toD, V.toD, toDs, buildCells, List.flatMap_nil, List.flatMap_cons, List.all_nil, List.all_cons, List.map_nil, List.map_cons, List.zip_cons_cons, List.zip_nil_left, List.nil_append, List.append_nil, List.cons_append, List.drop_zero, List.drop_succ_cons, List.take_succ_cons, List.take_zero, List.length_cons, List.length_nil, List.getElem?_cons_succ, List.getElem?_cons_zero, Option.getD_some, Option.getD_none, Option.map_some, Option.map_none, Option.some.injEq, Option.isSome_none, Option.isSome_some, Option.toList_some, Option.toList_none, if_true, if_false, ↓reduceIte, reduceCtorEq, Nat.reduceEqDiff, Nat.reduceLT, Nat.reduceLeDiff, List.not_mem_nil, false_implies, implies_true, true_and, and_true, forall_const, Nat.succ_ne_self, Bool.false_eq_true, Bool.true_and, Bool.and_true, eq_self, ne_eq, not_true_eq_false, not_false_eq_true, or_true, true_or, and_self, imp_self, bne_self_eq_false, beq_self_eq_true, Bool.or_false, Bool.false_or, Bool.and_false, Bool.false_and, false_or, or_false, Nat.reduceAdd, Nat.reduceMul, beq_true, beq_false, Name.mk.injEq, decide_true, decide_false, Bool.or_true, Bool.true_or, Bool.or_self, Bool.not_eq_true', Bool.not_true, Bool.not_false, Bool.true_eq_false, Bool.cond_true_left, Bool.cond_false_right, Nat.zero_add, Int.reduceLE, Int.reduceLT, Int.reduceNeg, Int.reduceAdd, Int.reduceToNat, List.range_succ, List.range_zero, Int.toNat_natCast, List.mem_nil_iff, List.mem_append, E_sane_eq, E_new_eq, E_made_eq, E_wave_eq, E_convert_eq, E_mcut_eq, E_join_eq, E_rssame_eq, E_same_eq, rs_eta, ph_eta, Try.ntmps5, Try.results5, tt_1, tt_2, tt_3, tt_4, tt_5, tt_6, tt_7, tt_8, tt_12, tt_15, tt_16, tt_17, tt_18, tt_19, tt_21, tt_22, tt_23, tt_24, tt_25, tt_26, tt_27, tt_28, tt_29, tt_30, tt_31, tt_32, tt_33, tt_34, tt_35, tt_36, tt_37, tt_38, tt_39, tt_40, tt_41, tt_43, tt_44, tt_45, tt_46, tt_47, tt_48, tt_49, tt_51, tt_52, tt_53, tt_54, tt_55, tt_56, tt_57, tt_58, tt_59, tt_60, tt_62, tt_64, tt_65, tt_66, tt_67, tt_68, tt_69, tt_70, tt_71, tt_72, tt_73, tt_74, tt_75, tt_76, tt_77, tt_78, tt_80, tt_81, tt_83, tt_84, tt_85, tt_86, tt_87, tt_88, tt_89, tt_91, tt_92, tt_93, tt_94, tt_95, tt_96, tt_97, tt_98, tt_99, tt_100, tt_101, tt_102, tt_103, tt_104, tt_105, tt_106, tt_109, tt_110, tt_111, tt_112, tt_113, tt_114, tt_115, tt_116, tt_117, tt_118, tt_119, tt_120, tt_121, tt_122]
  intro h0
  obtain ⟨W, hWl, hWa, hWp, hp0, hpv, hXc⟩ := lm_few (List.take 300 s)
  have hok := (lmX_ok (List.take 300 s)).len
  have hcc := lmC (List.take 300 s)
  generalize lmX (List.take 300 s) = X at *
  generalize 1 + dN (List.take 300 s) 2 = c at *
  obtain ⟨c', P, S0⟩ := X
  simp only at hWl hWa hWp hp0 hpv hXc hok h0
  subst hXc
  simp only
  have hpi := phV_in hpv
  have hg : p.length ≤ 10 ∧ P.d ≤ 50 * P.n := by
    simp only [Bool.or_eq_false_iff, decide_eq_false_iff_not] at h0
    rw [IntWalk.i64_in (50 * P.n) (by omega)] at h0
    omega
  have ht1 : 0 ≤ w.tmod 40 ∧ w.tmod 40 < 40 := by rw [Int.tmod_eq_emod_of_nonneg hw.1]; omega
  rw [IntWalk.i64_in (w.tmod 40) (by omega)]
  generalize hF : (w.tmod 40).toNat = F at *
  have hF40 : F ≤ 39 := by omega
  have hBl := waO_len 3 c' 0 F
  have hBa := waO_all 3 c' 0 F
  have hBb : blkV c' (waO 3 c' 0 F) = true := waO_blk 3 0 (by omega) (by omega)
  generalize waO 3 c' 0 F = B at *
  have hBd : B.length / c'.toNat = F := by rw [hBl, Nat.mul_div_cancel _ (by omega)]
  rw [hBd]
  have hBle : B.length ≤ 100 := by
    have := Nat.mul_le_mul hF40 (show c'.toNat ≤ 2 by omega)
    omega
  refine ⟨by decide, ⟨⟨by omega, by omega⟩, by omega, by omega⟩, ⟨by omega, by omega⟩, ⟨by omega, hBb, by omega⟩, ?_⟩
  have hch := chain_parts c' B F p p.length
  have hpl : 1 ≤ (cqL c' B F p p.length ++ [(c', cutK c' B (cqP F p p.length) F)]).length ∧ (cqL c' B F p p.length ++ [(c', cutK c' B (cqP F p p.length) F)]).length ≤ 11 := by
    have := cqL_len c' B F p p.length
    rw [List.length_append, List.length_singleton]
    omega
  generalize cqL c' B F p p.length ++ [(c', cutK c' B (cqP F p p.length) F)] = L at *
  have hst := stR_zero hpv c' S0
  have hfew : ∀ q : Nat, q ≤ F → mkN P ((W + q : Nat) : Int) < 65536 := fun q hq => mk_few hpv (by omega) (by omega)
  have hwhole := cv_step hpv (c := c') (s := S0) (y := B) (W := W) (V := F) (N := 0) (by omega) hWl hWa hBl hBa (by omega) (by decide) (by rw [ned_zero]; exact Int.natCast_nonneg _) (by omega) (hfew F (Nat.le_refl _))
  obtain ⟨w1, w2, w3, w4⟩ := hwhole
  rw [stR_zero hpv] at w1 w2 w3 w4
  have w4' : cvO ⟨c', P, S0⟩ c' B = ooL P c' (S0 ++ B) (mkN P ((W + F : Nat) : Int)) := w4
  rw [w1, w2, w3, w4']
  have htk : ∀ q m : Nat, q ≤ m → (S0 ++ B.take (q * c'.toNat)) ++ cutK c' B q m = S0 ++ B.take (m * c'.toNat) := fun q m hqm => by
    rw [List.append_assoc]
    congr 1
    unfold cutK
    have e : m * c'.toNat = q * c'.toNat + (m - q) * c'.toNat := by rw [← Nat.add_mul]; congr 1; omega
    rw [e, ← List.take_add]
  refine ELoop_keep (fun g : Nat × Nat × Nat => ⟨[(60, vI .i64 (g.1 : Nat))], [(⟨1, 8⟩, [.d (.int .i64 (stR P c' (S0 ++ B.take (g.2.1 * c'.toNat)) g.2.2).c), .d (.int .i64 (stR P c' (S0 ++ B.take (g.2.1 * c'.toNat)) g.2.2).p.n), .d (.int .i64 (stR P c' (S0 ++ B.take (g.2.1 * c'.toNat)) g.2.2).p.d), .d (.int .i64 (stR P c' (S0 ++ B.take (g.2.1 * c'.toNat)) g.2.2).p.a), .d (.int .i64 (stR P c' (S0 ++ B.take (g.2.1 * c'.toNat)) g.2.2).p.p), .d (.int .i64 (stR P c' (S0 ++ B.take (g.2.1 * c'.toNat)) g.2.2).p.f), .d (.list (LI .i32 (stR P c' (S0 ++ B.take (g.2.1 * c'.toNat)) g.2.2).l))]), (⟨1, 13⟩, [.d (.int .i64 c'), .d (.list (LI .i32 (ooL P c' (S0 ++ B.take (g.2.1 * c'.toNat)) g.2.2)))])], []⟩) (fun g => g.1 ≤ L.length ∧ g.2.1 ≤ F ∧ chain c' B F g.2.1 (L.drop g.1) ∧ g.2.2 ≤ 65536 ∧ ned P g.2.2 ≤ ((W + g.2.1 : Nat) : Int) ∧ (0 < g.1 → g.2.2 = mkN P ((W + g.2.1 : Nat) : Int))) (fun g => L.length - g.1) (fun g => (g.1 + 1, g.2.1 + (L[g.1]?.getD (0, [])).2.length / c'.toNat, mkN P ((W + (g.2.1 + (L[g.1]?.getD (0, [])).2.length / c'.toNat) : Nat) : Int))) (0, 0, 0) ⟨Nat.zero_le _, Nat.zero_le _, hch, Nat.zero_le _, by rw [ned_zero]; exact Int.natCast_nonneg _, fun h => absurd h (Nat.lt_irrefl _)⟩ ?_ ?_
  · simp only [↓gPre, gPost, handV, V.bufs, buildArr, toCs, List.set_cons_succ, List.set_cons_zero, List.foldr_cons, List.foldr_nil, List.append_eq, Nat.reduceShiftRight, Nat.reduceMod, List.mem_cons, addB, addK, zeroOp, callSem, resName, keepsB, newB, V.pure, C.pure, V.ptrs, C.ptrs, C.bufs, appendSem, dstOk, lk, V.cells, Op.eff, partV, partD, cut, lay, zeroD, C.toDs, C.toD, V.toD, toDs, buildCells, List.flatMap_nil, List.flatMap_cons, List.all_nil, List.all_cons, List.map_nil, List.map_cons, List.zip_cons_cons, List.zip_nil_left, List.nil_append, List.append_nil, List.cons_append, List.drop_zero, List.drop_succ_cons, List.take_succ_cons, List.take_zero, List.length_cons, List.length_nil, List.getElem?_cons_succ, List.getElem?_cons_zero, Option.getD_some, Option.getD_none, Option.map_some, Option.map_none, Option.some.injEq, Option.isSome_none, Option.isSome_some, Option.toList_some, Option.toList_none, if_true, if_false, ↓reduceIte, reduceCtorEq, Nat.reduceEqDiff, Nat.reduceLT, Nat.reduceLeDiff, List.not_mem_nil, false_implies, implies_true, true_and, and_true, forall_const, Nat.succ_ne_self, Bool.false_eq_true, Bool.true_and, Bool.and_true, eq_self, ne_eq, not_true_eq_false, not_false_eq_true, or_true, true_or, and_self, imp_self, bne_self_eq_false, beq_self_eq_true, Bool.or_false, Bool.false_or, Bool.and_false, Bool.false_and, false_or, or_false, Nat.reduceAdd, Nat.reduceMul, beq_true, beq_false, Name.mk.injEq, decide_true, decide_false, Bool.or_true, Bool.true_or, Bool.or_self, Bool.not_eq_true', Bool.not_true, Bool.not_false, Bool.true_eq_false, Bool.cond_true_left, Bool.cond_false_right, Nat.zero_add, Int.reduceLE, Int.reduceLT, Int.reduceNeg, Int.reduceAdd, Int.reduceToNat, List.range_succ, List.range_zero, Int.toNat_natCast, List.mem_nil_iff, List.mem_append, E_sane_eq, E_new_eq, E_made_eq, E_wave_eq, E_convert_eq, E_mcut_eq, E_join_eq, E_rssame_eq, E_same_eq, rs_eta, ph_eta, Try.ntmps5, Try.results5, tt_1, tt_2, tt_3, tt_4, tt_5, tt_6, tt_7, tt_8, tt_12, tt_15, tt_16, tt_17, tt_18, tt_19, tt_21, tt_22, tt_23, tt_24, tt_25, tt_26, tt_27, tt_28, tt_29, tt_30, tt_31, tt_32, tt_33, tt_34, tt_35, tt_36, tt_37, tt_38, tt_39, tt_40, tt_41, tt_43, tt_44, tt_45, tt_46, tt_47, tt_48, tt_49, tt_51, tt_52, tt_53, tt_54, tt_55, tt_56, tt_57, tt_58, tt_59, tt_60, tt_62, tt_64, tt_65, tt_66, tt_67, tt_68, tt_69, tt_70, tt_71, tt_72, tt_73, tt_74, tt_75, tt_76, tt_77, tt_78, tt_80, tt_81, tt_83, tt_84, tt_85, tt_86, tt_87, tt_88, tt_89, tt_91, tt_92, tt_93, tt_94, tt_95, tt_96, tt_97, tt_98, tt_99, tt_100, tt_101, tt_102, tt_103, tt_104, tt_105, tt_106, tt_109, tt_110, tt_111, tt_112, tt_113, tt_114, tt_115, tt_116, tt_117, tt_118, tt_119, tt_120, tt_121, tt_122]
    rw [Nat.zero_mul, List.take_zero, List.append_nil, hst]
    exact ⟨rfl, ⟨rfl, rfl, rfl, rfl, rfl, rfl, rfl⟩, rfl⟩
  rintro ⟨i, q, N⟩ ⟨hi, hq, hc, hN6, hN, hNm⟩
  simp only [↓gPre, gPost, handV, V.bufs, buildArr, toCs, List.set_cons_succ, List.set_cons_zero, List.foldr_cons, List.foldr_nil, List.append_eq, Nat.reduceShiftRight, Nat.reduceMod, List.mem_cons, addB, addK, zeroOp, callSem, resName, keepsB, newB, V.pure, C.pure, V.ptrs, C.ptrs, C.bufs, appendSem, dstOk, lk, V.cells, Op.eff, partV, partD, cut, lay, zeroD, C.toDs, C.toD, V.toD, toDs, buildCells, List.flatMap_nil, List.flatMap_cons, List.all_nil, List.all_cons, List.map_nil, List.map_cons, List.zip_cons_cons, List.zip_nil_left, List.nil_append, List.append_nil, List.cons_append, List.drop_zero, List.drop_succ_cons, List.take_succ_cons, List.take_zero, List.length_cons, List.length_nil, List.getElem?_cons_succ, List.getElem?_cons_zero, Option.getD_some, Option.getD_none, Option.map_some, Option.map_none, Option.some.injEq, Option.isSome_none, Option.isSome_some, Option.toList_some, Option.toList_none, if_true, if_false, ↓reduceIte, reduceCtorEq, Nat.reduceEqDiff, Nat.reduceLT, Nat.reduceLeDiff, List.not_mem_nil, false_implies, implies_true, true_and, and_true, forall_const, Nat.succ_ne_self, Bool.false_eq_true, Bool.true_and, Bool.and_true, eq_self, ne_eq, not_true_eq_false, not_false_eq_true, or_true, true_or, and_self, imp_self, bne_self_eq_false, beq_self_eq_true, Bool.or_false, Bool.false_or, Bool.and_false, Bool.false_and, false_or, or_false, Nat.reduceAdd, Nat.reduceMul, beq_true, beq_false, Name.mk.injEq, decide_true, decide_false, Bool.or_true, Bool.true_or, Bool.or_self, Bool.not_eq_true', Bool.not_true, Bool.not_false, Bool.true_eq_false, Bool.cond_true_left, Bool.cond_false_right, Nat.zero_add, Int.reduceLE, Int.reduceLT, Int.reduceNeg, Int.reduceAdd, Int.reduceToNat, List.range_succ, List.range_zero, Int.toNat_natCast, List.mem_nil_iff, List.mem_append, E_sane_eq, E_new_eq, E_made_eq, E_wave_eq, E_convert_eq, E_mcut_eq, E_join_eq, E_rssame_eq, E_same_eq, rs_eta, ph_eta, Try.ntmps5, Try.results5, tt_1, tt_2, tt_3, tt_4, tt_5, tt_6, tt_7, tt_8, tt_12, tt_15, tt_16, tt_17, tt_18, tt_19, tt_21, tt_22, tt_23, tt_24, tt_25, tt_26, tt_27, tt_28, tt_29, tt_30, tt_31, tt_32, tt_33, tt_34, tt_35, tt_36, tt_37, tt_38, tt_39, tt_40, tt_41, tt_43, tt_44, tt_45, tt_46, tt_47, tt_48, tt_49, tt_51, tt_52, tt_53, tt_54, tt_55, tt_56, tt_57, tt_58, tt_59, tt_60, tt_62, tt_64, tt_65, tt_66, tt_67, tt_68, tt_69, tt_70, tt_71, tt_72, tt_73, tt_74, tt_75, tt_76, tt_77, tt_78, tt_80, tt_81, tt_83, tt_84, tt_85, tt_86, tt_87, tt_88, tt_89, tt_91, tt_92, tt_93, tt_94, tt_95, tt_96, tt_97, tt_98, tt_99, tt_100, tt_101, tt_102, tt_103, tt_104, tt_105, tt_106, tt_109, tt_110, tt_111, tt_112, tt_113, tt_114, tt_115, tt_116, tt_117, tt_118, tt_119, tt_120, tt_121, tt_122]
  replace hi : i ≤ L.length := hi
  replace hq : q ≤ F := hq
  replace hN6 : N ≤ 65536 := hN6
  replace hN : ned P N ≤ ((W + q : Nat) : Int) := hN
  replace hNm : 0 < i → N = mkN P ((W + q : Nat) : Int) := hNm
  replace hc : chain c' B F q (L.drop i) := hc
  have hsl : ∀ m : Nat, m ≤ F → (S0 ++ B.take (m * c'.toNat)).length = (W + m) * c'.toNat := fun m hm => by
    have := Nat.mul_le_mul_right c'.toNat hm
    rw [List.length_append, hWl, List.length_take, Nat.add_mul]; omega
  have hsa : ∀ m : Nat, (S0 ++ B.take (m * c'.toNat)).all smpX = true := fun m => by
    rw [List.all_append, hWa, Bool.true_and, List.all_eq_true]
    intro x hx
    exact List.all_eq_true.1 hBa x (List.mem_of_mem_take hx)
  have hWq : (W + q) * c'.toNat ≤ 61 * 2 := Nat.mul_le_mul (by omega) (by omega)
  refine ⟨fun h1 => ?_, fun h1 => ?_⟩
  · have hlt : i < L.length := by have := of_decide_eq_true h1; omega
    rw [List.drop_eq_getElem_cons hlt] at hc
    obtain ⟨m, m1, m2, m3, m4⟩ := hc
    have hgx : L[i]?.getD (0, []) = (c', cutK c' B q m) := by rw [List.getElem?_eq_getElem hlt]; exact m3
    have hmB : m * c'.toNat ≤ B.length := by rw [hBl]; exact Nat.mul_le_mul_right _ m2
    have hcl := cutK_len (f := q) hmB
    have hdl : (cutK c' B q m).length / c'.toNat = m - q := by rw [hcl]; exact Nat.mul_div_cancel _ (by omega)
    have hqm : q + (m - q) = m := by omega
    have hca : (cutK c' B q m).all smpX = true := by
      rw [List.all_eq_true]
      intro x hx
      exact List.all_eq_true.1 hBa x (List.mem_of_mem_drop (List.mem_of_mem_take hx))
    rw [hgx]
    simp only [hdl, hqm]
    have hcle : (cutK c' B q m).length ≤ 100 := by
      have : (cutK c' B q m).length ≤ B.length := by unfold cutK; rw [List.length_take, List.length_drop]; omega
      omega
    obtain ⟨v1, v2, v3, v4⟩ := stR_V hpv (c := c') (N := N) (by omega) (hsl q hq) (hsa q) (by omega) hN6 hN (by omega)
    have hst2 := cv_step hpv (c := c') (s := S0 ++ B.take (q * c'.toNat)) (y := cutK c' B q m) (W := W + q) (V := m - q) (N := N) (by omega) (hsl q hq) (hsa q) hcl hca (by omega) hN6 hN (by omega) (by rw [Nat.add_assoc, hqm]; exact hfew m m2)
    rw [Nat.add_assoc, hqm, htk q m m1] at hst2
    obtain ⟨s1, s2, s3, s4⟩ := hst2
    rw [s1, s3, ← s4]
    have hM := hfew m m2
    have hMn := (mkN_iff hpv (n := ((W + m : Nat) : Int)) (Int.natCast_nonneg _) (k := mkN P ((W + m : Nat) : Int)) (by omega)).1 (Nat.le_refl _)
    have hol : (ooL P c' (S0 ++ List.take (q * c'.toNat) B) N).length + (cvO (stR P c' (S0 ++ List.take (q * c'.toNat) B) N) c' (cutK c' B q m)).length ≤ 1000000 := by
      rw [← List.length_append, s4, ooL_len]
      have := Nat.mul_le_mul (show mkN P ((W + m : Nat) : Int) ≤ 65536 by omega) (show c'.toNat ≤ 2 by omega)
      omega
    have hl1 : (stR P c' (S0 ++ List.take (q * c'.toNat) B) N).l.length ≤ 1000000 := by
      rw [v2]
      have := Nat.mul_le_mul (show W + q - qN P N ≤ 61 by omega) (show c'.toNat ≤ 2 by omega)
      omega
    exact ⟨by omega, ⟨hl1, by omega⟩, fun h => absurd h (by decide), fun _ => ⟨by kernel_rfl, hol, ⟨(wrapN _ (by omega)).symm, ⟨rfl, rfl, rfl, rfl, rfl, rfl, rfl⟩, rfl⟩, ⟨by omega, m2, m4, by omega, hMn⟩, by omega⟩⟩
  · have hil : i = L.length := by have := of_decide_eq_false h1; omega
    rw [hil, List.drop_length] at hc
    have hqF : q = F := hc
    have hNF := hNm (by omega)
    rw [hqF] at hNF
    rw [hqF, ← hBl, List.take_length, hNF]
    have hlen : (stR P c' (S0 ++ B) (mkN P ((W + F : Nat) : Int))).l.length ≤ 1000000000 := by
      show (List.drop _ (S0 ++ B)).length ≤ _
      rw [List.length_drop, List.length_append]
      omega
    have hol : (ooL P c' (S0 ++ B) (mkN P ((W + F : Nat) : Int))).length ≤ 1000000000 := by
      rw [ooL_len]
      have := Nat.mul_le_mul (show mkN P ((W + F : Nat) : Int) ≤ 65536 by have := hfew F (Nat.le_refl _); omega) (show c'.toNat ≤ 2 by omega)
      omega
    refine ⟨hlen, fun _ => hol, by simp⟩

end Go.Vam
