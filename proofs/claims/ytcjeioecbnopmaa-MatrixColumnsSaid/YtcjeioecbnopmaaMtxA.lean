/- Valid, empty, rows of a matrix. Conditions: none. -/
import Derived.Test.YtcjeioecbnopmaaTab
set_option linter.unusedVariables false
set_option linter.unusedSimpArgs false
set_option maxRecDepth 40000
set_option maxHeartbeats 4000000
namespace Go.Vam
open Go.Proofs

def coefX (x : Int) : Bool := decide (-131072 ≤ x) && decide (x ≤ 131072)
def mxB (a b : Int) (n : Nat) : Bool := decide (a < 1) || decide (8 < a) || decide (b < 1) || decide (8 < b) || (n : Int) != IntKind.i64.wrap (a * b)
def mxV (a b : Int) (l : List Int) : Bool := !mxB a b l.length && l.all coefX
theorem coefX_in {x : Int} (h : coefX x = true) : -131072 ≤ x ∧ x ≤ 131072 := by simpa [coefX] using h
theorem mul88 {a b : Int} (ha : 1 ≤ a ∧ a ≤ 8) (hb : 1 ≤ b ∧ b ≤ 8) : 1 ≤ a * b ∧ a * b ≤ 64 := by
  have h1 : a * b ≤ 8 * 8 := Int.mul_le_mul ha.2 hb.2 (by omega) (by decide)
  have h2 : 1 * 1 ≤ a * b := Int.mul_le_mul ha.1 hb.1 (by decide) (by omega)
  omega
theorem mxB_in {a b : Int} {n : Nat} (h : mxB a b n = false) : (1 ≤ a ∧ a ≤ 8) ∧ (1 ≤ b ∧ b ≤ 8) ∧ n = a.toNat * b.toNat := by
  simp only [mxB, Bool.or_eq_false_iff, decide_eq_false_iff_not, bne_eq_false_iff_eq] at h
  obtain ⟨⟨⟨⟨h1, h2⟩, h3⟩, h4⟩, h5⟩ := h
  have hm := mul88 (a := a) (b := b) (by omega) (by omega)
  rw [IntWalk.i64_in (a * b) (by omega)] at h5
  refine ⟨by omega, by omega, ?_⟩
  have e1 : a = (a.toNat : Int) := by omega
  have e2 : b = (b.toNat : Int) := by omega
  rw [e1, e2, ← Int.natCast_mul] at h5
  exact_mod_cast h5
theorem mxV_in {a b : Int} {l : List Int} (h : mxV a b l = true) : (1 ≤ a ∧ a ≤ 8) ∧ (1 ≤ b ∧ b ≤ 8) ∧ l.length = a.toNat * b.toNat ∧ l.all coefX = true := by
  simp only [mxV, Bool.and_eq_true, Bool.not_eq_true'] at h
  obtain ⟨h1, h2, h3⟩ := mxB_in h.1
  exact ⟨h1, h2, h3, h.2⟩
theorem allSnocC {l : List Int} {n : Nat} (h : n < l.length) (ha : (l.take n).all coefX = true) (hx : coefX l[n] = true) : (l.take (n + 1)).all coefX = true := by
  rw [List.take_add_one, List.getElem?_eq_getElem h, List.all_append, ha]
  simpa using hx
theorem allBadC {l : List Int} {n : Nat} (h : n < l.length) (hx : coefX l[n] = false) : l.all coefX = false := by
  rw [List.all_eq_false]
  exact ⟨l[n], List.getElem_mem h, by simp [hx]⟩
/-- Rows. -/
def rowL (a : Nat) (l : List Int) (i : Nat) : List Int := (l.drop (i * a)).take a
def rowsL (a : Nat) (l : List Int) (n : Nat) : List (List Int) := (List.range n).map (rowL a l)
def rowsP (a : Nat) (l : List Int) (n g : Nat) : List (List Int) := (List.range n).map fun i => if i < g then rowL a l i else []
theorem rowsP_zero (a : Nat) (l : List Int) (n : Nat) : rowsP a l n 0 = List.replicate n [] := by
  apply List.ext_getElem
  · simp [rowsP]
  · intro i h1 h2; simp [rowsP]
theorem rowsP_all (a : Nat) (l : List Int) (n : Nat) : rowsP a l n n = rowsL a l n := by
  apply List.map_congr_left
  intro i hi
  rw [List.mem_range] at hi
  rw [if_pos hi]
theorem rowsP_len (a : Nat) (l : List Int) (n g : Nat) : (rowsP a l n g).length = n := by simp [rowsP]
theorem rowsP_succ (a : Nat) (l : List Int) (n g : Nat) : rowsP a l n (g + 1) = (rowsP a l n g).set g (rowL a l g) := by
  apply List.ext_getElem
  · simp [rowsP]
  · intro i h1 h2
    simp only [rowsP, List.getElem_map, List.getElem_range, List.getElem_set]
    by_cases e : g = i
    · subst e; simp
    · rw [if_neg e]
      by_cases h : i < g
      · rw [if_pos h, if_pos (by omega)]
      · rw [if_neg h, if_neg (by omega)]
/-- Rows of an array on their way. -/
def tabP (k : Name) (a n g : Nat) : List C := (List.range n).map fun i => if i < g then C.vw k (i * a) a else .nil
theorem tabP_len (k : Name) (a n g : Nat) : (tabP k a n g).length = n := by simp [tabP]
theorem tabP_zero (k : Name) (a n : Nat) : tabP k a n 0 = List.replicate n .nil := by
  apply List.ext_getElem
  · simp [tabP]
  · intro i h1 h2; simp [tabP]
theorem tabP_all (k : Name) (a n : Nat) : tabP k a n n = tabV k a n := by
  apply List.map_congr_left
  intro i hi
  rw [List.mem_range] at hi
  rw [if_pos hi]
theorem lay_one {β : Type} : ∀ (l : List β) (g : Nat) (y : β), g < l.length → lay l g [y] = l.set g y
  | [], _, _, h => absurd h (Nat.not_lt_zero _)
  | x :: l, 0, y, _ => rfl
  | x :: l, g + 1, y, h => by
    show x :: lay l g [y] = x :: l.set g y
    rw [lay_one l g y (by simpa using h)]
theorem tabP_succ (k : Name) (a n g : Nat) (hg : g < n) : lay (tabP k a n g) g [C.vw k (g * a) a] = tabP k a n (g + 1) := by
  rw [lay_one _ _ _ (by rw [tabP_len]; exact hg)]
  apply List.ext_getElem
  · simp [tabP]
  · intro i h1 h2
    simp only [tabP, List.getElem_map, List.getElem_range, List.getElem_set]
    by_cases e : g = i
    · subst e; simp
    · rw [if_neg e]
      by_cases h : i < g
      · rw [if_pos h, if_pos (by omega)]
      · rw [if_neg h, if_neg (by omega)]

theorem spec_mvalid (a b : Int) (l : List Int) (hl : l.length ≤ 1000000) : Spec Try.prog 0 18 [.agg [.d (.int .i64 a), .d (.int .i64 b), .d (.list (LI .i64 l))]] [] [] (vB (mxV a b l)) [] [] := by
  refine spec_of_E (X := ⟨Try.prog, tt, Try.f18.ntmps, 1, fun _ => 0, (tab [])⟩) (M := [(1, [0, 0, 0, 0, 0, 70901320121623, 0, 0, 0, 0, 0, 70901320065047, 0, 0, 0, 0, 0, 70901315928087, 0, 0, 0, 0, 0, 70901127184407, 0, 0, 0, 0, 0])]) (m := 70892730187799) rfl rfl ⟨tt_ok, tab_ok tabs_nil _ rfl rfl⟩ tt_mixed Try.func18 rfl (by decide) (by show (1 : Nat) ≤ _; exact Nat.le_of_ble_eq_true rfl) ⟨fun m hm => (V.bare_has rfl m hm).elim, by simp, by simp⟩ ?_
  simp only [↓gPre, gPost, handV, V.bufs, buildArr, toCs, List.set_cons_succ, List.set_cons_zero, List.foldr_cons, List.foldr_nil, List.append_eq, Nat.reduceShiftRight, Nat.reduceMod, List.mem_cons, addB, addK, zeroOp, callSem, resName, keepsB, newB, V.pure, C.pure, V.ptrs, C.ptrs, C.bufs, appendSem, dstOk, lk, V.cells, Op.eff, partV, partD, cut, lay, zeroD, C.toDs, C.toD, V.toD, toDs, buildCells, List.flatMap_nil, List.flatMap_cons, List.all_nil, List.all_cons, List.map_nil, List.map_cons, List.zip_cons_cons, List.zip_nil_left, List.nil_append, List.append_nil, List.cons_append, List.drop_zero, List.drop_succ_cons, List.take_succ_cons, List.take_zero, List.length_cons, List.length_nil, List.getElem?_cons_succ, List.getElem?_cons_zero, Option.getD_some, Option.getD_none, Option.map_some, Option.map_none, Option.some.injEq, Option.isSome_none, Option.isSome_some, Option.toList_some, Option.toList_none, if_true, if_false, ↓reduceIte, reduceCtorEq, Nat.reduceEqDiff, Nat.reduceLT, Nat.reduceLeDiff, List.not_mem_nil, false_implies, implies_true, true_and, and_true, forall_const, Nat.succ_ne_self, Bool.false_eq_true, Bool.true_and, Bool.and_true, eq_self, ne_eq, not_true_eq_false, not_false_eq_true, or_true, true_or, and_self, imp_self, bne_self_eq_false, beq_self_eq_true, Bool.or_false, Bool.false_or, Bool.and_false, Bool.false_and, false_or, or_false, Nat.reduceAdd, Nat.reduceMul, beq_true, beq_false, Name.mk.injEq, decide_true, decide_false, Bool.or_true, Bool.true_or, Bool.or_self, Bool.not_eq_true', Bool.not_true, Bool.not_false, Bool.true_eq_false, Bool.cond_true_left, Bool.cond_false_right, Nat.zero_add, Int.reduceLE, Int.reduceLT, Int.reduceNeg, Int.reduceAdd, Int.reduceToNat, List.range_succ, List.range_zero, Int.toNat_natCast, List.mem_nil_iff, List.mem_append, Try.ntmps18, Try.results18, tt_1, tt_2, tt_3, tt_4, tt_5, tt_6, tt_7, tt_8, tt_12, tt_15, tt_16, tt_17, tt_18, tt_19, tt_21, tt_22, tt_23, tt_24, tt_25, tt_26, tt_27, tt_28, tt_29, tt_30, tt_31, tt_32, tt_33, tt_34, tt_35, tt_36, tt_37, tt_38, tt_39, tt_41, tt_42, tt_44, tt_45, tt_46, tt_47, tt_48, tt_49, tt_50, tt_51, tt_52, tt_53, tt_54, tt_55, tt_56, tt_57, tt_58, tt_59, tt_60, tt_61, tt_62, tt_63, tt_64, tt_65, tt_66, tt_67, tt_68, tt_69, tt_70, tt_71, tt_72, tt_73, tt_74, tt_75, tt_78, tt_79, tt_80, tt_81, tt_82, tt_83, tt_84, tt_85, tt_86, tt_87, tt_88, tt_89, tt_90, tt_91]
  refine ⟨fun h => ?_, fun h => ?_⟩
  · have hc : mxB a b l.length = true := h
    simp [mxV, hc]
  have hc : mxB a b l.length = false := h
  refine ELoop_keep (fun n => ⟨[(37, vI .i64 (n : Nat))], [], []⟩) (fun n => n ≤ l.length ∧ (l.take n).all coefX = true) (fun n => l.length - n) (· + 1) 0 ⟨Nat.zero_le _, rfl⟩ ?_ ?_
  · simp only [↓gPre, gPost, handV, V.bufs, buildArr, toCs, List.set_cons_succ, List.set_cons_zero, List.foldr_cons, List.foldr_nil, List.append_eq, Nat.reduceShiftRight, Nat.reduceMod, List.mem_cons, addB, addK, zeroOp, callSem, resName, keepsB, newB, V.pure, C.pure, V.ptrs, C.ptrs, C.bufs, appendSem, dstOk, lk, V.cells, Op.eff, partV, partD, cut, lay, zeroD, C.toDs, C.toD, V.toD, toDs, buildCells, List.flatMap_nil, List.flatMap_cons, List.all_nil, List.all_cons, List.map_nil, List.map_cons, List.zip_cons_cons, List.zip_nil_left, List.nil_append, List.append_nil, List.cons_append, List.drop_zero, List.drop_succ_cons, List.take_succ_cons, List.take_zero, List.length_cons, List.length_nil, List.getElem?_cons_succ, List.getElem?_cons_zero, Option.getD_some, Option.getD_none, Option.map_some, Option.map_none, Option.some.injEq, Option.isSome_none, Option.isSome_some, Option.toList_some, Option.toList_none, if_true, if_false, ↓reduceIte, reduceCtorEq, Nat.reduceEqDiff, Nat.reduceLT, Nat.reduceLeDiff, List.not_mem_nil, false_implies, implies_true, true_and, and_true, forall_const, Nat.succ_ne_self, Bool.false_eq_true, Bool.true_and, Bool.and_true, eq_self, ne_eq, not_true_eq_false, not_false_eq_true, or_true, true_or, and_self, imp_self, bne_self_eq_false, beq_self_eq_true, Bool.or_false, Bool.false_or, Bool.and_false, Bool.false_and, false_or, or_false, Nat.reduceAdd, Nat.reduceMul, beq_true, beq_false, Name.mk.injEq, decide_true, decide_false, Bool.or_true, Bool.true_or, Bool.or_self, Bool.not_eq_true', Bool.not_true, Bool.not_false, Bool.true_eq_false, Bool.cond_true_left, Bool.cond_false_right, Nat.zero_add, Int.reduceLE, Int.reduceLT, Int.reduceNeg, Int.reduceAdd, Int.reduceToNat, List.range_succ, List.range_zero, Int.toNat_natCast, List.mem_nil_iff, List.mem_append, Try.ntmps18, Try.results18, tt_1, tt_2, tt_3, tt_4, tt_5, tt_6, tt_7, tt_8, tt_12, tt_15, tt_16, tt_17, tt_18, tt_19, tt_21, tt_22, tt_23, tt_24, tt_25, tt_26, tt_27, tt_28, tt_29, tt_30, tt_31, tt_32, tt_33, tt_34, tt_35, tt_36, tt_37, tt_38, tt_39, tt_41, tt_42, tt_44, tt_45, tt_46, tt_47, tt_48, tt_49, tt_50, tt_51, tt_52, tt_53, tt_54, tt_55, tt_56, tt_57, tt_58, tt_59, tt_60, tt_61, tt_62, tt_63, tt_64, tt_65, tt_66, tt_67, tt_68, tt_69, tt_70, tt_71, tt_72, tt_73, tt_74, tt_75, tt_78, tt_79, tt_80, tt_81, tt_82, tt_83, tt_84, tt_85, tt_86, tt_87, tt_88, tt_89, tt_90, tt_91]
    rfl
  rintro n ⟨hn, hok⟩
  simp only [↓gPre, gPost, handV, V.bufs, buildArr, toCs, List.set_cons_succ, List.set_cons_zero, List.foldr_cons, List.foldr_nil, List.append_eq, Nat.reduceShiftRight, Nat.reduceMod, List.mem_cons, addB, addK, zeroOp, callSem, resName, keepsB, newB, V.pure, C.pure, V.ptrs, C.ptrs, C.bufs, appendSem, dstOk, lk, V.cells, Op.eff, partV, partD, cut, lay, zeroD, C.toDs, C.toD, V.toD, toDs, buildCells, List.flatMap_nil, List.flatMap_cons, List.all_nil, List.all_cons, List.map_nil, List.map_cons, List.zip_cons_cons, List.zip_nil_left, List.nil_append, List.append_nil, List.cons_append, List.drop_zero, List.drop_succ_cons, List.take_succ_cons, List.take_zero, List.length_cons, List.length_nil, List.getElem?_cons_succ, List.getElem?_cons_zero, Option.getD_some, Option.getD_none, Option.map_some, Option.map_none, Option.some.injEq, Option.isSome_none, Option.isSome_some, Option.toList_some, Option.toList_none, if_true, if_false, ↓reduceIte, reduceCtorEq, Nat.reduceEqDiff, Nat.reduceLT, Nat.reduceLeDiff, List.not_mem_nil, false_implies, implies_true, true_and, and_true, forall_const, Nat.succ_ne_self, Bool.false_eq_true, Bool.true_and, Bool.and_true, eq_self, ne_eq, not_true_eq_false, not_false_eq_true, or_true, true_or, and_self, imp_self, bne_self_eq_false, beq_self_eq_true, Bool.or_false, Bool.false_or, Bool.and_false, Bool.false_and, false_or, or_false, Nat.reduceAdd, Nat.reduceMul, beq_true, beq_false, Name.mk.injEq, decide_true, decide_false, Bool.or_true, Bool.true_or, Bool.or_self, Bool.not_eq_true', Bool.not_true, Bool.not_false, Bool.true_eq_false, Bool.cond_true_left, Bool.cond_false_right, Nat.zero_add, Int.reduceLE, Int.reduceLT, Int.reduceNeg, Int.reduceAdd, Int.reduceToNat, List.range_succ, List.range_zero, Int.toNat_natCast, List.mem_nil_iff, List.mem_append, Try.ntmps18, Try.results18, tt_1, tt_2, tt_3, tt_4, tt_5, tt_6, tt_7, tt_8, tt_12, tt_15, tt_16, tt_17, tt_18, tt_19, tt_21, tt_22, tt_23, tt_24, tt_25, tt_26, tt_27, tt_28, tt_29, tt_30, tt_31, tt_32, tt_33, tt_34, tt_35, tt_36, tt_37, tt_38, tt_39, tt_41, tt_42, tt_44, tt_45, tt_46, tt_47, tt_48, tt_49, tt_50, tt_51, tt_52, tt_53, tt_54, tt_55, tt_56, tt_57, tt_58, tt_59, tt_60, tt_61, tt_62, tt_63, tt_64, tt_65, tt_66, tt_67, tt_68, tt_69, tt_70, tt_71, tt_72, tt_73, tt_74, tt_75, tt_78, tt_79, tt_80, tt_81, tt_82, tt_83, tt_84, tt_85, tt_86, tt_87, tt_88, tt_89, tt_90, tt_91]
  refine ⟨fun h1 => ?_, fun h1 => ?_⟩
  · have hlt : n < l.length := by have := of_decide_eq_true h1; omega
    have hg : l[n]?.getD 0 = l[n] := by rw [List.getElem?_eq_getElem hlt]; rfl
    rw [hg]
    refine ⟨by omega, fun h2 => ?_, fun h2 => ?_⟩
    · have hx : coefX l[n] = false := by
        simp only [Bool.or_eq_true, decide_eq_true_eq] at h2
        simp only [coefX, Bool.and_eq_false_iff, decide_eq_false_iff_not]
        omega
      simp [mxV, allBadC hlt hx]
    · have hx : coefX l[n] = true := by
        simp only [Bool.or_eq_false_iff, decide_eq_false_iff_not] at h2
        simp only [coefX, Bool.and_eq_true, decide_eq_true_eq]
        omega
      exact ⟨(wrapN _ (by omega)).symm, ⟨by omega, allSnocC hlt hok hx⟩, by omega⟩
  · have : n = l.length := by have := of_decide_eq_false h1; omega
    rw [this, List.take_length] at hok
    simp [mxV, hc, hok]
def E_mvalid : List V → Boxes → Toks → Name → Option Ent
  | [.agg [.d (.int .i64 a), .d (.int .i64 b), .d (.list q_l)]], [], [], _ => some ⟨(ints q_l).length ≤ 1000000 ∧ q_l = LI .i64 (ints q_l), vB (mxV a b (ints q_l)), [], []⟩
  | _, _, _, _ => none
theorem E_mvalid_eq {a b : Int}  {q_l : List D} {nF : Name} : E_mvalid [.agg [.d (.int .i64 a), .d (.int .i64 b), .d (.list q_l)]] [] [] nF = some ⟨(ints q_l).length ≤ 1000000 ∧ q_l = LI .i64 (ints q_l), vB (mxV a b (ints q_l)), [], []⟩ := Eq.trans rfl rfl
theorem E_mvalid_ok : Snd Try.prog 18 E_mvalid := by
  intro vs b k n e h hn hp
  unfold E_mvalid at h
  split at h
  · cases h; obtain ⟨hp0, hq0⟩ := hp; obtain ⟨_, rfl⟩ := LI_ex hq0; simp only [ints_LI, bys_LB, blks_LK, lls_LL] at hp0 ⊢; exact (spec_mvalid _ _ _ hp0).lift rfl _
  · cases h

theorem spec_rmvalid (a b : Int) (l : List Int) (hl : l.length ≤ 1000000) : Spec Try.prog 0 19 [.agg [.d (.int .i64 a), .d (.int .i64 b), .d (.list (LI .i64 l))]] [] [] (vB (mxV a b l)) [] [] := by
  refine spec_of_E (X := ⟨Try.prog, tt, Try.f19.ntmps, 1, fun _ => 0, (tab [])⟩) (M := [(1, [0, 0, 0, 0, 0, 70901320121623, 0, 0, 0, 0, 0, 70901320065047, 0, 0, 0, 0, 0, 70901315928087, 0, 0, 0, 0, 0, 70901127184407, 0, 0, 0, 0, 0])]) (m := 70892730187799) rfl rfl ⟨tt_ok, tab_ok tabs_nil _ rfl rfl⟩ tt_mixed Try.func19 rfl (by decide) (by show (1 : Nat) ≤ _; exact Nat.le_of_ble_eq_true rfl) ⟨fun m hm => (V.bare_has rfl m hm).elim, by simp, by simp⟩ ?_
  simp only [↓gPre, gPost, handV, V.bufs, buildArr, toCs, List.set_cons_succ, List.set_cons_zero, List.foldr_cons, List.foldr_nil, List.append_eq, Nat.reduceShiftRight, Nat.reduceMod, List.mem_cons, addB, addK, zeroOp, callSem, resName, keepsB, newB, V.pure, C.pure, V.ptrs, C.ptrs, C.bufs, appendSem, dstOk, lk, V.cells, Op.eff, partV, partD, cut, lay, zeroD, C.toDs, C.toD, V.toD, toDs, buildCells, List.flatMap_nil, List.flatMap_cons, List.all_nil, List.all_cons, List.map_nil, List.map_cons, List.zip_cons_cons, List.zip_nil_left, List.nil_append, List.append_nil, List.cons_append, List.drop_zero, List.drop_succ_cons, List.take_succ_cons, List.take_zero, List.length_cons, List.length_nil, List.getElem?_cons_succ, List.getElem?_cons_zero, Option.getD_some, Option.getD_none, Option.map_some, Option.map_none, Option.some.injEq, Option.isSome_none, Option.isSome_some, Option.toList_some, Option.toList_none, if_true, if_false, ↓reduceIte, reduceCtorEq, Nat.reduceEqDiff, Nat.reduceLT, Nat.reduceLeDiff, List.not_mem_nil, false_implies, implies_true, true_and, and_true, forall_const, Nat.succ_ne_self, Bool.false_eq_true, Bool.true_and, Bool.and_true, eq_self, ne_eq, not_true_eq_false, not_false_eq_true, or_true, true_or, and_self, imp_self, bne_self_eq_false, beq_self_eq_true, Bool.or_false, Bool.false_or, Bool.and_false, Bool.false_and, false_or, or_false, Nat.reduceAdd, Nat.reduceMul, beq_true, beq_false, Name.mk.injEq, decide_true, decide_false, Bool.or_true, Bool.true_or, Bool.or_self, Bool.not_eq_true', Bool.not_true, Bool.not_false, Bool.true_eq_false, Bool.cond_true_left, Bool.cond_false_right, Nat.zero_add, Int.reduceLE, Int.reduceLT, Int.reduceNeg, Int.reduceAdd, Int.reduceToNat, List.range_succ, List.range_zero, Int.toNat_natCast, List.mem_nil_iff, List.mem_append, Try.ntmps19, Try.results19, tt_1, tt_2, tt_3, tt_4, tt_5, tt_6, tt_7, tt_8, tt_12, tt_15, tt_16, tt_17, tt_18, tt_19, tt_21, tt_22, tt_23, tt_24, tt_25, tt_26, tt_27, tt_28, tt_29, tt_30, tt_31, tt_32, tt_33, tt_34, tt_35, tt_36, tt_37, tt_38, tt_39, tt_41, tt_42, tt_44, tt_45, tt_46, tt_47, tt_48, tt_49, tt_50, tt_51, tt_52, tt_53, tt_54, tt_55, tt_56, tt_57, tt_58, tt_59, tt_60, tt_61, tt_62, tt_63, tt_64, tt_65, tt_66, tt_67, tt_68, tt_69, tt_70, tt_71, tt_72, tt_73, tt_74, tt_75, tt_78, tt_79, tt_80, tt_81, tt_82, tt_83, tt_84, tt_85, tt_86, tt_87, tt_88, tt_89, tt_90, tt_91]
  refine ⟨fun h => ?_, fun h => ?_⟩
  · have hc : mxB a b l.length = true := h
    simp [mxV, hc]
  have hc : mxB a b l.length = false := h
  refine ELoop_keep (fun n => ⟨[(37, vI .i64 (n : Nat))], [], []⟩) (fun n => n ≤ l.length ∧ (l.take n).all coefX = true) (fun n => l.length - n) (· + 1) 0 ⟨Nat.zero_le _, rfl⟩ ?_ ?_
  · simp only [↓gPre, gPost, handV, V.bufs, buildArr, toCs, List.set_cons_succ, List.set_cons_zero, List.foldr_cons, List.foldr_nil, List.append_eq, Nat.reduceShiftRight, Nat.reduceMod, List.mem_cons, addB, addK, zeroOp, callSem, resName, keepsB, newB, V.pure, C.pure, V.ptrs, C.ptrs, C.bufs, appendSem, dstOk, lk, V.cells, Op.eff, partV, partD, cut, lay, zeroD, C.toDs, C.toD, V.toD, toDs, buildCells, List.flatMap_nil, List.flatMap_cons, List.all_nil, List.all_cons, List.map_nil, List.map_cons, List.zip_cons_cons, List.zip_nil_left, List.nil_append, List.append_nil, List.cons_append, List.drop_zero, List.drop_succ_cons, List.take_succ_cons, List.take_zero, List.length_cons, List.length_nil, List.getElem?_cons_succ, List.getElem?_cons_zero, Option.getD_some, Option.getD_none, Option.map_some, Option.map_none, Option.some.injEq, Option.isSome_none, Option.isSome_some, Option.toList_some, Option.toList_none, if_true, if_false, ↓reduceIte, reduceCtorEq, Nat.reduceEqDiff, Nat.reduceLT, Nat.reduceLeDiff, List.not_mem_nil, false_implies, implies_true, true_and, and_true, forall_const, Nat.succ_ne_self, Bool.false_eq_true, Bool.true_and, Bool.and_true, eq_self, ne_eq, not_true_eq_false, not_false_eq_true, or_true, true_or, and_self, imp_self, bne_self_eq_false, beq_self_eq_true, Bool.or_false, Bool.false_or, Bool.and_false, Bool.false_and, false_or, or_false, Nat.reduceAdd, Nat.reduceMul, beq_true, beq_false, Name.mk.injEq, decide_true, decide_false, Bool.or_true, Bool.true_or, Bool.or_self, Bool.not_eq_true', Bool.not_true, Bool.not_false, Bool.true_eq_false, Bool.cond_true_left, Bool.cond_false_right, Nat.zero_add, Int.reduceLE, Int.reduceLT, Int.reduceNeg, Int.reduceAdd, Int.reduceToNat, List.range_succ, List.range_zero, Int.toNat_natCast, List.mem_nil_iff, List.mem_append, Try.ntmps19, Try.results19, tt_1, tt_2, tt_3, tt_4, tt_5, tt_6, tt_7, tt_8, tt_12, tt_15, tt_16, tt_17, tt_18, tt_19, tt_21, tt_22, tt_23, tt_24, tt_25, tt_26, tt_27, tt_28, tt_29, tt_30, tt_31, tt_32, tt_33, tt_34, tt_35, tt_36, tt_37, tt_38, tt_39, tt_41, tt_42, tt_44, tt_45, tt_46, tt_47, tt_48, tt_49, tt_50, tt_51, tt_52, tt_53, tt_54, tt_55, tt_56, tt_57, tt_58, tt_59, tt_60, tt_61, tt_62, tt_63, tt_64, tt_65, tt_66, tt_67, tt_68, tt_69, tt_70, tt_71, tt_72, tt_73, tt_74, tt_75, tt_78, tt_79, tt_80, tt_81, tt_82, tt_83, tt_84, tt_85, tt_86, tt_87, tt_88, tt_89, tt_90, tt_91]
    rfl
  rintro n ⟨hn, hok⟩
  simp only [↓gPre, gPost, handV, V.bufs, buildArr, toCs, List.set_cons_succ, List.set_cons_zero, List.foldr_cons, List.foldr_nil, List.append_eq, Nat.reduceShiftRight, Nat.reduceMod, List.mem_cons, addB, addK, zeroOp, callSem, resName, keepsB, newB, V.pure, C.pure, V.ptrs, C.ptrs, C.bufs, appendSem, dstOk, lk, V.cells, Op.eff, partV, partD, cut, lay, zeroD, C.toDs, C.toD, V.toD, toDs, buildCells, List.flatMap_nil, List.flatMap_cons, List.all_nil, List.all_cons, List.map_nil, List.map_cons, List.zip_cons_cons, List.zip_nil_left, List.nil_append, List.append_nil, List.cons_append, List.drop_zero, List.drop_succ_cons, List.take_succ_cons, List.take_zero, List.length_cons, List.length_nil, List.getElem?_cons_succ, List.getElem?_cons_zero, Option.getD_some, Option.getD_none, Option.map_some, Option.map_none, Option.some.injEq, Option.isSome_none, Option.isSome_some, Option.toList_some, Option.toList_none, if_true, if_false, ↓reduceIte, reduceCtorEq, Nat.reduceEqDiff, Nat.reduceLT, Nat.reduceLeDiff, List.not_mem_nil, false_implies, implies_true, true_and, and_true, forall_const, Nat.succ_ne_self, Bool.false_eq_true, Bool.true_and, Bool.and_true, eq_self, ne_eq, not_true_eq_false, not_false_eq_true, or_true, true_or, and_self, imp_self, bne_self_eq_false, beq_self_eq_true, Bool.or_false, Bool.false_or, Bool.and_false, Bool.false_and, false_or, or_false, Nat.reduceAdd, Nat.reduceMul, beq_true, beq_false, Name.mk.injEq, decide_true, decide_false, Bool.or_true, Bool.true_or, Bool.or_self, Bool.not_eq_true', Bool.not_true, Bool.not_false, Bool.true_eq_false, Bool.cond_true_left, Bool.cond_false_right, Nat.zero_add, Int.reduceLE, Int.reduceLT, Int.reduceNeg, Int.reduceAdd, Int.reduceToNat, List.range_succ, List.range_zero, Int.toNat_natCast, List.mem_nil_iff, List.mem_append, Try.ntmps19, Try.results19, tt_1, tt_2, tt_3, tt_4, tt_5, tt_6, tt_7, tt_8, tt_12, tt_15, tt_16, tt_17, tt_18, tt_19, tt_21, tt_22, tt_23, tt_24, tt_25, tt_26, tt_27, tt_28, tt_29, tt_30, tt_31, tt_32, tt_33, tt_34, tt_35, tt_36, tt_37, tt_38, tt_39, tt_41, tt_42, tt_44, tt_45, tt_46, tt_47, tt_48, tt_49, tt_50, tt_51, tt_52, tt_53, tt_54, tt_55, tt_56, tt_57, tt_58, tt_59, tt_60, tt_61, tt_62, tt_63, tt_64, tt_65, tt_66, tt_67, tt_68, tt_69, tt_70, tt_71, tt_72, tt_73, tt_74, tt_75, tt_78, tt_79, tt_80, tt_81, tt_82, tt_83, tt_84, tt_85, tt_86, tt_87, tt_88, tt_89, tt_90, tt_91]
  refine ⟨fun h1 => ?_, fun h1 => ?_⟩
  · have hlt : n < l.length := by have := of_decide_eq_true h1; omega
    have hg : l[n]?.getD 0 = l[n] := by rw [List.getElem?_eq_getElem hlt]; rfl
    rw [hg]
    refine ⟨by omega, fun h2 => ?_, fun h2 => ?_⟩
    · have hx : coefX l[n] = false := by
        simp only [Bool.or_eq_true, decide_eq_true_eq] at h2
        simp only [coefX, Bool.and_eq_false_iff, decide_eq_false_iff_not]
        omega
      simp [mxV, allBadC hlt hx]
    · have hx : coefX l[n] = true := by
        simp only [Bool.or_eq_false_iff, decide_eq_false_iff_not] at h2
        simp only [coefX, Bool.and_eq_true, decide_eq_true_eq]
        omega
      exact ⟨(wrapN _ (by omega)).symm, ⟨by omega, allSnocC hlt hok hx⟩, by omega⟩
  · have : n = l.length := by have := of_decide_eq_false h1; omega
    rw [this, List.take_length] at hok
    simp [mxV, hc, hok]
def E_rmvalid : List V → Boxes → Toks → Name → Option Ent
  | [.agg [.d (.int .i64 a), .d (.int .i64 b), .d (.list q_l)]], [], [], _ => some ⟨(ints q_l).length ≤ 1000000 ∧ q_l = LI .i64 (ints q_l), vB (mxV a b (ints q_l)), [], []⟩
  | _, _, _, _ => none
theorem E_rmvalid_eq {a b : Int}  {q_l : List D} {nF : Name} : E_rmvalid [.agg [.d (.int .i64 a), .d (.int .i64 b), .d (.list q_l)]] [] [] nF = some ⟨(ints q_l).length ≤ 1000000 ∧ q_l = LI .i64 (ints q_l), vB (mxV a b (ints q_l)), [], []⟩ := Eq.trans rfl rfl
theorem E_rmvalid_ok : Snd Try.prog 19 E_rmvalid := by
  intro vs b k n e h hn hp
  unfold E_rmvalid at h
  split at h
  · cases h; obtain ⟨hp0, hq0⟩ := hp; obtain ⟨_, rfl⟩ := LI_ex hq0; simp only [ints_LI, bys_LB, blks_LK, lls_LL] at hp0 ⊢; exact (spec_rmvalid _ _ _ hp0).lift rfl _
  · cases h

theorem spec_empty (a b : Int) (ha : 1 ≤ a ∧ a ≤ 8) (hb : 1 ≤ b ∧ b ≤ 8) : Spec Try.prog 0 39 [vI .i64 a, vI .i64 b] [] [] (.agg [.d (.int .i64 a), .d (.int .i64 b), .arr ⟨0, 9⟩ (a * b).toNat]) [] [(⟨0, 9⟩, ⟨true, 1, (LI .i64 (List.replicate (a * b).toNat 0))⟩)] := by
  refine spec_of_E_new (X := ⟨Try.prog, tt, Try.f39.ntmps, 1, fun s => if s = 10 then 2 else 0, (tab [])⟩) (M := []) (m := 19) (r0 := .agg [.d (.int .i64 a), .d (.int .i64 b), .arr ⟨1, 10⟩ (a * b).toNat]) (b0 := []) (k0 := [(⟨1, 10⟩, ⟨true, 1, (LI .i64 (List.replicate (a * b).toNat 0))⟩)]) ⟨1, 10⟩ ⟨0, 9⟩ rfl rfl ⟨tt_ok, tab_ok tabs_nil _ rfl rfl⟩ tt_mixed Try.func39 rfl (by decide) (by show (2 : Nat) ≤ _; exact Nat.le_of_ble_eq_true rfl) rfl rfl rfl ⟨by simp [V.has, C.has], by simp [C.has], by simp⟩ (by decide) (by simp [V.names, C.names, namesB, namesK]) (by simp [lk]) (by simp [lk]) (by simp [lk]) ?_
  simp only [↓gPre, gPost, handV, V.bufs, buildArr, toCs, List.set_cons_succ, List.set_cons_zero, List.foldr_cons, List.foldr_nil, List.append_eq, Nat.reduceShiftRight, Nat.reduceMod, List.mem_cons, addB, addK, zeroOp, callSem, resName, keepsB, newB, V.pure, C.pure, V.ptrs, C.ptrs, C.bufs, appendSem, dstOk, lk, V.cells, Op.eff, partV, partD, cut, lay, zeroD, C.toDs, C.toD, V.toD, toDs, buildCells, List.flatMap_nil, List.flatMap_cons, List.all_nil, List.all_cons, List.map_nil, List.map_cons, List.zip_cons_cons, List.zip_nil_left, List.nil_append, List.append_nil, List.cons_append, List.drop_zero, List.drop_succ_cons, List.take_succ_cons, List.take_zero, List.length_cons, List.length_nil, List.getElem?_cons_succ, List.getElem?_cons_zero, Option.getD_some, Option.getD_none, Option.map_some, Option.map_none, Option.some.injEq, Option.isSome_none, Option.isSome_some, Option.toList_some, Option.toList_none, if_true, if_false, ↓reduceIte, reduceCtorEq, Nat.reduceEqDiff, Nat.reduceLT, Nat.reduceLeDiff, List.not_mem_nil, false_implies, implies_true, true_and, and_true, forall_const, Nat.succ_ne_self, Bool.false_eq_true, Bool.true_and, Bool.and_true, eq_self, ne_eq, not_true_eq_false, not_false_eq_true, or_true, true_or, and_self, imp_self, bne_self_eq_false, beq_self_eq_true, Bool.or_false, Bool.false_or, Bool.and_false, Bool.false_and, false_or, or_false, Nat.reduceAdd, Nat.reduceMul, beq_true, beq_false, Name.mk.injEq, decide_true, decide_false, Bool.or_true, Bool.true_or, Bool.or_self, Bool.not_eq_true', Bool.not_true, Bool.not_false, Bool.true_eq_false, Bool.cond_true_left, Bool.cond_false_right, Nat.zero_add, Int.reduceLE, Int.reduceLT, Int.reduceNeg, Int.reduceAdd, Int.reduceToNat, List.range_succ, List.range_zero, Int.toNat_natCast, List.mem_nil_iff, List.mem_append, Try.ntmps39, Try.results39, tt_1, tt_2, tt_3, tt_4, tt_5, tt_6, tt_7, tt_8, tt_12, tt_15, tt_16, tt_17, tt_18, tt_19, tt_21, tt_22, tt_23, tt_24, tt_25, tt_26, tt_27, tt_28, tt_29, tt_30, tt_31, tt_32, tt_33, tt_34, tt_35, tt_36, tt_37, tt_38, tt_39, tt_41, tt_42, tt_44, tt_45, tt_46, tt_47, tt_48, tt_49, tt_50, tt_51, tt_52, tt_53, tt_54, tt_55, tt_56, tt_57, tt_58, tt_59, tt_60, tt_61, tt_62, tt_63, tt_64, tt_65, tt_66, tt_67, tt_68, tt_69, tt_70, tt_71, tt_72, tt_73, tt_74, tt_75, tt_78, tt_79, tt_80, tt_81, tt_82, tt_83, tt_84, tt_85, tt_86, tt_87, tt_88, tt_89, tt_90, tt_91]
  have hm := mul88 ha hb
  rw [IntWalk.i64_in (a * b) (by omega)]
  exact ⟨⟨by omega, by omega, by omega, by omega⟩, rfl, rfl⟩
def E_empty : List V → Boxes → Toks → Name → Option Ent
  | [.c (.d (.int .i64 a)), .c (.d (.int .i64 b))], [], [], nF => some ⟨(1 ≤ a ∧ a ≤ 8) ∧ (1 ≤ b ∧ b ≤ 8), .agg [.d (.int .i64 a), .d (.int .i64 b), .arr nF (a * b).toNat], [], [(nF, ⟨true, 1, (LI .i64 (List.replicate (a * b).toNat 0))⟩)]⟩
  | _, _, _, _ => none
theorem E_empty_eq {a b : Int}  {nF : Name} : E_empty [.c (.d (.int .i64 a)), .c (.d (.int .i64 b))] [] [] nF = some ⟨(1 ≤ a ∧ a ≤ 8) ∧ (1 ≤ b ∧ b ≤ 8), .agg [.d (.int .i64 a), .d (.int .i64 b), .arr nF (a * b).toNat], [], [(nF, ⟨true, 1, (LI .i64 (List.replicate (a * b).toNat 0))⟩)]⟩ := Eq.trans rfl rfl
theorem E_empty_ok : Snd Try.prog 39 E_empty := by
  intro vs b k n e h hn hp
  unfold E_empty at h
  split at h
  · cases h; obtain ⟨hp0, hp1⟩ := hp; exact Spec.ren1 (spec_empty _ _ hp0 hp1) 9 (by simp [supOK, V.names, C.names, namesB, namesK]) (Nat.le_of_eq hn) 
  · cases h

theorem spec_rowsL (a b : Int) (l : List Int) (ha : 1 ≤ a ∧ a ≤ 8) (hb : 1 ≤ b ∧ b ≤ 8) (hl : l.length = a.toNat * b.toNat) : Spec Try.prog 0 34 [.agg [.d (.int .i64 a), .d (.int .i64 b), .d (.list (LI .i64 l))]] [] [] (vL (LL .i64 (rowsL a.toNat l b.toNat))) [] [] := by
  refine spec_of_E (X := ⟨Try.prog, tt, Try.f34.ntmps, 1, fun s => if s = 7 then 2 else 0, (tab [])⟩) (M := [(5, [0, 0, 0, 0, 0, 8589897247, 0, 0, 0, 0, 0, 8578493983, 0, 0, 0, 0, 0, 7550889503, 0, 0, 0]), (1000007, [2])]) (m := 3615) rfl rfl ⟨tt_ok, tab_ok tabs_nil _ rfl rfl⟩ tt_mixed Try.func34 rfl (by decide) (by show (1 : Nat) ≤ _; exact Nat.le_of_ble_eq_true rfl) ⟨by simp [V.has, C.has], by simp [C.has], by simp⟩ ?_
  simp only [↓gPre, gPost, handV, V.bufs, buildArr, toCs, List.set_cons_succ, List.set_cons_zero, List.foldr_cons, List.foldr_nil, List.append_eq, Nat.reduceShiftRight, Nat.reduceMod, List.mem_cons, addB, addK, zeroOp, callSem, resName, keepsB, newB, V.pure, C.pure, V.ptrs, C.ptrs, C.bufs, appendSem, dstOk, lk, V.cells, Op.eff, partV, partD, cut, lay, zeroD, C.toDs, C.toD, V.toD, toDs, buildCells, List.flatMap_nil, List.flatMap_cons, List.all_nil, List.all_cons, List.map_nil, List.map_cons, List.zip_cons_cons, List.zip_nil_left, List.nil_append, List.append_nil, List.cons_append, List.drop_zero, List.drop_succ_cons, List.take_succ_cons, List.take_zero, List.length_cons, List.length_nil, List.getElem?_cons_succ, List.getElem?_cons_zero, Option.getD_some, Option.getD_none, Option.map_some, Option.map_none, Option.some.injEq, Option.isSome_none, Option.isSome_some, Option.toList_some, Option.toList_none, if_true, if_false, ↓reduceIte, reduceCtorEq, Nat.reduceEqDiff, Nat.reduceLT, Nat.reduceLeDiff, List.not_mem_nil, false_implies, implies_true, true_and, and_true, forall_const, Nat.succ_ne_self, Bool.false_eq_true, Bool.true_and, Bool.and_true, eq_self, ne_eq, not_true_eq_false, not_false_eq_true, or_true, true_or, and_self, imp_self, bne_self_eq_false, beq_self_eq_true, Bool.or_false, Bool.false_or, Bool.and_false, Bool.false_and, false_or, or_false, Nat.reduceAdd, Nat.reduceMul, beq_true, beq_false, Name.mk.injEq, decide_true, decide_false, Bool.or_true, Bool.true_or, Bool.or_self, Bool.not_eq_true', Bool.not_true, Bool.not_false, Bool.true_eq_false, Bool.cond_true_left, Bool.cond_false_right, Nat.zero_add, Int.reduceLE, Int.reduceLT, Int.reduceNeg, Int.reduceAdd, Int.reduceToNat, List.range_succ, List.range_zero, Int.toNat_natCast, List.mem_nil_iff, List.mem_append, Try.ntmps34, Try.results34, tt_1, tt_2, tt_3, tt_4, tt_5, tt_6, tt_7, tt_8, tt_12, tt_15, tt_16, tt_17, tt_18, tt_19, tt_21, tt_22, tt_23, tt_24, tt_25, tt_26, tt_27, tt_28, tt_29, tt_30, tt_31, tt_32, tt_33, tt_34, tt_35, tt_36, tt_37, tt_38, tt_39, tt_41, tt_42, tt_44, tt_45, tt_46, tt_47, tt_48, tt_49, tt_50, tt_51, tt_52, tt_53, tt_54, tt_55, tt_56, tt_57, tt_58, tt_59, tt_60, tt_61, tt_62, tt_63, tt_64, tt_65, tt_66, tt_67, tt_68, tt_69, tt_70, tt_71, tt_72, tt_73, tt_74, tt_75, tt_78, tt_79, tt_80, tt_81, tt_82, tt_83, tt_84, tt_85, tt_86, tt_87, tt_88, tt_89, tt_90, tt_91]
  refine ⟨by omega, ?_⟩
  refine ELoop_keep (fun g => ⟨[(10, vI .i64 (g : Nat))], [], [(⟨1, 7⟩, ⟨true, 1, LL .i64 (rowsP a.toNat l b.toNat g)⟩)]⟩) (fun g => g ≤ b.toNat) (fun g => b.toNat - g) (· + 1) 0 (Nat.zero_le _) ?_ ?_
  · simp only [↓gPre, gPost, handV, V.bufs, buildArr, toCs, List.set_cons_succ, List.set_cons_zero, List.foldr_cons, List.foldr_nil, List.append_eq, Nat.reduceShiftRight, Nat.reduceMod, List.mem_cons, addB, addK, zeroOp, callSem, resName, keepsB, newB, V.pure, C.pure, V.ptrs, C.ptrs, C.bufs, appendSem, dstOk, lk, V.cells, Op.eff, partV, partD, cut, lay, zeroD, C.toDs, C.toD, V.toD, toDs, buildCells, List.flatMap_nil, List.flatMap_cons, List.all_nil, List.all_cons, List.map_nil, List.map_cons, List.zip_cons_cons, List.zip_nil_left, List.nil_append, List.append_nil, List.cons_append, List.drop_zero, List.drop_succ_cons, List.take_succ_cons, List.take_zero, List.length_cons, List.length_nil, List.getElem?_cons_succ, List.getElem?_cons_zero, Option.getD_some, Option.getD_none, Option.map_some, Option.map_none, Option.some.injEq, Option.isSome_none, Option.isSome_some, Option.toList_some, Option.toList_none, if_true, if_false, ↓reduceIte, reduceCtorEq, Nat.reduceEqDiff, Nat.reduceLT, Nat.reduceLeDiff, List.not_mem_nil, false_implies, implies_true, true_and, and_true, forall_const, Nat.succ_ne_self, Bool.false_eq_true, Bool.true_and, Bool.and_true, eq_self, ne_eq, not_true_eq_false, not_false_eq_true, or_true, true_or, and_self, imp_self, bne_self_eq_false, beq_self_eq_true, Bool.or_false, Bool.false_or, Bool.and_false, Bool.false_and, false_or, or_false, Nat.reduceAdd, Nat.reduceMul, beq_true, beq_false, Name.mk.injEq, decide_true, decide_false, Bool.or_true, Bool.true_or, Bool.or_self, Bool.not_eq_true', Bool.not_true, Bool.not_false, Bool.true_eq_false, Bool.cond_true_left, Bool.cond_false_right, Nat.zero_add, Int.reduceLE, Int.reduceLT, Int.reduceNeg, Int.reduceAdd, Int.reduceToNat, List.range_succ, List.range_zero, Int.toNat_natCast, List.mem_nil_iff, List.mem_append, Try.ntmps34, Try.results34, tt_1, tt_2, tt_3, tt_4, tt_5, tt_6, tt_7, tt_8, tt_12, tt_15, tt_16, tt_17, tt_18, tt_19, tt_21, tt_22, tt_23, tt_24, tt_25, tt_26, tt_27, tt_28, tt_29, tt_30, tt_31, tt_32, tt_33, tt_34, tt_35, tt_36, tt_37, tt_38, tt_39, tt_41, tt_42, tt_44, tt_45, tt_46, tt_47, tt_48, tt_49, tt_50, tt_51, tt_52, tt_53, tt_54, tt_55, tt_56, tt_57, tt_58, tt_59, tt_60, tt_61, tt_62, tt_63, tt_64, tt_65, tt_66, tt_67, tt_68, tt_69, tt_70, tt_71, tt_72, tt_73, tt_74, tt_75, tt_78, tt_79, tt_80, tt_81, tt_82, tt_83, tt_84, tt_85, tt_86, tt_87, tt_88, tt_89, tt_90, tt_91]
    rw [rowsP_zero, LL_rep]
    exact ⟨rfl, rfl⟩
  intro g hg
  simp only [↓gPre, gPost, handV, V.bufs, buildArr, toCs, List.set_cons_succ, List.set_cons_zero, List.foldr_cons, List.foldr_nil, List.append_eq, Nat.reduceShiftRight, Nat.reduceMod, List.mem_cons, addB, addK, zeroOp, callSem, resName, keepsB, newB, V.pure, C.pure, V.ptrs, C.ptrs, C.bufs, appendSem, dstOk, lk, V.cells, Op.eff, partV, partD, cut, lay, zeroD, C.toDs, C.toD, V.toD, toDs, buildCells, List.flatMap_nil, List.flatMap_cons, List.all_nil, List.all_cons, List.map_nil, List.map_cons, List.zip_cons_cons, List.zip_nil_left, List.nil_append, List.append_nil, List.cons_append, List.drop_zero, List.drop_succ_cons, List.take_succ_cons, List.take_zero, List.length_cons, List.length_nil, List.getElem?_cons_succ, List.getElem?_cons_zero, Option.getD_some, Option.getD_none, Option.map_some, Option.map_none, Option.some.injEq, Option.isSome_none, Option.isSome_some, Option.toList_some, Option.toList_none, if_true, if_false, ↓reduceIte, reduceCtorEq, Nat.reduceEqDiff, Nat.reduceLT, Nat.reduceLeDiff, List.not_mem_nil, false_implies, implies_true, true_and, and_true, forall_const, Nat.succ_ne_self, Bool.false_eq_true, Bool.true_and, Bool.and_true, eq_self, ne_eq, not_true_eq_false, not_false_eq_true, or_true, true_or, and_self, imp_self, bne_self_eq_false, beq_self_eq_true, Bool.or_false, Bool.false_or, Bool.and_false, Bool.false_and, false_or, or_false, Nat.reduceAdd, Nat.reduceMul, beq_true, beq_false, Name.mk.injEq, decide_true, decide_false, Bool.or_true, Bool.true_or, Bool.or_self, Bool.not_eq_true', Bool.not_true, Bool.not_false, Bool.true_eq_false, Bool.cond_true_left, Bool.cond_false_right, Nat.zero_add, Int.reduceLE, Int.reduceLT, Int.reduceNeg, Int.reduceAdd, Int.reduceToNat, List.range_succ, List.range_zero, Int.toNat_natCast, List.mem_nil_iff, List.mem_append, Try.ntmps34, Try.results34, tt_1, tt_2, tt_3, tt_4, tt_5, tt_6, tt_7, tt_8, tt_12, tt_15, tt_16, tt_17, tt_18, tt_19, tt_21, tt_22, tt_23, tt_24, tt_25, tt_26, tt_27, tt_28, tt_29, tt_30, tt_31, tt_32, tt_33, tt_34, tt_35, tt_36, tt_37, tt_38, tt_39, tt_41, tt_42, tt_44, tt_45, tt_46, tt_47, tt_48, tt_49, tt_50, tt_51, tt_52, tt_53, tt_54, tt_55, tt_56, tt_57, tt_58, tt_59, tt_60, tt_61, tt_62, tt_63, tt_64, tt_65, tt_66, tt_67, tt_68, tt_69, tt_70, tt_71, tt_72, tt_73, tt_74, tt_75, tt_78, tt_79, tt_80, tt_81, tt_82, tt_83, tt_84, tt_85, tt_86, tt_87, tt_88, tt_89, tt_90, tt_91]
  refine ⟨fun h => ?_, fun h => ?_⟩
  · skip
    have hlt : g < b.toNat := by have := of_decide_eq_true h; omega
    have hA : ((a.toNat : Nat) : Int) = a := by omega
    have hga : g * a.toNat ≤ 8 * 8 := Nat.mul_le_mul (by omega) (by omega)
    have hle : (g + 1) * a.toNat ≤ b.toNat * a.toNat := Nat.mul_le_mul_right _ hlt
    rw [Nat.add_mul, Nat.one_mul, Nat.mul_comm b.toNat] at hle
    have e1 : IntKind.i64.wrap ((g : Int) * a) = ((g * a.toNat : Nat) : Int) := by
      have : (g : Int) * a = ((g * a.toNat : Nat) : Int) := by rw [Int.natCast_mul, hA]
      rw [this, IntWalk.i64_in _ (by omega)]
    have e2 : IntKind.i64.wrap (IntKind.i64.wrap ((g : Int) + 1) * a) = ((g * a.toNat + a.toNat : Nat) : Int) := by
      have : ((g : Int) + 1) * a = ((g * a.toNat + a.toNat : Nat) : Int) := by rw [Int.add_mul, Int.one_mul, Int.natCast_add, Int.natCast_mul, hA]
      rw [IntWalk.i64_in ((g : Int) + 1) (by omega), this, IntWalk.i64_in _ (by omega)]
    rw [e1, e2]
    have hr : List.take (((g * a.toNat + a.toNat : Nat) : Int).toNat - ((g * a.toNat : Nat) : Int).toNat) (List.drop ((g * a.toNat : Nat) : Int).toNat l) = rowL a.toNat l g := by
      rw [Int.toNat_natCast, Int.toNat_natCast, Nat.add_sub_cancel_left]
      rfl
    rw [hr, ← rowsP_succ]
    exact ⟨⟨by omega, by omega, by omega, by omega⟩, by omega, by rw [rowsP_len]; exact hlt, ⟨(wrapN _ (by omega)).symm, rfl⟩, by omega, by omega⟩
  · have : g = b.toNat := by have := of_decide_eq_false h; omega
    rw [this, rowsP_all]
    exact ⟨by simp [rowsL], rfl⟩
def E_rowsL : List V → Boxes → Toks → Name → Option Ent
  | [.agg [.d (.int .i64 a), .d (.int .i64 b), .d (.list q_l)]], [], [], _ => some ⟨(1 ≤ a ∧ a ≤ 8) ∧ (1 ≤ b ∧ b ≤ 8) ∧ (ints q_l).length = a.toNat * b.toNat ∧ q_l = LI .i64 (ints q_l), vL (LL .i64 (rowsL a.toNat (ints q_l) b.toNat)), [], []⟩
  | _, _, _, _ => none
theorem E_rowsL_eq {a b : Int}  {q_l : List D} {nF : Name} : E_rowsL [.agg [.d (.int .i64 a), .d (.int .i64 b), .d (.list q_l)]] [] [] nF = some ⟨(1 ≤ a ∧ a ≤ 8) ∧ (1 ≤ b ∧ b ≤ 8) ∧ (ints q_l).length = a.toNat * b.toNat ∧ q_l = LI .i64 (ints q_l), vL (LL .i64 (rowsL a.toNat (ints q_l) b.toNat)), [], []⟩ := Eq.trans rfl rfl
theorem E_rowsL_ok : Snd Try.prog 34 E_rowsL := by
  intro vs b k n e h hn hp
  unfold E_rowsL at h
  split at h
  · cases h; obtain ⟨hp0, hp1, hp2, hq0⟩ := hp; obtain ⟨_, rfl⟩ := LI_ex hq0; simp only [ints_LI, bys_LB, blks_LK, lls_LL] at hp0 hp1 hp2 ⊢; exact (spec_rowsL _ _ _ hp0 hp1 hp2).lift rfl _
  · cases h

theorem spec_rowsA (a b : Int) (q : Nat) (l : List Int) (ha : 1 ≤ a ∧ a ≤ 8) (hb : 1 ≤ b ∧ b ≤ 8) (hl : q = a.toNat * b.toNat) : Spec Try.prog 0 34 [.agg [.d (.int .i64 a), .d (.int .i64 b), .arr ⟨0, 0⟩ q]] [] [(⟨0, 0⟩, ⟨true, 1, (LI .i64 l)⟩)] (.c (.rws ⟨0, 0⟩ a.toNat b.toNat)) [] [(⟨0, 0⟩, ⟨true, 1, (LI .i64 l)⟩)] := by
  refine spec_of_E (X := ⟨Try.prog, tt, Try.f34.ntmps, 1, fun s => if s = 7 then 5 else 0, (tab [])⟩) (M := [(5, [0, 0, 0, 0, 0, 8589897247, 0, 0, 0, 0, 0, 8578493983, 0, 0, 0, 0, 0, 7550889503, 0, 0, 0]), (1000007, [2])]) (m := 3615) rfl rfl ⟨tt_ok, tab_ok tabs_nil _ rfl rfl⟩ tt_mixed Try.func34 rfl (by decide) (by show (1 : Nat) ≤ _; exact Nat.le_of_ble_eq_true rfl) ⟨by simp [V.has, C.has], by simp [C.has], by simp⟩ ?_
  simp only [↓gPre, gPost, handV, V.bufs, buildArr, toCs, List.set_cons_succ, List.set_cons_zero, List.foldr_cons, List.foldr_nil, List.append_eq, Nat.reduceShiftRight, Nat.reduceMod, List.mem_cons, addB, addK, zeroOp, callSem, resName, keepsB, newB, V.pure, C.pure, V.ptrs, C.ptrs, C.bufs, appendSem, dstOk, lk, V.cells, Op.eff, partV, partD, cut, lay, zeroD, C.toDs, C.toD, V.toD, toDs, buildCells, List.flatMap_nil, List.flatMap_cons, List.all_nil, List.all_cons, List.map_nil, List.map_cons, List.zip_cons_cons, List.zip_nil_left, List.nil_append, List.append_nil, List.cons_append, List.drop_zero, List.drop_succ_cons, List.take_succ_cons, List.take_zero, List.length_cons, List.length_nil, List.getElem?_cons_succ, List.getElem?_cons_zero, Option.getD_some, Option.getD_none, Option.map_some, Option.map_none, Option.some.injEq, Option.isSome_none, Option.isSome_some, Option.toList_some, Option.toList_none, if_true, if_false, ↓reduceIte, reduceCtorEq, Nat.reduceEqDiff, Nat.reduceLT, Nat.reduceLeDiff, List.not_mem_nil, false_implies, implies_true, true_and, and_true, forall_const, Nat.succ_ne_self, Bool.false_eq_true, Bool.true_and, Bool.and_true, eq_self, ne_eq, not_true_eq_false, not_false_eq_true, or_true, true_or, and_self, imp_self, bne_self_eq_false, beq_self_eq_true, Bool.or_false, Bool.false_or, Bool.and_false, Bool.false_and, false_or, or_false, Nat.reduceAdd, Nat.reduceMul, beq_true, beq_false, Name.mk.injEq, decide_true, decide_false, Bool.or_true, Bool.true_or, Bool.or_self, Bool.not_eq_true', Bool.not_true, Bool.not_false, Bool.true_eq_false, Bool.cond_true_left, Bool.cond_false_right, Nat.zero_add, Int.reduceLE, Int.reduceLT, Int.reduceNeg, Int.reduceAdd, Int.reduceToNat, List.range_succ, List.range_zero, Int.toNat_natCast, List.mem_nil_iff, List.mem_append, Try.ntmps34, Try.results34, tt_1, tt_2, tt_3, tt_4, tt_5, tt_6, tt_7, tt_8, tt_12, tt_15, tt_16, tt_17, tt_18, tt_19, tt_21, tt_22, tt_23, tt_24, tt_25, tt_26, tt_27, tt_28, tt_29, tt_30, tt_31, tt_32, tt_33, tt_34, tt_35, tt_36, tt_37, tt_38, tt_39, tt_41, tt_42, tt_44, tt_45, tt_46, tt_47, tt_48, tt_49, tt_50, tt_51, tt_52, tt_53, tt_54, tt_55, tt_56, tt_57, tt_58, tt_59, tt_60, tt_61, tt_62, tt_63, tt_64, tt_65, tt_66, tt_67, tt_68, tt_69, tt_70, tt_71, tt_72, tt_73, tt_74, tt_75, tt_78, tt_79, tt_80, tt_81, tt_82, tt_83, tt_84, tt_85, tt_86, tt_87, tt_88, tt_89, tt_90, tt_91]
  refine ⟨by omega, ?_⟩
  refine ELoop_keep (fun g => ⟨[(10, vI .i64 (g : Nat))], [(⟨1, 7⟩, tabP ⟨0, 0⟩ a.toNat b.toNat g)], []⟩) (fun g => g ≤ b.toNat) (fun g => b.toNat - g) (· + 1) 0 (Nat.zero_le _) ?_ ?_
  · simp only [↓gPre, gPost, handV, V.bufs, buildArr, toCs, List.set_cons_succ, List.set_cons_zero, List.foldr_cons, List.foldr_nil, List.append_eq, Nat.reduceShiftRight, Nat.reduceMod, List.mem_cons, addB, addK, zeroOp, callSem, resName, keepsB, newB, V.pure, C.pure, V.ptrs, C.ptrs, C.bufs, appendSem, dstOk, lk, V.cells, Op.eff, partV, partD, cut, lay, zeroD, C.toDs, C.toD, V.toD, toDs, buildCells, List.flatMap_nil, List.flatMap_cons, List.all_nil, List.all_cons, List.map_nil, List.map_cons, List.zip_cons_cons, List.zip_nil_left, List.nil_append, List.append_nil, List.cons_append, List.drop_zero, List.drop_succ_cons, List.take_succ_cons, List.take_zero, List.length_cons, List.length_nil, List.getElem?_cons_succ, List.getElem?_cons_zero, Option.getD_some, Option.getD_none, Option.map_some, Option.map_none, Option.some.injEq, Option.isSome_none, Option.isSome_some, Option.toList_some, Option.toList_none, if_true, if_false, ↓reduceIte, reduceCtorEq, Nat.reduceEqDiff, Nat.reduceLT, Nat.reduceLeDiff, List.not_mem_nil, false_implies, implies_true, true_and, and_true, forall_const, Nat.succ_ne_self, Bool.false_eq_true, Bool.true_and, Bool.and_true, eq_self, ne_eq, not_true_eq_false, not_false_eq_true, or_true, true_or, and_self, imp_self, bne_self_eq_false, beq_self_eq_true, Bool.or_false, Bool.false_or, Bool.and_false, Bool.false_and, false_or, or_false, Nat.reduceAdd, Nat.reduceMul, beq_true, beq_false, Name.mk.injEq, decide_true, decide_false, Bool.or_true, Bool.true_or, Bool.or_self, Bool.not_eq_true', Bool.not_true, Bool.not_false, Bool.true_eq_false, Bool.cond_true_left, Bool.cond_false_right, Nat.zero_add, Int.reduceLE, Int.reduceLT, Int.reduceNeg, Int.reduceAdd, Int.reduceToNat, List.range_succ, List.range_zero, Int.toNat_natCast, List.mem_nil_iff, List.mem_append, Try.ntmps34, Try.results34, tt_1, tt_2, tt_3, tt_4, tt_5, tt_6, tt_7, tt_8, tt_12, tt_15, tt_16, tt_17, tt_18, tt_19, tt_21, tt_22, tt_23, tt_24, tt_25, tt_26, tt_27, tt_28, tt_29, tt_30, tt_31, tt_32, tt_33, tt_34, tt_35, tt_36, tt_37, tt_38, tt_39, tt_41, tt_42, tt_44, tt_45, tt_46, tt_47, tt_48, tt_49, tt_50, tt_51, tt_52, tt_53, tt_54, tt_55, tt_56, tt_57, tt_58, tt_59, tt_60, tt_61, tt_62, tt_63, tt_64, tt_65, tt_66, tt_67, tt_68, tt_69, tt_70, tt_71, tt_72, tt_73, tt_74, tt_75, tt_78, tt_79, tt_80, tt_81, tt_82, tt_83, tt_84, tt_85, tt_86, tt_87, tt_88, tt_89, tt_90, tt_91]
    rw [tabP_zero]
    exact ⟨rfl, leCs_refl _⟩
  intro g hg
  simp only [↓gPre, gPost, handV, V.bufs, buildArr, toCs, List.set_cons_succ, List.set_cons_zero, List.foldr_cons, List.foldr_nil, List.append_eq, Nat.reduceShiftRight, Nat.reduceMod, List.mem_cons, addB, addK, zeroOp, callSem, resName, keepsB, newB, V.pure, C.pure, V.ptrs, C.ptrs, C.bufs, appendSem, dstOk, lk, V.cells, Op.eff, partV, partD, cut, lay, zeroD, C.toDs, C.toD, V.toD, toDs, buildCells, List.flatMap_nil, List.flatMap_cons, List.all_nil, List.all_cons, List.map_nil, List.map_cons, List.zip_cons_cons, List.zip_nil_left, List.nil_append, List.append_nil, List.cons_append, List.drop_zero, List.drop_succ_cons, List.take_succ_cons, List.take_zero, List.length_cons, List.length_nil, List.getElem?_cons_succ, List.getElem?_cons_zero, Option.getD_some, Option.getD_none, Option.map_some, Option.map_none, Option.some.injEq, Option.isSome_none, Option.isSome_some, Option.toList_some, Option.toList_none, if_true, if_false, ↓reduceIte, reduceCtorEq, Nat.reduceEqDiff, Nat.reduceLT, Nat.reduceLeDiff, List.not_mem_nil, false_implies, implies_true, true_and, and_true, forall_const, Nat.succ_ne_self, Bool.false_eq_true, Bool.true_and, Bool.and_true, eq_self, ne_eq, not_true_eq_false, not_false_eq_true, or_true, true_or, and_self, imp_self, bne_self_eq_false, beq_self_eq_true, Bool.or_false, Bool.false_or, Bool.and_false, Bool.false_and, false_or, or_false, Nat.reduceAdd, Nat.reduceMul, beq_true, beq_false, Name.mk.injEq, decide_true, decide_false, Bool.or_true, Bool.true_or, Bool.or_self, Bool.not_eq_true', Bool.not_true, Bool.not_false, Bool.true_eq_false, Bool.cond_true_left, Bool.cond_false_right, Nat.zero_add, Int.reduceLE, Int.reduceLT, Int.reduceNeg, Int.reduceAdd, Int.reduceToNat, List.range_succ, List.range_zero, Int.toNat_natCast, List.mem_nil_iff, List.mem_append, Try.ntmps34, Try.results34, tt_1, tt_2, tt_3, tt_4, tt_5, tt_6, tt_7, tt_8, tt_12, tt_15, tt_16, tt_17, tt_18, tt_19, tt_21, tt_22, tt_23, tt_24, tt_25, tt_26, tt_27, tt_28, tt_29, tt_30, tt_31, tt_32, tt_33, tt_34, tt_35, tt_36, tt_37, tt_38, tt_39, tt_41, tt_42, tt_44, tt_45, tt_46, tt_47, tt_48, tt_49, tt_50, tt_51, tt_52, tt_53, tt_54, tt_55, tt_56, tt_57, tt_58, tt_59, tt_60, tt_61, tt_62, tt_63, tt_64, tt_65, tt_66, tt_67, tt_68, tt_69, tt_70, tt_71, tt_72, tt_73, tt_74, tt_75, tt_78, tt_79, tt_80, tt_81, tt_82, tt_83, tt_84, tt_85, tt_86, tt_87, tt_88, tt_89, tt_90, tt_91]
  refine ⟨fun h => ?_, fun h => ?_⟩
  · skip
    have hlt : g < b.toNat := by have := of_decide_eq_true h; omega
    have hA : ((a.toNat : Nat) : Int) = a := by omega
    have hga : g * a.toNat ≤ 8 * 8 := Nat.mul_le_mul (by omega) (by omega)
    have hle : (g + 1) * a.toNat ≤ b.toNat * a.toNat := Nat.mul_le_mul_right _ hlt
    rw [Nat.add_mul, Nat.one_mul, Nat.mul_comm b.toNat] at hle
    have e1 : IntKind.i64.wrap ((g : Int) * a) = ((g * a.toNat : Nat) : Int) := by
      have : (g : Int) * a = ((g * a.toNat : Nat) : Int) := by rw [Int.natCast_mul, hA]
      rw [this, IntWalk.i64_in _ (by omega)]
    have e2 : IntKind.i64.wrap (IntKind.i64.wrap ((g : Int) + 1) * a) = ((g * a.toNat + a.toNat : Nat) : Int) := by
      have : ((g : Int) + 1) * a = ((g * a.toNat + a.toNat : Nat) : Int) := by rw [Int.add_mul, Int.one_mul, Int.natCast_add, Int.natCast_mul, hA]
      rw [IntWalk.i64_in ((g : Int) + 1) (by omega), this, IntWalk.i64_in _ (by omega)]
    rw [e1, e2]
    have hv : (((g * a.toNat + a.toNat : Nat) : Int) - ((g * a.toNat : Nat) : Int)).toNat = a.toNat := by omega
    rw [hv, Int.toNat_natCast, if_pos (by rw [tabP_len]; omega), tabP_succ _ _ _ _ hlt]
    exact ⟨⟨by omega, by omega, by omega⟩, by omega, ⟨(wrapN _ (by omega)).symm, leCs_refl _⟩, by omega, by omega⟩
  · have : g = b.toNat := by have := of_decide_eq_false h; omega
    rw [this, tabP_all]
    exact ⟨⟨0, 0⟩, a.toNat, rfl, rfl⟩
def E_rowsA : List V → Boxes → Toks → Name → Option Ent
  | [.agg [.d (.int .i64 a), .d (.int .i64 b), .arr n0 q]], [], [(j0, ⟨true, 1, q_l⟩)], _ => some ⟨(1 ≤ a ∧ a ≤ 8) ∧ (1 ≤ b ∧ b ≤ 8) ∧ q = a.toNat * b.toNat ∧ n0.lv ≤ 1 ∧ j0 = n0 ∧ q_l = LI .i64 (ints q_l), .c (.rws n0 a.toNat b.toNat), [], [(n0, ⟨true, 1, (LI .i64 (ints q_l))⟩)]⟩
  | _, _, _, _ => none
theorem E_rowsA_eq {a b : Int} {q : Nat}  {q_l : List D} {n0 : Name} {j0 : Name} {nF : Name} : E_rowsA [.agg [.d (.int .i64 a), .d (.int .i64 b), .arr n0 q]] [] [(j0, ⟨true, 1, q_l⟩)] nF = some ⟨(1 ≤ a ∧ a ≤ 8) ∧ (1 ≤ b ∧ b ≤ 8) ∧ q = a.toNat * b.toNat ∧ n0.lv ≤ 1 ∧ j0 = n0 ∧ q_l = LI .i64 (ints q_l), .c (.rws n0 a.toNat b.toNat), [], [(n0, ⟨true, 1, (LI .i64 (ints q_l))⟩)]⟩ := Eq.trans rfl rfl
theorem E_rowsA_ok : Snd Try.prog 34 E_rowsA := by
  intro vs b k n e h hn hp
  unfold E_rowsA at h
  split at h
  · cases h; obtain ⟨hp0, hp1, hp2, hl0, rfl, hq0⟩ := hp; obtain ⟨_, rfl⟩ := LI_ex hq0; simp only [ints_LI, bys_LB, blks_LK, lls_LL] at hp0 hp1 hp2 ⊢; exact Spec.ren1 (spec_rowsA _ _ _ _ hp0 hp1 hp2) 0 (by simp [supOK, V.names, C.names, namesB, namesK]) hl0 
  · cases h

def E_rows : List V → Boxes → Toks → Name → Option Ent := fun vs b k n => (E_rowsL vs b k n).orElse fun _ => E_rowsA vs b k n
theorem E_rows_eq {a b : Int}  {q_l : List D} {nF : Name} : E_rows [.agg [.d (.int .i64 a), .d (.int .i64 b), .d (.list q_l)]] [] [] nF = some ⟨(1 ≤ a ∧ a ≤ 8) ∧ (1 ≤ b ∧ b ≤ 8) ∧ (ints q_l).length = a.toNat * b.toNat ∧ q_l = LI .i64 (ints q_l), vL (LL .i64 (rowsL a.toNat (ints q_l) b.toNat)), [], []⟩ := Eq.trans rfl rfl
theorem E_rows_eqB {a b : Int} {q : Nat}  {q_l : List D} {n0 : Name} {j0 : Name} {nF : Name} : E_rows [.agg [.d (.int .i64 a), .d (.int .i64 b), .arr n0 q]] [] [(j0, ⟨true, 1, q_l⟩)] nF = some ⟨(1 ≤ a ∧ a ≤ 8) ∧ (1 ≤ b ∧ b ≤ 8) ∧ q = a.toNat * b.toNat ∧ n0.lv ≤ 1 ∧ j0 = n0 ∧ q_l = LI .i64 (ints q_l), .c (.rws n0 a.toNat b.toNat), [], [(n0, ⟨true, 1, (LI .i64 (ints q_l))⟩)]⟩ := Eq.trans rfl rfl
theorem E_rows_ok : Snd Try.prog 34 E_rows := by
  intro vs b k n e h hn hp
  unfold E_rows at h
  cases ha : E_rowsL vs b k n with
  | some x => rw [ha] at h; cases h; exact E_rowsL_ok vs b k n _ ha hn hp
  | none => rw [ha] at h; exact E_rowsA_ok vs b k n e h hn hp

end Go.Vam
