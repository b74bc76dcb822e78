/- Matrices. Conditions: none. -/
import Derived.Test.YtmliamkbpbdlbaaMixB
set_option linter.unusedVariables false
set_option linter.defProp false
set_option linter.unusedSimpArgs false
set_option maxRecDepth 40000
set_option maxHeartbeats 4000000
namespace Go.Vam
open Go.Proofs

def coefX (x : Int) : Bool := decide (-131072 ≤ x) && decide (x ≤ 131072)
def mxB (a b : Int) (n : Nat) : Bool := decide (a < 1) || decide (8 < a) || decide (b < 1) || decide (8 < b) || (n : Int) != IntKind.i64.wrap (a * b)
def mxV (a b : Int) (l : List Int) : Bool := !mxB a b l.length && l.all coefX
theorem coefX_in {x : Int} (h : coefX x = true) : -131072 ≤ x ∧ x ≤ 131072 := by simpa [coefX] using h
theorem mul88 {a b : Int} (ha : 1 ≤ a ∧ a ≤ 8) (hb : 1 ≤ b ∧ b ≤ 8) : 1 ≤ a * b ∧ a * b ≤ 64 := by
  have h1 : a * b ≤ 8 * 8 := Int.mul_le_mul ha.2 hb.2 (by omega) (by decide)
  have h2 : 1 * 1 ≤ a * b := Int.mul_le_mul ha.1 hb.1 (by decide) (by omega)
  omega
theorem mxB_in {a b : Int} {n : Nat} (h : mxB a b n = false) : (1 ≤ a ∧ a ≤ 8) ∧ (1 ≤ b ∧ b ≤ 8) ∧ n = a.toNat * b.toNat := by
  simp only [mxB, Bool.or_eq_false_iff, decide_eq_false_iff_not, bne_eq_false_iff_eq] at h
  obtain ⟨⟨⟨⟨h1, h2⟩, h3⟩, h4⟩, h5⟩ := h
  have hm := mul88 (a := a) (b := b) (by omega) (by omega)
  rw [IntWalk.i64_in (a * b) (by omega)] at h5
  refine ⟨by omega, by omega, ?_⟩
  have e1 : a = (a.toNat : Int) := by omega
  have e2 : b = (b.toNat : Int) := by omega
  rw [e1, e2, ← Int.natCast_mul] at h5
  exact_mod_cast h5
theorem mxV_in {a b : Int} {l : List Int} (h : mxV a b l = true) : (1 ≤ a ∧ a ≤ 8) ∧ (1 ≤ b ∧ b ≤ 8) ∧ l.length = a.toNat * b.toNat ∧ l.all coefX = true := by
  simp only [mxV, Bool.and_eq_true, Bool.not_eq_true'] at h
  obtain ⟨h1, h2, h3⟩ := mxB_in h.1
  exact ⟨h1, h2, h3, h.2⟩
theorem allSnocC {l : List Int} {n : Nat} (h : n < l.length) (ha : (l.take n).all coefX = true) (hx : coefX l[n] = true) : (l.take (n + 1)).all coefX = true := by
  rw [List.take_add_one, List.getElem?_eq_getElem h, List.all_append, ha]
  simpa using hx
theorem allBadC {l : List Int} {n : Nat} (h : n < l.length) (hx : coefX l[n] = false) : l.all coefX = false := by
  rw [List.all_eq_false]
  exact ⟨l[n], List.getElem_mem h, by simp [hx]⟩
/-- Rows. -/
def rowL (a : Nat) (l : List Int) (i : Nat) : List Int := (l.drop (i * a)).take a
def rowsL (a : Nat) (l : List Int) (n : Nat) : List (List Int) := (List.range n).map (rowL a l)
def rowsP (a : Nat) (l : List Int) (n g : Nat) : List (List Int) := (List.range n).map fun i => if i < g then rowL a l i else []
theorem rowsP_zero (a : Nat) (l : List Int) (n : Nat) : rowsP a l n 0 = List.replicate n [] := by
  apply List.ext_getElem
  · simp [rowsP]
  · intro i h1 h2; simp [rowsP]
theorem rowsP_all (a : Nat) (l : List Int) (n : Nat) : rowsP a l n n = rowsL a l n := by
  apply List.map_congr_left
  intro i hi
  rw [List.mem_range] at hi
  rw [if_pos hi]
theorem rowsP_len (a : Nat) (l : List Int) (n g : Nat) : (rowsP a l n g).length = n := by simp [rowsP]
theorem rowsP_succ (a : Nat) (l : List Int) (n g : Nat) : rowsP a l n (g + 1) = (rowsP a l n g).set g (rowL a l g) := by
  apply List.ext_getElem
  · simp [rowsP]
  · intro i h1 h2
    simp only [rowsP, List.getElem_map, List.getElem_range, List.getElem_set]
    by_cases e : g = i
    · subst e; simp
    · rw [if_neg e]
      by_cases h : i < g
      · rw [if_pos h, if_pos (by omega)]
      · rw [if_neg h, if_neg (by omega)]
/-- Rows of an array on their way. -/
def tabP (k : Name) (a n g : Nat) : List C := (List.range n).map fun i => if i < g then C.vw k (i * a) a else .nil
theorem tabP_len (k : Name) (a n g : Nat) : (tabP k a n g).length = n := by simp [tabP]
theorem tabP_zero (k : Name) (a n : Nat) : tabP k a n 0 = List.replicate n .nil := by
  apply List.ext_getElem
  · simp [tabP]
  · intro i h1 h2; simp [tabP]
theorem tabP_all (k : Name) (a n : Nat) : tabP k a n n = tabV k a n := by
  apply List.map_congr_left
  intro i hi
  rw [List.mem_range] at hi
  rw [if_pos hi]
theorem lay_one {β : Type} : ∀ (l : List β) (g : Nat) (y : β), g < l.length → lay l g [y] = l.set g y
  | [], _, _, h => absurd h (Nat.not_lt_zero _)
  | x :: l, 0, y, _ => rfl
  | x :: l, g + 1, y, h => by
    show x :: lay l g [y] = x :: l.set g y
    rw [lay_one l g y (by simpa using h)]
theorem tabP_succ (k : Name) (a n g : Nat) (hg : g < n) : lay (tabP k a n g) g [C.vw k (g * a) a] = tabP k a n (g + 1) := by
  rw [lay_one _ _ _ (by rw [tabP_len]; exact hg)]
  apply List.ext_getElem
  · simp [tabP]
  · intro i h1 h2
    simp only [tabP, List.getElem_map, List.getElem_range, List.getElem_set]
    by_cases e : g = i
    · subst e; simp
    · rw [if_neg e]
      by_cases h : i < g
      · rw [if_pos h, if_pos (by omega)]
      · rw [if_neg h, if_neg (by omega)]

theorem spec_mvalid (a b : Int) (l : List Int) (hl : l.length ≤ 1000000) : Spec Try.prog 0 53 [.agg [.d (.int .i64 a), .d (.int .i64 b), .d (.list (LI .i64 l))]] [] [] (vB (mxV a b l)) [] [] := by
  refine spec_of_E (X := ⟨Try.prog, tt, Try.f53.ntmps, 1, fun _ => 0, (tab [])⟩) (M := [(1, [0, 0, 0, 0, 0, 70901320121623, 0, 0, 0, 0, 0, 70901320065047, 0, 0, 0, 0, 0, 70901315928087, 0, 0, 0, 0, 0, 70901127184407, 0, 0, 0, 0, 0])]) (m := 70892730187799) rfl rfl ⟨tt_ok, tab_ok tabs_nil _ rfl rfl⟩ tt_mixed Try.func53 rfl (by decide) (by show (1 : Nat) ≤ _; exact Nat.le_of_ble_eq_true rfl) ⟨fun m hm => (V.bare_has rfl m hm).elim, by simp, by simp⟩ ?_
  simp only [↓gPre, gPost, gCore, gDef, Nat.reduceShiftRight, Nat.reduceMod, if_true, if_false, ↓reduceIte, reduceCtorEq, Nat.reduceEqDiff, Nat.reduceLT, Nat.reduceLeDiff, implies_true, forall_const, eq_self, ne_eq, not_true_eq_false, not_false_eq_true, imp_self, Nat.reduceAdd, Nat.reduceMul, Int.reduceLE, Int.reduceLT, Int.reduceNeg, Int.reduceAdd, Int.reduceToNat, Try.ntmps53, Try.results53, gTT]
  refine ⟨fun h => ?_, fun h => ?_⟩
  · have hc : mxB a b l.length = true := h
    simp [mxV, hc]
  have hc : mxB a b l.length = false := h
  refine ELoop_keep (fun n => ⟨[(37, vI .i64 (n : Nat))], [], []⟩) (fun n => n ≤ l.length ∧ (l.take n).all coefX = true) (fun n => l.length - n) (· + 1) 0 ⟨Nat.zero_le _, rfl⟩ ?_ ?_
  · simp only [↓gPre, gPost, gCore, gDef, Nat.reduceShiftRight, Nat.reduceMod, if_true, if_false, ↓reduceIte, reduceCtorEq, Nat.reduceEqDiff, Nat.reduceLT, Nat.reduceLeDiff, implies_true, forall_const, eq_self, ne_eq, not_true_eq_false, not_false_eq_true, imp_self, Nat.reduceAdd, Nat.reduceMul, Int.reduceLE, Int.reduceLT, Int.reduceNeg, Int.reduceAdd, Int.reduceToNat, Try.ntmps53, Try.results53, gTT]
    rfl
  rintro n ⟨hn, hok⟩
  simp only [↓gPre, gPost, gCore, gDef, Nat.reduceShiftRight, Nat.reduceMod, if_true, if_false, ↓reduceIte, reduceCtorEq, Nat.reduceEqDiff, Nat.reduceLT, Nat.reduceLeDiff, implies_true, forall_const, eq_self, ne_eq, not_true_eq_false, not_false_eq_true, imp_self, Nat.reduceAdd, Nat.reduceMul, Int.reduceLE, Int.reduceLT, Int.reduceNeg, Int.reduceAdd, Int.reduceToNat, Try.ntmps53, Try.results53, gTT]
  refine ⟨fun h1 => ?_, fun h1 => ?_⟩
  · have hlt : n < l.length := by have := of_decide_eq_true h1; omega
    have hg : l[n]?.getD 0 = l[n] := by rw [List.getElem?_eq_getElem hlt]; rfl
    rw [hg]
    refine ⟨by omega, fun h2 => ?_, fun h2 => ?_⟩
    · have hx : coefX l[n] = false := by
        simp only [Bool.or_eq_true, decide_eq_true_eq] at h2
        simp only [coefX, Bool.and_eq_false_iff, decide_eq_false_iff_not]
        omega
      simp [mxV, allBadC hlt hx]
    · have hx : coefX l[n] = true := by
        simp only [Bool.or_eq_false_iff, decide_eq_false_iff_not] at h2
        simp only [coefX, Bool.and_eq_true, decide_eq_true_eq]
        omega
      exact ⟨(wrapN _ (by omega)).symm, ⟨by omega, allSnocC hlt hok hx⟩, by omega⟩
  · have : n = l.length := by have := of_decide_eq_false h1; omega
    rw [this, List.take_length] at hok
    simp [mxV, hc, hok]
def E_mvalid : List V → Boxes → Toks → Name → Option Ent
  | [.agg [.d (.int .i64 a), .d (.int .i64 b), .d (.list q_l)]], [], [], _ => some ⟨(ints q_l).length ≤ 1000000 ∧ q_l = LI .i64 (ints q_l), vB (mxV a b (ints q_l)), [], []⟩
  | _, _, _, _ => none
def E_mvalid_eq := And.intro (@E_mvalid.eq_1) (@E_mvalid.eq_1)
theorem E_mvalid_ok : Snd Try.prog 53 E_mvalid := by
  intro vs b k n e h hn hp
  unfold E_mvalid at h
  split at h
  · cases h; obtain ⟨hp0, hq0⟩ := hp; obtain ⟨_, rfl⟩ := LI_ex hq0; simp only [ints_LI, bys_LB, blks_LK, lls_LL] at hp0 ⊢; exact (spec_mvalid _ _ _ hp0).lift rfl _
  · cases h

theorem spec_rmvalid (a b : Int) (l : List Int) (hl : l.length ≤ 1000000) : Spec Try.prog 0 56 [.agg [.d (.int .i64 a), .d (.int .i64 b), .d (.list (LI .i64 l))]] [] [] (vB (mxV a b l)) [] [] := by
  refine spec_of_E (X := ⟨Try.prog, tt, Try.f56.ntmps, 1, fun _ => 0, (tab [])⟩) (M := [(1, [0, 0, 0, 0, 0, 70901320121623, 0, 0, 0, 0, 0, 70901320065047, 0, 0, 0, 0, 0, 70901315928087, 0, 0, 0, 0, 0, 70901127184407, 0, 0, 0, 0, 0])]) (m := 70892730187799) rfl rfl ⟨tt_ok, tab_ok tabs_nil _ rfl rfl⟩ tt_mixed Try.func56 rfl (by decide) (by show (1 : Nat) ≤ _; exact Nat.le_of_ble_eq_true rfl) ⟨fun m hm => (V.bare_has rfl m hm).elim, by simp, by simp⟩ ?_
  simp only [↓gPre, gPost, gCore, gDef, Nat.reduceShiftRight, Nat.reduceMod, if_true, if_false, ↓reduceIte, reduceCtorEq, Nat.reduceEqDiff, Nat.reduceLT, Nat.reduceLeDiff, implies_true, forall_const, eq_self, ne_eq, not_true_eq_false, not_false_eq_true, imp_self, Nat.reduceAdd, Nat.reduceMul, Int.reduceLE, Int.reduceLT, Int.reduceNeg, Int.reduceAdd, Int.reduceToNat, Try.ntmps56, Try.results56, gTT]
  refine ⟨fun h => ?_, fun h => ?_⟩
  · have hc : mxB a b l.length = true := h
    simp [mxV, hc]
  have hc : mxB a b l.length = false := h
  refine ELoop_keep (fun n => ⟨[(37, vI .i64 (n : Nat))], [], []⟩) (fun n => n ≤ l.length ∧ (l.take n).all coefX = true) (fun n => l.length - n) (· + 1) 0 ⟨Nat.zero_le _, rfl⟩ ?_ ?_
  · simp only [↓gPre, gPost, gCore, gDef, Nat.reduceShiftRight, Nat.reduceMod, if_true, if_false, ↓reduceIte, reduceCtorEq, Nat.reduceEqDiff, Nat.reduceLT, Nat.reduceLeDiff, implies_true, forall_const, eq_self, ne_eq, not_true_eq_false, not_false_eq_true, imp_self, Nat.reduceAdd, Nat.reduceMul, Int.reduceLE, Int.reduceLT, Int.reduceNeg, Int.reduceAdd, Int.reduceToNat, Try.ntmps56, Try.results56, gTT]
    rfl
  rintro n ⟨hn, hok⟩
  simp only [↓gPre, gPost, gCore, gDef, Nat.reduceShiftRight, Nat.reduceMod, if_true, if_false, ↓reduceIte, reduceCtorEq, Nat.reduceEqDiff, Nat.reduceLT, Nat.reduceLeDiff, implies_true, forall_const, eq_self, ne_eq, not_true_eq_false, not_false_eq_true, imp_self, Nat.reduceAdd, Nat.reduceMul, Int.reduceLE, Int.reduceLT, Int.reduceNeg, Int.reduceAdd, Int.reduceToNat, Try.ntmps56, Try.results56, gTT]
  refine ⟨fun h1 => ?_, fun h1 => ?_⟩
  · have hlt : n < l.length := by have := of_decide_eq_true h1; omega
    have hg : l[n]?.getD 0 = l[n] := by rw [List.getElem?_eq_getElem hlt]; rfl
    rw [hg]
    refine ⟨by omega, fun h2 => ?_, fun h2 => ?_⟩
    · have hx : coefX l[n] = false := by
        simp only [Bool.or_eq_true, decide_eq_true_eq] at h2
        simp only [coefX, Bool.and_eq_false_iff, decide_eq_false_iff_not]
        omega
      simp [mxV, allBadC hlt hx]
    · have hx : coefX l[n] = true := by
        simp only [Bool.or_eq_false_iff, decide_eq_false_iff_not] at h2
        simp only [coefX, Bool.and_eq_true, decide_eq_true_eq]
        omega
      exact ⟨(wrapN _ (by omega)).symm, ⟨by omega, allSnocC hlt hok hx⟩, by omega⟩
  · have : n = l.length := by have := of_decide_eq_false h1; omega
    rw [this, List.take_length] at hok
    simp [mxV, hc, hok]
def E_rmvalid : List V → Boxes → Toks → Name → Option Ent
  | [.agg [.d (.int .i64 a), .d (.int .i64 b), .d (.list q_l)]], [], [], _ => some ⟨(ints q_l).length ≤ 1000000 ∧ q_l = LI .i64 (ints q_l), vB (mxV a b (ints q_l)), [], []⟩
  | _, _, _, _ => none
def E_rmvalid_eq := And.intro (@E_rmvalid.eq_1) (@E_rmvalid.eq_1)
theorem E_rmvalid_ok : Snd Try.prog 56 E_rmvalid := by
  intro vs b k n e h hn hp
  unfold E_rmvalid at h
  split at h
  · cases h; obtain ⟨hp0, hq0⟩ := hp; obtain ⟨_, rfl⟩ := LI_ex hq0; simp only [ints_LI, bys_LB, blks_LK, lls_LL] at hp0 ⊢; exact (spec_rmvalid _ _ _ hp0).lift rfl _
  · cases h

theorem spec_rowsL (a b : Int) (l : List Int) (ha : 1 ≤ a ∧ a ≤ 8) (hb : 1 ≤ b ∧ b ≤ 8) (hl : l.length = a.toNat * b.toNat) : Spec Try.prog 0 68 [.agg [.d (.int .i64 a), .d (.int .i64 b), .d (.list (LI .i64 l))]] [] [] (vL (LL .i64 (rowsL a.toNat l b.toNat))) [] [] := by
  refine spec_of_E (X := ⟨Try.prog, tt, Try.f68.ntmps, 1, fun s => if s = 7 then 2 else 0, (tab [])⟩) (M := [(5, [0, 0, 0, 0, 0, 8589897247, 0, 0, 0, 0, 0, 8578493983, 0, 0, 0, 0, 0, 7550889503, 0, 0, 0]), (1000007, [2])]) (m := 3615) rfl rfl ⟨tt_ok, tab_ok tabs_nil _ rfl rfl⟩ tt_mixed Try.func68 rfl (by decide) (by show (1 : Nat) ≤ _; exact Nat.le_of_ble_eq_true rfl) ⟨by simp [V.has, C.has], by simp [C.has], by simp⟩ ?_
  simp only [↓gPre, gPost, gCore, gDef, Nat.reduceShiftRight, Nat.reduceMod, if_true, if_false, ↓reduceIte, reduceCtorEq, Nat.reduceEqDiff, Nat.reduceLT, Nat.reduceLeDiff, implies_true, forall_const, eq_self, ne_eq, not_true_eq_false, not_false_eq_true, imp_self, Nat.reduceAdd, Nat.reduceMul, Int.reduceLE, Int.reduceLT, Int.reduceNeg, Int.reduceAdd, Int.reduceToNat, Try.ntmps68, Try.results68, gTT]
  refine ⟨by omega, ?_⟩
  refine ELoop_keep (fun g => ⟨[(10, vI .i64 (g : Nat))], [], [(⟨1, 7⟩, ⟨true, 1, LL .i64 (rowsP a.toNat l b.toNat g)⟩)]⟩) (fun g => g ≤ b.toNat) (fun g => b.toNat - g) (· + 1) 0 (Nat.zero_le _) ?_ ?_
  · simp only [↓gPre, gPost, gCore, gDef, Nat.reduceShiftRight, Nat.reduceMod, if_true, if_false, ↓reduceIte, reduceCtorEq, Nat.reduceEqDiff, Nat.reduceLT, Nat.reduceLeDiff, implies_true, forall_const, eq_self, ne_eq, not_true_eq_false, not_false_eq_true, imp_self, Nat.reduceAdd, Nat.reduceMul, Int.reduceLE, Int.reduceLT, Int.reduceNeg, Int.reduceAdd, Int.reduceToNat, Try.ntmps68, Try.results68, gTT]
    rw [rowsP_zero, LL_rep]
    exact ⟨rfl, rfl⟩
  intro g hg
  simp only [↓gPre, gPost, gCore, gDef, Nat.reduceShiftRight, Nat.reduceMod, if_true, if_false, ↓reduceIte, reduceCtorEq, Nat.reduceEqDiff, Nat.reduceLT, Nat.reduceLeDiff, implies_true, forall_const, eq_self, ne_eq, not_true_eq_false, not_false_eq_true, imp_self, Nat.reduceAdd, Nat.reduceMul, Int.reduceLE, Int.reduceLT, Int.reduceNeg, Int.reduceAdd, Int.reduceToNat, Try.ntmps68, Try.results68, gTT]
  refine ⟨fun h => ?_, fun h => ?_⟩
  · skip
    have hlt : g < b.toNat := by have := of_decide_eq_true h; omega
    have hA : ((a.toNat : Nat) : Int) = a := by omega
    have hga : g * a.toNat ≤ 8 * 8 := Nat.mul_le_mul (by omega) (by omega)
    have hle : (g + 1) * a.toNat ≤ b.toNat * a.toNat := Nat.mul_le_mul_right _ hlt
    rw [Nat.add_mul, Nat.one_mul, Nat.mul_comm b.toNat] at hle
    have e1 : IntKind.i64.wrap ((g : Int) * a) = ((g * a.toNat : Nat) : Int) := by
      have : (g : Int) * a = ((g * a.toNat : Nat) : Int) := by rw [Int.natCast_mul, hA]
      rw [this, IntWalk.i64_in _ (by omega)]
    have e2 : IntKind.i64.wrap (IntKind.i64.wrap ((g : Int) + 1) * a) = ((g * a.toNat + a.toNat : Nat) : Int) := by
      have : ((g : Int) + 1) * a = ((g * a.toNat + a.toNat : Nat) : Int) := by rw [Int.add_mul, Int.one_mul, Int.natCast_add, Int.natCast_mul, hA]
      rw [IntWalk.i64_in ((g : Int) + 1) (by omega), this, IntWalk.i64_in _ (by omega)]
    rw [e1, e2]
    have hr : List.take (((g * a.toNat + a.toNat : Nat) : Int).toNat - ((g * a.toNat : Nat) : Int).toNat) (List.drop ((g * a.toNat : Nat) : Int).toNat l) = rowL a.toNat l g := by
      rw [Int.toNat_natCast, Int.toNat_natCast, Nat.add_sub_cancel_left]
      rfl
    rw [hr, ← rowsP_succ]
    exact ⟨⟨by omega, by omega, by omega, by omega⟩, by omega, by rw [rowsP_len]; exact hlt, ⟨(wrapN _ (by omega)).symm, rfl⟩, by omega, by omega⟩
  · have : g = b.toNat := by have := of_decide_eq_false h; omega
    rw [this, rowsP_all]
    exact ⟨by simp [rowsL], rfl⟩
def E_rowsL : List V → Boxes → Toks → Name → Option Ent
  | [.agg [.d (.int .i64 a), .d (.int .i64 b), .d (.list q_l)]], [], [], _ => some ⟨(1 ≤ a ∧ a ≤ 8) ∧ (1 ≤ b ∧ b ≤ 8) ∧ (ints q_l).length = a.toNat * b.toNat ∧ q_l = LI .i64 (ints q_l), vL (LL .i64 (rowsL a.toNat (ints q_l) b.toNat)), [], []⟩
  | _, _, _, _ => none
theorem E_rowsL_eq {a b : Int}  {q_l : List D} {nF : Name} : E_rowsL [.agg [.d (.int .i64 a), .d (.int .i64 b), .d (.list q_l)]] [] [] nF = some ⟨(1 ≤ a ∧ a ≤ 8) ∧ (1 ≤ b ∧ b ≤ 8) ∧ (ints q_l).length = a.toNat * b.toNat ∧ q_l = LI .i64 (ints q_l), vL (LL .i64 (rowsL a.toNat (ints q_l) b.toNat)), [], []⟩ := Eq.trans rfl rfl
theorem E_rowsL_ok : Snd Try.prog 68 E_rowsL := by
  intro vs b k n e h hn hp
  unfold E_rowsL at h
  split at h
  · cases h; obtain ⟨hp0, hp1, hp2, hq0⟩ := hp; obtain ⟨_, rfl⟩ := LI_ex hq0; simp only [ints_LI, bys_LB, blks_LK, lls_LL] at hp0 hp1 hp2 ⊢; exact (spec_rowsL _ _ _ hp0 hp1 hp2).lift rfl _
  · cases h

theorem spec_rowsA (a b : Int) (q : Nat) (l : List Int) (ha : 1 ≤ a ∧ a ≤ 8) (hb : 1 ≤ b ∧ b ≤ 8) (hl : q = a.toNat * b.toNat) : Spec Try.prog 0 68 [.agg [.d (.int .i64 a), .d (.int .i64 b), .arr ⟨0, 0⟩ q]] [] [(⟨0, 0⟩, ⟨true, 1, (LI .i64 l)⟩)] (.c (.rws ⟨0, 0⟩ a.toNat b.toNat)) [] [(⟨0, 0⟩, ⟨true, 1, (LI .i64 l)⟩)] := by
  refine spec_of_E (X := ⟨Try.prog, tt, Try.f68.ntmps, 1, fun s => if s = 7 then 5 else 0, (tab [])⟩) (M := [(5, [0, 0, 0, 0, 0, 8589897247, 0, 0, 0, 0, 0, 8578493983, 0, 0, 0, 0, 0, 7550889503, 0, 0, 0]), (1000007, [2])]) (m := 3615) rfl rfl ⟨tt_ok, tab_ok tabs_nil _ rfl rfl⟩ tt_mixed Try.func68 rfl (by decide) (by show (1 : Nat) ≤ _; exact Nat.le_of_ble_eq_true rfl) ⟨by simp [V.has, C.has], by simp [C.has], by simp⟩ ?_
  simp only [↓gPre, gPost, gCore, gDef, Nat.reduceShiftRight, Nat.reduceMod, if_true, if_false, ↓reduceIte, reduceCtorEq, Nat.reduceEqDiff, Nat.reduceLT, Nat.reduceLeDiff, implies_true, forall_const, eq_self, ne_eq, not_true_eq_false, not_false_eq_true, imp_self, Nat.reduceAdd, Nat.reduceMul, Int.reduceLE, Int.reduceLT, Int.reduceNeg, Int.reduceAdd, Int.reduceToNat, Try.ntmps68, Try.results68, gTT]
  refine ⟨by omega, ?_⟩
  refine ELoop_keep (fun g => ⟨[(10, vI .i64 (g : Nat))], [(⟨1, 7⟩, tabP ⟨0, 0⟩ a.toNat b.toNat g)], []⟩) (fun g => g ≤ b.toNat) (fun g => b.toNat - g) (· + 1) 0 (Nat.zero_le _) ?_ ?_
  · simp only [↓gPre, gPost, gCore, gDef, Nat.reduceShiftRight, Nat.reduceMod, if_true, if_false, ↓reduceIte, reduceCtorEq, Nat.reduceEqDiff, Nat.reduceLT, Nat.reduceLeDiff, implies_true, forall_const, eq_self, ne_eq, not_true_eq_false, not_false_eq_true, imp_self, Nat.reduceAdd, Nat.reduceMul, Int.reduceLE, Int.reduceLT, Int.reduceNeg, Int.reduceAdd, Int.reduceToNat, Try.ntmps68, Try.results68, gTT]
    rw [tabP_zero]
    exact ⟨rfl, leCs_refl _⟩
  intro g hg
  simp only [↓gPre, gPost, gCore, gDef, Nat.reduceShiftRight, Nat.reduceMod, if_true, if_false, ↓reduceIte, reduceCtorEq, Nat.reduceEqDiff, Nat.reduceLT, Nat.reduceLeDiff, implies_true, forall_const, eq_self, ne_eq, not_true_eq_false, not_false_eq_true, imp_self, Nat.reduceAdd, Nat.reduceMul, Int.reduceLE, Int.reduceLT, Int.reduceNeg, Int.reduceAdd, Int.reduceToNat, Try.ntmps68, Try.results68, gTT]
  refine ⟨fun h => ?_, fun h => ?_⟩
  · skip
    have hlt : g < b.toNat := by have := of_decide_eq_true h; omega
    have hA : ((a.toNat : Nat) : Int) = a := by omega
    have hga : g * a.toNat ≤ 8 * 8 := Nat.mul_le_mul (by omega) (by omega)
    have hle : (g + 1) * a.toNat ≤ b.toNat * a.toNat := Nat.mul_le_mul_right _ hlt
    rw [Nat.add_mul, Nat.one_mul, Nat.mul_comm b.toNat] at hle
    have e1 : IntKind.i64.wrap ((g : Int) * a) = ((g * a.toNat : Nat) : Int) := by
      have : (g : Int) * a = ((g * a.toNat : Nat) : Int) := by rw [Int.natCast_mul, hA]
      rw [this, IntWalk.i64_in _ (by omega)]
    have e2 : IntKind.i64.wrap (IntKind.i64.wrap ((g : Int) + 1) * a) = ((g * a.toNat + a.toNat : Nat) : Int) := by
      have : ((g : Int) + 1) * a = ((g * a.toNat + a.toNat : Nat) : Int) := by rw [Int.add_mul, Int.one_mul, Int.natCast_add, Int.natCast_mul, hA]
      rw [IntWalk.i64_in ((g : Int) + 1) (by omega), this, IntWalk.i64_in _ (by omega)]
    rw [e1, e2]
    have hv : (((g * a.toNat + a.toNat : Nat) : Int) - ((g * a.toNat : Nat) : Int)).toNat = a.toNat := by omega
    rw [hv, Int.toNat_natCast, if_pos (by rw [tabP_len]; omega), tabP_succ _ _ _ _ hlt]
    exact ⟨⟨by omega, by omega, by omega⟩, by omega, ⟨(wrapN _ (by omega)).symm, leCs_refl _⟩, by omega, by omega⟩
  · have : g = b.toNat := by have := of_decide_eq_false h; omega
    rw [this, tabP_all]
    exact ⟨⟨0, 0⟩, a.toNat, rfl, rfl⟩
def E_rowsA : List V → Boxes → Toks → Name → Option Ent
  | [.agg [.d (.int .i64 a), .d (.int .i64 b), .arr n0 q]], [], [(j0, ⟨true, 1, q_l⟩)], _ => some ⟨(1 ≤ a ∧ a ≤ 8) ∧ (1 ≤ b ∧ b ≤ 8) ∧ q = a.toNat * b.toNat ∧ n0.lv ≤ 1 ∧ j0 = n0 ∧ q_l = LI .i64 (ints q_l), .c (.rws n0 a.toNat b.toNat), [], [(n0, ⟨true, 1, (LI .i64 (ints q_l))⟩)]⟩
  | _, _, _, _ => none
theorem E_rowsA_eq {a b : Int} {q : Nat}  {q_l : List D} {n0 : Name} {j0 : Name} {nF : Name} : E_rowsA [.agg [.d (.int .i64 a), .d (.int .i64 b), .arr n0 q]] [] [(j0, ⟨true, 1, q_l⟩)] nF = some ⟨(1 ≤ a ∧ a ≤ 8) ∧ (1 ≤ b ∧ b ≤ 8) ∧ q = a.toNat * b.toNat ∧ n0.lv ≤ 1 ∧ j0 = n0 ∧ q_l = LI .i64 (ints q_l), .c (.rws n0 a.toNat b.toNat), [], [(n0, ⟨true, 1, (LI .i64 (ints q_l))⟩)]⟩ := Eq.trans rfl rfl
theorem E_rowsA_ok : Snd Try.prog 68 E_rowsA := by
  intro vs b k n e h hn hp
  unfold E_rowsA at h
  split at h
  · cases h; obtain ⟨hp0, hp1, hp2, hl0, rfl, hq0⟩ := hp; obtain ⟨_, rfl⟩ := LI_ex hq0; simp only [ints_LI, bys_LB, blks_LK, lls_LL] at hp0 hp1 hp2 ⊢; exact Spec.ren1 (spec_rowsA _ _ _ _ hp0 hp1 hp2) 0 (by simp [supOK, V.names, C.names, namesB, namesK]) hl0 
  · cases h

def E_rows : List V → Boxes → Toks → Name → Option Ent := fun vs b k n => (E_rowsL vs b k n).orElse fun _ => E_rowsA vs b k n
theorem E_rows_eq {a b : Int}  {q_l : List D} {nF : Name} : E_rows [.agg [.d (.int .i64 a), .d (.int .i64 b), .d (.list q_l)]] [] [] nF = some ⟨(1 ≤ a ∧ a ≤ 8) ∧ (1 ≤ b ∧ b ≤ 8) ∧ (ints q_l).length = a.toNat * b.toNat ∧ q_l = LI .i64 (ints q_l), vL (LL .i64 (rowsL a.toNat (ints q_l) b.toNat)), [], []⟩ := Eq.trans rfl rfl
theorem E_rows_eqB {a b : Int} {q : Nat}  {q_l : List D} {n0 : Name} {j0 : Name} {nF : Name} : E_rows [.agg [.d (.int .i64 a), .d (.int .i64 b), .arr n0 q]] [] [(j0, ⟨true, 1, q_l⟩)] nF = some ⟨(1 ≤ a ∧ a ≤ 8) ∧ (1 ≤ b ∧ b ≤ 8) ∧ q = a.toNat * b.toNat ∧ n0.lv ≤ 1 ∧ j0 = n0 ∧ q_l = LI .i64 (ints q_l), .c (.rws n0 a.toNat b.toNat), [], [(n0, ⟨true, 1, (LI .i64 (ints q_l))⟩)]⟩ := Eq.trans rfl rfl
theorem E_rows_ok : Snd Try.prog 68 E_rows := by
  intro vs b k n e h hn hp
  unfold E_rows at h
  cases ha : E_rowsL vs b k n with
  | some x => rw [ha] at h; cases h; exact E_rowsL_ok vs b k n _ ha hn hp
  | none => rw [ha] at h; exact E_rowsA_ok vs b k n e h hn hp

theorem tdivN (n : Nat) {s : Int} (hs : 0 < s) : (n : Int).tdiv s = ((n / s.toNat : Nat) : Int) := by
  have e : s = (s.toNat : Int) := by omega
  rw [Int.tdiv_eq_ediv_of_nonneg (by omega), e]
  exact (Int.natCast_ediv ..).symm
theorem tmodN (n : Nat) {s : Int} (hs : 0 < s) : (n : Int).tmod s = ((n % s.toNat : Nat) : Int) := by
  have e : s = (s.toNat : Int) := by omega
  rw [Int.tmod_eq_emod_of_nonneg (by omega), e]
  exact (Int.natCast_emod ..).symm

theorem rowL_len {a i : Nat} {l : List Int} (h : (i + 1) * a ≤ l.length) : (rowL a l i).length = a := by
  unfold rowL
  rw [List.length_take, List.length_drop]
  rw [Nat.add_mul, Nat.one_mul] at h
  omega
theorem rowL_get {a i c : Nat} {l : List Int} (h : c < a) : (rowL a l i)[c]? = l[i * a + c]? := by
  unfold rowL
  rw [List.getElem?_take_of_lt h, List.getElem?_drop]
theorem rowsL_get {a n i : Nat} {l : List Int} (h : i < n) : (rowsL a l n)[i]?.getD [] = rowL a l i := by
  unfold rowsL
  rw [List.getElem?_map, List.getElem?_range h]
  rfl
theorem rowsL_len (a n : Nat) (l : List Int) : (rowsL a l n).length = n := by simp [rowsL]
theorem getC {l : List Int} (h : l.all coefX = true) (i : Nat) : -131072 ≤ l[i]?.getD 0 ∧ l[i]?.getD 0 ≤ 131072 := by
  by_cases hi : i < l.length
  · rw [List.getElem?_eq_getElem hi]; exact coefX_in (List.all_eq_true.1 h _ (List.getElem_mem hi))
  · rw [List.getElem?_eq_none (by omega)]; decide
theorem getS {l : List Int} (h : l.all smpX = true) (i : Nat) : -8388608 ≤ l[i]?.getD 0 ∧ l[i]?.getD 0 ≤ 8388607 := by
  by_cases hi : i < l.length
  · rw [List.getElem?_eq_getElem hi]; exact smpX_in (List.all_eq_true.1 h _ (List.getElem_mem hi))
  · rw [List.getElem?_eq_none (by omega)]; decide
/-- Products in a row, added up. -/
def dotN (f g : Nat → Int) : Nat → Int
  | 0 => 0
  | n + 1 => dotN f g n + f n * g n
theorem dotN_in {f g : Nat → Int} (hf : ∀ i, -131072 ≤ f i ∧ f i ≤ 131072) (hg : ∀ i, -8388608 ≤ g i ∧ g i ≤ 8388608) : ∀ n : Nat, -((n : Int) * 1099511627776) ≤ dotN f g n ∧ dotN f g n ≤ (n : Int) * 1099511627776
  | 0 => by simp [dotN]
  | n + 1 => by
    have ih := dotN_in hf hg n
    have h1 := hf n
    have h2 := hg n
    have h3 : -1099511627776 ≤ f n * g n ∧ f n * g n ≤ 1099511627776 := by
      by_cases h0 : 0 ≤ g n
      · have := mul_bd (x := f n) (y := g n) (A := 131072) (B := 8388608) h1.1 h1.2 h0 h2.2 (by decide)
        omega
      · have := mul_bd (x := f n) (y := - g n) (A := 131072) (B := 8388608) h1.1 h1.2 (by omega) (by omega) (by decide)
        rw [Int.mul_neg] at this
        omega
    show -(((n + 1 : Nat) : Int) * 1099511627776) ≤ dotN f g n + f n * g n ∧ dotN f g n + f n * g n ≤ ((n + 1 : Nat) : Int) * 1099511627776
    rw [Int.natCast_add, Int.add_mul]
    omega
def atL (l : List Int) (i : Nat) : Int := l[i]?.getD 0
def apV (a b : Nat) (m l : List Int) (j : Nat) : Int := satG ((dotN (fun c => atL m (j % b * a + c)) (fun c => atL l (j / b * a + c)) a + 16384) / 32768)
def apL (a b : Nat) (m l : List Int) (n : Nat) : List Int := (List.range n).map (apV a b m l)
theorem apL_len (a b : Nat) (m l : List Int) (n : Nat) : (apL a b m l n).length = n := by simp [apL]
theorem apL_succ (a b : Nat) (m l : List Int) (n : Nat) : apL a b m l (n + 1) = apL a b m l n ++ [apV a b m l n] := by simp [apL, List.range_succ]
theorem apV_at {a b q r : Nat} {m l : List Int} (h : r < b) : apV a b m l (q * b + r) = satG ((dotN (fun c => atL m (r * a + c)) (fun c => atL l (q * a + c)) a + 16384) / 32768) := by
  unfold apV
  have e1 : (q * b + r) % b = r := by rw [Nat.add_comm, Nat.add_mul_mod_self_right, Nat.mod_eq_of_lt h]
  have e2 : (q * b + r) / b = q := by rw [Nat.add_comm, Nat.add_mul_div_right _ _ (by omega), Nat.div_eq_of_lt h, Nat.zero_add]
  rw [e1, e2]
def apE (a b : Int) (m : List Int) (c : Int) (l : List Int) : Int := if (!mxV a b m || !blkV c l) = true then 1 else if c ≠ a then 11 else 0
def apC (a b : Int) (m : List Int) (c : Int) (l : List Int) : Int := if apE a b m c l = 0 then b else 0
def apO (a b : Int) (m : List Int) (c : Int) (l : List Int) : List Int := if apE a b m c l = 0 then apL a.toNat b.toNat m l (l.length / a.toNat * b.toNat) else []
theorem apE_ok {a b : Int} {m : List Int} {c : Int} {l : List Int} (h1 : mxV a b m = true) (h2 : blkV c l = true) (h3 : c = a) : apE a b m c l = 0 := by
  unfold apE; rw [h1, h2, h3]; simp
theorem shr15 (n : Int) : n.fdiv (2 ^ Nat.min 15 IntKind.i64.bits) = n / 32768 := Int.fdiv_eq_ediv_of_nonneg n (show (0 : Int) ≤ 32768 by decide)
theorem apE_one {a b : Int} {m : List Int} {c : Int} {l : List Int} (h : (!mxV a b m || !blkV c l) = true) : apE a b m c l = 1 := by unfold apE; rw [if_pos h]
theorem apE_eleven {a b : Int} {m : List Int} {c : Int} {l : List Int} (h : (!mxV a b m || !blkV c l) = false) (h2 : c ≠ a) : apE a b m c l = 11 := by
  unfold apE; rw [h, if_neg (by decide), if_pos h2]

theorem spec_mapply (a b : Int) (m : List Int) (c : Int) (l : List Int) (hml : m.length ≤ 1000000) (hl : l.length ≤ 1000000) : Spec Try.prog 0 55 [.agg [.d (.int .i64 a), .d (.int .i64 b), .d (.list (LI .i64 m))], .agg [.d (.int .i64 c), .d (.list (LI .i32 l))]] [] [] (.tup [.agg [.int .i64 (apC a b m c l), .list (LI .i32 (apO a b m c l))], .int .i64 (apE a b m c l)]) [] [] := by
  refine spec_of_E (X := ⟨Try.prog, tt, Try.f55.ntmps, 1, fun _ => 0, (tab [(53, E_mvalid), (52, E_bvalid), (68, E_rows), (51, E_sat)])⟩) (M := []) (m := 1080996126978489855) rfl rfl ⟨tt_ok, tab_ok (tabs_cons E_mvalid_ok (tabs_cons E_bvalid_ok (tabs_cons E_rows_ok (tabs_cons E_sat_ok tabs_nil)))) _ rfl rfl⟩ tt_mixed Try.func55 rfl (by decide) (by show (2 : Nat) ≤ _; exact Nat.le_of_ble_eq_true rfl) ⟨fun m hm => (V.bare_has rfl m hm).elim, by simp, by simp⟩ ?_
  simp only [↓gPre, gPost, gCore, gDef, Nat.reduceShiftRight, Nat.reduceMod, if_true, if_false, ↓reduceIte, reduceCtorEq, Nat.reduceEqDiff, Nat.reduceLT, Nat.reduceLeDiff, implies_true, forall_const, eq_self, ne_eq, not_true_eq_false, not_false_eq_true, imp_self, Nat.reduceAdd, Nat.reduceMul, Int.reduceLE, Int.reduceLT, Int.reduceNeg, Int.reduceAdd, Int.reduceToNat, E_mvalid_eq, E_bvalid_eq, E_rows_eq, E_sat_eq, E_rows_eqB, Try.ntmps55, Try.results55, gTT]
  refine ⟨hml, fun _ => hl, fun h => ?_, fun h => ?_⟩
  · have e := apE_one h
    simp [apC, apO, e, LI_nil]
  refine ⟨fun h2 => ?_, fun h2 => ?_⟩
  · have e := apE_eleven h (show c ≠ a by simpa using h2)
    simp [apC, apO, e, LI_nil]
  have hv : mxV a b m = true := by simp at h; exact h.1
  have hb : blkV c l = true := by simp at h; exact h.2
  have hca : c = a := by simpa using h2
  have hE := apE_ok hv hb hca
  obtain ⟨ha, hbb, hm, hmc⟩ := mxV_in hv
  obtain ⟨hc0, hsm⟩ := blkV_in hb
  obtain ⟨k1, k2, k3⟩ := chBk_in hc0
  rw [hca] at k3
  have hC : apC a b m c l = b := by simp [apC, hE]
  have hO : apO a b m c l = apL a.toNat b.toNat m l (l.length / a.toNat * b.toNat) := by simp [apO, hE]
  rw [hC, hO, hE]
  have hAa : ((a.toNat : Nat) : Int) = a := by omega
  have hBb : ((b.toNat : Nat) : Int) = b := by omega
  have hA8 : 1 ≤ a.toNat ∧ a.toNat ≤ 8 := by omega
  have hB8 : 1 ≤ b.toNat ∧ b.toNat ≤ 8 := by omega
  generalize hA : a.toNat = A at *
  generalize hB : b.toNat = B at *
  have hz : l.length / A ≤ l.length := Nat.div_le_self ..
  generalize l.length / A = z at *
  refine ⟨⟨ha, hbb, hm⟩, ?_⟩
  refine ELoop_nilB ⟨1, 7⟩ 1 1 ⟨1, 99⟩ rfl rfl (by simp only [↓gPre, gPost, gCore, gDef, Nat.reduceShiftRight, Nat.reduceMod, if_true, if_false, ↓reduceIte, reduceCtorEq, Nat.reduceEqDiff, Nat.reduceLT, Nat.reduceLeDiff, implies_true, forall_const, eq_self, ne_eq, not_true_eq_false, not_false_eq_true, imp_self, Nat.reduceAdd, Nat.reduceMul, Int.reduceLE, Int.reduceLT, Int.reduceNeg, Int.reduceAdd, Int.reduceToNat, E_mvalid_eq, E_bvalid_eq, E_rows_eq, E_sat_eq, E_rows_eqB, Try.ntmps55, Try.results55, gTT]) (Nat.le_refl _) ?_
  simp only [↓gPre, gPost, gCore, gDef, Nat.reduceShiftRight, Nat.reduceMod, if_true, if_false, ↓reduceIte, reduceCtorEq, Nat.reduceEqDiff, Nat.reduceLT, Nat.reduceLeDiff, implies_true, forall_const, eq_self, ne_eq, not_true_eq_false, not_false_eq_true, imp_self, Nat.reduceAdd, Nat.reduceMul, Int.reduceLE, Int.reduceLT, Int.reduceNeg, Int.reduceAdd, Int.reduceToNat, E_mvalid_eq, E_bvalid_eq, E_rows_eq, E_sat_eq, E_rows_eqB, Try.ntmps55, Try.results55, gTT]
  refine ELoop_keep (fun q => ⟨[(8, vI .i64 ((q * A : Nat) : Int))], [(⟨1, 7⟩, [.d (.int .i64 b), .own ⟨1, 99⟩ (LI .i32 (apL A B m l (q * B)))])], [(⟨1, 99⟩, ⟨false, 1, LI .i32 (apL A B m l (q * B))⟩)]⟩) (fun q => q ≤ z) (fun q => z - q) (· + 1) 0 (Nat.zero_le _) ?_ ?_
  · simp only [↓gPre, gPost, gCore, gDef, Nat.reduceShiftRight, Nat.reduceMod, if_true, if_false, ↓reduceIte, reduceCtorEq, Nat.reduceEqDiff, Nat.reduceLT, Nat.reduceLeDiff, implies_true, forall_const, eq_self, ne_eq, not_true_eq_false, not_false_eq_true, imp_self, Nat.reduceAdd, Nat.reduceMul, Int.reduceLE, Int.reduceLT, Int.reduceNeg, Int.reduceAdd, Int.reduceToNat, E_mvalid_eq, E_bvalid_eq, E_rows_eq, E_sat_eq, E_rows_eqB, Try.ntmps55, Try.results55, gTT]
    simp [apL, LI_nil]
  intro q hq
  simp only [↓gPre, gPost, gCore, gDef, Nat.reduceShiftRight, Nat.reduceMod, if_true, if_false, ↓reduceIte, reduceCtorEq, Nat.reduceEqDiff, Nat.reduceLT, Nat.reduceLeDiff, implies_true, forall_const, eq_self, ne_eq, not_true_eq_false, not_false_eq_true, imp_self, Nat.reduceAdd, Nat.reduceMul, Int.reduceLE, Int.reduceLT, Int.reduceNeg, Int.reduceAdd, Int.reduceToNat, E_mvalid_eq, E_bvalid_eq, E_rows_eq, E_sat_eq, E_rows_eqB, Try.ntmps55, Try.results55, gTT]
  refine ⟨fun h3 => ?_, fun h3 => ?_⟩
  · have h3' := of_decide_eq_true h3
    have hqz : q < z := by
      rcases Nat.lt_or_ge q z with h | h
      · exact h
      · have := Nat.mul_le_mul_right A h
        omega
    have hle := Nat.mul_le_mul_right A (show q + 1 ≤ z from hqz)
    have hqs : (q + 1) * A = q * A + A := by rw [Nat.add_mul, Nat.one_mul]
    have hqb : (q + 1) * B = q * B + B := by rw [Nat.add_mul, Nat.one_mul]
    have hqB : q * B ≤ 8 * z := by
      have := Nat.mul_le_mul (show q ≤ z by omega) hB8.2
      omega
    refine ELoop_keep (fun r => ⟨[(45, vI .i64 (r : Nat))], [(⟨1, 7⟩, [.d (.int .i64 b), .own ⟨1, 99⟩ (LI .i32 (apL A B m l (q * B + r)))])], [(⟨1, 99⟩, ⟨false, 1, LI .i32 (apL A B m l (q * B + r))⟩)]⟩) (fun r => r ≤ B) (fun r => B - r) (· + 1) 0 (Nat.zero_le _) ?_ ?_
    · simp only [↓gPre, gPost, gCore, gDef, Nat.reduceShiftRight, Nat.reduceMod, if_true, if_false, ↓reduceIte, reduceCtorEq, Nat.reduceEqDiff, Nat.reduceLT, Nat.reduceLeDiff, implies_true, forall_const, eq_self, ne_eq, not_true_eq_false, not_false_eq_true, imp_self, Nat.reduceAdd, Nat.reduceMul, Int.reduceLE, Int.reduceLT, Int.reduceNeg, Int.reduceAdd, Int.reduceToNat, E_mvalid_eq, E_bvalid_eq, E_rows_eq, E_sat_eq, E_rows_eqB, Try.ntmps55, Try.results55, gTT]
      simp [rowsL_len]
    intro r hr
    simp only [↓gPre, gPost, gCore, gDef, Nat.reduceShiftRight, Nat.reduceMod, if_true, if_false, ↓reduceIte, reduceCtorEq, Nat.reduceEqDiff, Nat.reduceLT, Nat.reduceLeDiff, implies_true, forall_const, eq_self, ne_eq, not_true_eq_false, not_false_eq_true, imp_self, Nat.reduceAdd, Nat.reduceMul, Int.reduceLE, Int.reduceLT, Int.reduceNeg, Int.reduceAdd, Int.reduceToNat, E_mvalid_eq, E_bvalid_eq, E_rows_eq, E_sat_eq, E_rows_eqB, Try.ntmps55, Try.results55, gTT]
    have hrl := rowsL_len A B m
    refine ⟨fun h4 => ?_, fun h4 => ?_⟩
    · have hrB : r < B := by have := of_decide_eq_true h4; omega
      have hw : IntKind.i64.wrap (((q * A : Nat) : Int) + a) = ((q * A + A : Nat) : Int) := by rw [IntWalk.i64_in _ (by omega)]; omega
      have hr1 : (r + 1) * A ≤ B * A := Nat.mul_le_mul_right _ hrB
      have hrA : (r + 1) * A = r * A + A := by rw [Nat.add_mul, Nat.one_mul]
      have hmB : m.length = B * A := by rw [hm, Nat.mul_comm]
      have hrl2 := rowL_len (a := A) (i := r) (l := m) (by omega)
      have hfl := rowL_len (a := A) (i := q) (l := l) (by omega)
      have hfr : List.take (((q * A + A : Nat) : Int).toNat - q * A) (List.drop (q * A) l) = rowL A l q := by
        rw [Int.toNat_natCast, Nat.add_sub_cancel_left]; rfl
      rw [hw, hfr, rowsL_get hrB]
      refine ⟨by omega, by omega, ?_⟩
      have hdn := dotN_in (f := fun c => atL m (r * A + c)) (g := fun c => atL l (q * A + c)) (fun i => getC hmc _) (fun i => by have := getS hsm (q * A + i); unfold atL; omega)
      have hav := apV_at (a := A) (b := B) (q := q) (r := r) (m := m) (l := l) hrB
      have hsuc := apL_succ A B m l (q * B + r)
      have hlen := apL_len A B m l (q * B + r)
      refine ELoop_keep (fun n => ⟨[(58, vI .i64 (n : Nat)), (11, vI .i64 (dotN (fun c => atL m (r * A + c)) (fun c => atL l (q * A + c)) n))], [], []⟩) (fun n => n ≤ A) (fun n => A - n) (· + 1) 0 (Nat.zero_le _) ?_ ?_
      · simp only [↓gPre, gPost, gCore, gDef, Nat.reduceShiftRight, Nat.reduceMod, if_true, if_false, ↓reduceIte, reduceCtorEq, Nat.reduceEqDiff, Nat.reduceLT, Nat.reduceLeDiff, implies_true, forall_const, eq_self, ne_eq, not_true_eq_false, not_false_eq_true, imp_self, Nat.reduceAdd, Nat.reduceMul, Int.reduceLE, Int.reduceLT, Int.reduceNeg, Int.reduceAdd, Int.reduceToNat, E_mvalid_eq, E_bvalid_eq, E_rows_eq, E_sat_eq, E_rows_eqB, Try.ntmps55, Try.results55, gTT]
        exact ⟨rfl, rfl⟩
      intro n hn
      simp only [↓gPre, gPost, gCore, gDef, Nat.reduceShiftRight, Nat.reduceMod, if_true, if_false, ↓reduceIte, reduceCtorEq, Nat.reduceEqDiff, Nat.reduceLT, Nat.reduceLeDiff, implies_true, forall_const, eq_self, ne_eq, not_true_eq_false, not_false_eq_true, imp_self, Nat.reduceAdd, Nat.reduceMul, Int.reduceLE, Int.reduceLT, Int.reduceNeg, Int.reduceAdd, Int.reduceToNat, E_mvalid_eq, E_bvalid_eq, E_rows_eq, E_sat_eq, E_rows_eqB, Try.ntmps55, Try.results55, gTT]
      have hd := hdn n
      have hd2 := hdn (n + 1)
      refine ⟨fun h5 => ?_, fun h5 => ?_⟩
      · have hnA : n < A := by have := of_decide_eq_true h5; omega
        have g1 : (rowL A m r)[n]?.getD 0 = atL m (r * A + n) := by rw [rowL_get hnA]; rfl
        have g2 : (rowL A l q)[n]?.getD 0 = atL l (q * A + n) := by rw [rowL_get hnA]; rfl
        rw [g1, g2]
        have b1 := getC hmc (r * A + n)
        have b2 := getS hsm (q * A + n)
        have hsd : dotN (fun c => atL m (r * A + c)) (fun c => atL l (q * A + c)) (n + 1) = dotN (fun c => atL m (r * A + c)) (fun c => atL l (q * A + c)) n + atL m (r * A + n) * atL l (q * A + n) := rfl
        have b3 : -1099511627776 ≤ atL m (r * A + n) * atL l (q * A + n) ∧ atL m (r * A + n) * atL l (q * A + n) ≤ 1099511627776 := by
          have k := dotN_in (f := fun _ => atL m (r * A + n)) (g := fun _ => atL l (q * A + n)) (fun _ => b1) (fun _ => by unfold atL; omega) 1
          simp [dotN] at k
          omega
        rw [IntWalk.i64_in (atL l (q * A + n)) (by unfold atL; omega), IntWalk.i64_in (atL m (r * A + n) * atL l (q * A + n)) (by omega), IntWalk.i64_in (dotN _ _ n + _) (by omega), ← hsd]
        exact ⟨by omega, by omega, ⟨(wrapN _ (by omega)).symm, rfl⟩, by omega, by omega⟩
      · have hnA : n = A := by have := of_decide_eq_false h5; omega
        subst hnA
        generalize hdd : dotN (fun c => atL m (r * n + c)) (fun c => atL l (q * n + c)) n = dd at *
        rw [IntWalk.i64_in (dd + 16384) (by omega), shr15, ← hav]
        have hs3 : q * B + (r + 1) = q * B + r + 1 := rfl
        rw [hs3, hsuc]
        refine ⟨by kernel_rfl, by unfold roomOK; omega, ⟨(wrapN _ (by omega)).symm, rfl, rfl⟩, by omega, by omega⟩
    · have hrB : r = B := by have := of_decide_eq_false h4; omega
      rw [hrB, hqb, hqs]
      exact ⟨⟨by rw [IntWalk.i64_in _ (by omega)]; omega, rfl, rfl⟩, by omega, by omega⟩
  · have hqz : q = z := by
      have h3' := of_decide_eq_false h3
      rcases Nat.lt_or_ge q z with h | h
      · have := Nat.mul_lt_mul_of_pos_right h (show 0 < A by omega)
        omega
      · omega
    rw [hqz]
def E_mapply : List V → Boxes → Toks → Name → Option Ent
  | [.agg [.d (.int .i64 a), .d (.int .i64 b), .d (.list q_m)], .agg [.d (.int .i64 c), .d (.list q_l)]], [], [], _ => some ⟨(ints q_m).length ≤ 1000000 ∧ (ints q_l).length ≤ 1000000 ∧ q_m = LI .i64 (ints q_m) ∧ q_l = LI .i32 (ints q_l), .tup [.agg [.int .i64 (apC a b (ints q_m) c (ints q_l)), .list (LI .i32 (apO a b (ints q_m) c (ints q_l)))], .int .i64 (apE a b (ints q_m) c (ints q_l))], [], []⟩
  | _, _, _, _ => none
def E_mapply_eq := And.intro (@E_mapply.eq_1) (@E_mapply.eq_1)
theorem E_mapply_ok : Snd Try.prog 55 E_mapply := by
  intro vs b k n e h hn hp
  unfold E_mapply at h
  split at h
  · cases h; obtain ⟨hp0, hp1, hq0, hq1⟩ := hp; obtain ⟨_, rfl⟩ := LI_ex hq0; obtain ⟨_, rfl⟩ := LI_ex hq1; simp only [ints_LI, bys_LB, blks_LK, lls_LL] at hp0 hp1 ⊢; exact (spec_mapply _ _ _ _ _ hp0 hp1).lift rfl _
  · cases h

theorem spec_rmapply (a b : Int) (m : List Int) (c : Int) (l : List Int) (hml : m.length ≤ 1000000) (hl : l.length ≤ 1000000) : Spec Try.prog 0 40 [.agg [.d (.int .i64 a), .d (.int .i64 b), .d (.list (LI .i64 m))], .agg [.d (.int .i64 c), .d (.list (LI .i32 l))]] [] [] (.tup [.agg [.int .i64 (apC a b m c l), .list (LI .i32 (apO a b m c l))], .int .i64 (apE a b m c l)]) [] [] := by
  refine spec_of_E (X := ⟨Try.prog, tt, Try.f40.ntmps, 1, fun _ => 0, (tab [(56, E_rmvalid), (47, E_rbvalid), (57, E_rsat)])⟩) (M := [(16, [0, 0, 0, 0, 0, 2361161992281711183871, 0, 0, 0, 0, 0, 2360031588775241189375, 0, 0, 0, 0, 0, 2214763479194778470399, 0, 0, 0, 0])]) (m := 142945118586879) rfl rfl ⟨tt_ok, tab_ok (tabs_cons E_rmvalid_ok (tabs_cons E_rbvalid_ok (tabs_cons E_rsat_ok tabs_nil))) _ rfl rfl⟩ tt_mixed Try.func40 rfl (by decide) (by show (2 : Nat) ≤ _; exact Nat.le_of_ble_eq_true rfl) ⟨fun m hm => (V.bare_has rfl m hm).elim, by simp, by simp⟩ ?_
  simp only [↓gPre, gPost, gCore, gDef, Nat.reduceShiftRight, Nat.reduceMod, if_true, if_false, ↓reduceIte, reduceCtorEq, Nat.reduceEqDiff, Nat.reduceLT, Nat.reduceLeDiff, implies_true, forall_const, eq_self, ne_eq, not_true_eq_false, not_false_eq_true, imp_self, Nat.reduceAdd, Nat.reduceMul, Int.reduceLE, Int.reduceLT, Int.reduceNeg, Int.reduceAdd, Int.reduceToNat, E_rmvalid_eq, E_rbvalid_eq, E_rsat_eq, Try.ntmps40, Try.results40, gTT]
  refine ⟨hml, fun _ => hl, fun h => ?_, fun h => ?_⟩
  · have e := apE_one h
    simp [apC, apO, e, LI_nil]
  refine ⟨fun h2 => ?_, fun h2 => ?_⟩
  · have e := apE_eleven h (show c ≠ a by simpa using h2)
    simp [apC, apO, e, LI_nil]
  have hv : mxV a b m = true := by simp at h; exact h.1
  have hb : blkV c l = true := by simp at h; exact h.2
  have hca : c = a := by simpa using h2
  have hE := apE_ok hv hb hca
  obtain ⟨ha, hbb, hm, hmc⟩ := mxV_in hv
  obtain ⟨hc0, hsm⟩ := blkV_in hb
  obtain ⟨k1, k2, k3⟩ := chBk_in hc0
  rw [hca] at k3
  have hC : apC a b m c l = b := by simp [apC, hE]
  have hO : apO a b m c l = apL a.toNat b.toNat m l (l.length / a.toNat * b.toNat) := by simp [apO, hE]
  rw [hC, hO, hE]
  have hAa : ((a.toNat : Nat) : Int) = a := by omega
  have hBb : ((b.toNat : Nat) : Int) = b := by omega
  have hA8 : 1 ≤ a.toNat ∧ a.toNat ≤ 8 := by omega
  have hB8 : 1 ≤ b.toNat ∧ b.toNat ≤ 8 := by omega
  generalize hA : a.toNat = A at *
  generalize hB : b.toNat = B at *
  have hz : l.length / A ≤ l.length := Nat.div_le_self ..
  generalize l.length / A = z at *
  refine ELoop_nilB ⟨1, 6⟩ 1 1 ⟨1, 99⟩ rfl rfl (by simp only [↓gPre, gPost, gCore, gDef, Nat.reduceShiftRight, Nat.reduceMod, if_true, if_false, ↓reduceIte, reduceCtorEq, Nat.reduceEqDiff, Nat.reduceLT, Nat.reduceLeDiff, implies_true, forall_const, eq_self, ne_eq, not_true_eq_false, not_false_eq_true, imp_self, Nat.reduceAdd, Nat.reduceMul, Int.reduceLE, Int.reduceLT, Int.reduceNeg, Int.reduceAdd, Int.reduceToNat, E_rmvalid_eq, E_rbvalid_eq, E_rsat_eq, Try.ntmps40, Try.results40, gTT]) (Nat.le_refl _) ?_
  simp only [↓gPre, gPost, gCore, gDef, Nat.reduceShiftRight, Nat.reduceMod, if_true, if_false, ↓reduceIte, reduceCtorEq, Nat.reduceEqDiff, Nat.reduceLT, Nat.reduceLeDiff, implies_true, forall_const, eq_self, ne_eq, not_true_eq_false, not_false_eq_true, imp_self, Nat.reduceAdd, Nat.reduceMul, Int.reduceLE, Int.reduceLT, Int.reduceNeg, Int.reduceAdd, Int.reduceToNat, E_rmvalid_eq, E_rbvalid_eq, E_rsat_eq, Try.ntmps40, Try.results40, gTT]
  refine ELoop_keep (fun q => ⟨[(7, vI .i64 ((q * A : Nat) : Int))], [(⟨1, 6⟩, [.d (.int .i64 b), .own ⟨1, 99⟩ (LI .i32 (apL A B m l (q * B)))])], [(⟨1, 99⟩, ⟨false, 1, LI .i32 (apL A B m l (q * B))⟩)]⟩) (fun q => q ≤ z) (fun q => z - q) (· + 1) 0 (Nat.zero_le _) ?_ ?_
  · simp only [↓gPre, gPost, gCore, gDef, Nat.reduceShiftRight, Nat.reduceMod, if_true, if_false, ↓reduceIte, reduceCtorEq, Nat.reduceEqDiff, Nat.reduceLT, Nat.reduceLeDiff, implies_true, forall_const, eq_self, ne_eq, not_true_eq_false, not_false_eq_true, imp_self, Nat.reduceAdd, Nat.reduceMul, Int.reduceLE, Int.reduceLT, Int.reduceNeg, Int.reduceAdd, Int.reduceToNat, E_rmvalid_eq, E_rbvalid_eq, E_rsat_eq, Try.ntmps40, Try.results40, gTT]
    simp [apL, LI_nil]
  intro q hq
  simp only [↓gPre, gPost, gCore, gDef, Nat.reduceShiftRight, Nat.reduceMod, if_true, if_false, ↓reduceIte, reduceCtorEq, Nat.reduceEqDiff, Nat.reduceLT, Nat.reduceLeDiff, implies_true, forall_const, eq_self, ne_eq, not_true_eq_false, not_false_eq_true, imp_self, Nat.reduceAdd, Nat.reduceMul, Int.reduceLE, Int.reduceLT, Int.reduceNeg, Int.reduceAdd, Int.reduceToNat, E_rmvalid_eq, E_rbvalid_eq, E_rsat_eq, Try.ntmps40, Try.results40, gTT]
  refine ⟨fun h3 => ?_, fun h3 => ?_⟩
  · have h3' := of_decide_eq_true h3
    have hqz : q < z := by
      rcases Nat.lt_or_ge q z with h | h
      · exact h
      · have := Nat.mul_le_mul_right A h
        omega
    have hle := Nat.mul_le_mul_right A (show q + 1 ≤ z from hqz)
    have hqs : (q + 1) * A = q * A + A := by rw [Nat.add_mul, Nat.one_mul]
    have hqb : (q + 1) * B = q * B + B := by rw [Nat.add_mul, Nat.one_mul]
    have hqB : q * B ≤ 8 * z := by
      have := Nat.mul_le_mul (show q ≤ z by omega) hB8.2
      omega
    refine ELoop_keep (fun r => ⟨[(8, vI .i64 (r : Nat))], [(⟨1, 6⟩, [.d (.int .i64 b), .own ⟨1, 99⟩ (LI .i32 (apL A B m l (q * B + r)))])], [(⟨1, 99⟩, ⟨false, 1, LI .i32 (apL A B m l (q * B + r))⟩)]⟩) (fun r => r ≤ B) (fun r => B - r) (· + 1) 0 (Nat.zero_le _) ?_ ?_
    · simp only [↓gPre, gPost, gCore, gDef, Nat.reduceShiftRight, Nat.reduceMod, if_true, if_false, ↓reduceIte, reduceCtorEq, Nat.reduceEqDiff, Nat.reduceLT, Nat.reduceLeDiff, implies_true, forall_const, eq_self, ne_eq, not_true_eq_false, not_false_eq_true, imp_self, Nat.reduceAdd, Nat.reduceMul, Int.reduceLE, Int.reduceLT, Int.reduceNeg, Int.reduceAdd, Int.reduceToNat, E_rmvalid_eq, E_rbvalid_eq, E_rsat_eq, Try.ntmps40, Try.results40, gTT]
      exact ⟨rfl, rfl, rfl⟩
    intro r hr
    simp only [↓gPre, gPost, gCore, gDef, Nat.reduceShiftRight, Nat.reduceMod, if_true, if_false, ↓reduceIte, reduceCtorEq, Nat.reduceEqDiff, Nat.reduceLT, Nat.reduceLeDiff, implies_true, forall_const, eq_self, ne_eq, not_true_eq_false, not_false_eq_true, imp_self, Nat.reduceAdd, Nat.reduceMul, Int.reduceLE, Int.reduceLT, Int.reduceNeg, Int.reduceAdd, Int.reduceToNat, E_rmvalid_eq, E_rbvalid_eq, E_rsat_eq, Try.ntmps40, Try.results40, gTT]
    refine ⟨fun h4 => ?_, fun h4 => ?_⟩
    · have hrB : r < B := by have := of_decide_eq_true h4; omega
      have hr1 : (r + 1) * A ≤ B * A := Nat.mul_le_mul_right _ hrB
      have hrA : (r + 1) * A = r * A + A := by rw [Nat.add_mul, Nat.one_mul]
      have hmB : m.length = B * A := by rw [hm, Nat.mul_comm]
      have hra : IntKind.i64.wrap ((r : Int) * a) = ((r * A : Nat) : Int) := by
        have h64 : r * A ≤ 8 * 8 := Nat.mul_le_mul (by omega) hA8.2
        have : (r : Int) * a = ((r * A : Nat) : Int) := by rw [Int.natCast_mul, hAa]
        rw [this, IntWalk.i64_in _ (by omega)]
      have hdn := dotN_in (f := fun c => atL m (r * A + c)) (g := fun c => atL l (q * A + c)) (fun i => getC hmc _) (fun i => by have := getS hsm (q * A + i); unfold atL; omega)
      have hav := apV_at (a := A) (b := B) (q := q) (r := r) (m := m) (l := l) hrB
      have hsuc := apL_succ A B m l (q * B + r)
      have hlen := apL_len A B m l (q * B + r)
      refine ELoop_keep (fun n => ⟨[(10, vI .i64 (n : Nat)), (9, vI .i64 (16384 + dotN (fun c => atL m (r * A + c)) (fun c => atL l (q * A + c)) n))], [], []⟩) (fun n => n ≤ A) (fun n => A - n) (· + 1) 0 (Nat.zero_le _) ?_ ?_
      · simp only [↓gPre, gPost, gCore, gDef, Nat.reduceShiftRight, Nat.reduceMod, if_true, if_false, ↓reduceIte, reduceCtorEq, Nat.reduceEqDiff, Nat.reduceLT, Nat.reduceLeDiff, implies_true, forall_const, eq_self, ne_eq, not_true_eq_false, not_false_eq_true, imp_self, Nat.reduceAdd, Nat.reduceMul, Int.reduceLE, Int.reduceLT, Int.reduceNeg, Int.reduceAdd, Int.reduceToNat, E_rmvalid_eq, E_rbvalid_eq, E_rsat_eq, Try.ntmps40, Try.results40, gTT]
        exact ⟨rfl, rfl⟩
      intro n hn
      simp only [↓gPre, gPost, gCore, gDef, Nat.reduceShiftRight, Nat.reduceMod, if_true, if_false, ↓reduceIte, reduceCtorEq, Nat.reduceEqDiff, Nat.reduceLT, Nat.reduceLeDiff, implies_true, forall_const, eq_self, ne_eq, not_true_eq_false, not_false_eq_true, imp_self, Nat.reduceAdd, Nat.reduceMul, Int.reduceLE, Int.reduceLT, Int.reduceNeg, Int.reduceAdd, Int.reduceToNat, E_rmvalid_eq, E_rbvalid_eq, E_rsat_eq, Try.ntmps40, Try.results40, gTT]
      have hd := hdn n
      have hd2 := hdn (n + 1)
      refine ⟨fun h5 => ?_, fun h5 => ?_⟩
      · have hnA : n < A := by have := of_decide_eq_true h5; omega
        refine ⟨by kernel_rfl, ?_⟩
        rw [hra, IntWalk.i64_in (((r * A : Nat) : Int) + (n : Int)) (by omega), IntWalk.i64_in (((q * A : Nat) : Int) + (n : Int)) (by omega)]
        have t1 : (((r * A : Nat) : Int) + (n : Int)).toNat = r * A + n := by omega
        have t2 : (((q * A : Nat) : Int) + (n : Int)).toNat = q * A + n := by omega
        have b1 := getC hmc (r * A + n)
        have b2 := getS hsm (q * A + n)
        have g1 : m[r * A + n]?.getD 0 = atL m (r * A + n) := rfl
        have g2 : l[q * A + n]?.getD 0 = atL l (q * A + n) := rfl
        have hsd : dotN (fun c => atL m (r * A + c)) (fun c => atL l (q * A + c)) (n + 1) = dotN (fun c => atL m (r * A + c)) (fun c => atL l (q * A + c)) n + atL m (r * A + n) * atL l (q * A + n) := rfl
        have b3 : -1099511627776 ≤ atL m (r * A + n) * atL l (q * A + n) ∧ atL m (r * A + n) * atL l (q * A + n) ≤ 1099511627776 := by
          have k := dotN_in (f := fun _ => atL m (r * A + n)) (g := fun _ => atL l (q * A + n)) (fun _ => b1) (fun _ => by unfold atL; omega) 1
          simp [dotN] at k
          omega
        rw [t1, t2, g1, g2, hsd]
        rw [g1] at b1
        rw [g2] at b2
        generalize dotN (fun c => atL m (r * A + c)) (fun c => atL l (q * A + c)) n = dd at *
        rw [IntWalk.i64_in (atL l (q * A + n)) (by omega), IntWalk.i64_in (atL m (r * A + n) * atL l (q * A + n)) (by omega), IntWalk.i64_in (16384 + dd + _) (by omega)]
        exact ⟨by omega, by omega, ⟨(wrapN _ (by omega)).symm, by omega⟩, by omega, by omega⟩
      · have hnA : n = A := by have := of_decide_eq_false h5; omega
        subst hnA
        generalize hdd : dotN (fun c => atL m (r * n + c)) (fun c => atL l (q * n + c)) n = dd at *
        rw [Int.add_comm dd 16384] at hav
        rw [shr15, ← hav]
        have hs3 : q * B + (r + 1) = q * B + r + 1 := rfl
        rw [hs3, hsuc]
        refine ⟨by kernel_rfl, by unfold roomOK; omega, ⟨(wrapN _ (by omega)).symm, rfl, rfl⟩, by omega, by omega⟩
    · have hrB : r = B := by have := of_decide_eq_false h4; omega
      rw [hrB, hqb, hqs]
      exact ⟨⟨by rw [IntWalk.i64_in _ (by omega)]; omega, rfl, rfl⟩, by omega, by omega⟩
  · have hqz : q = z := by
      have h3' := of_decide_eq_false h3
      rcases Nat.lt_or_ge q z with h | h
      · have := Nat.mul_lt_mul_of_pos_right h (show 0 < A by omega)
        omega
      · omega
    rw [hqz]
def E_rmapply : List V → Boxes → Toks → Name → Option Ent
  | [.agg [.d (.int .i64 a), .d (.int .i64 b), .d (.list q_m)], .agg [.d (.int .i64 c), .d (.list q_l)]], [], [], _ => some ⟨(ints q_m).length ≤ 1000000 ∧ (ints q_l).length ≤ 1000000 ∧ q_m = LI .i64 (ints q_m) ∧ q_l = LI .i32 (ints q_l), .tup [.agg [.int .i64 (apC a b (ints q_m) c (ints q_l)), .list (LI .i32 (apO a b (ints q_m) c (ints q_l)))], .int .i64 (apE a b (ints q_m) c (ints q_l))], [], []⟩
  | _, _, _, _ => none
def E_rmapply_eq := And.intro (@E_rmapply.eq_1) (@E_rmapply.eq_1)
theorem E_rmapply_ok : Snd Try.prog 40 E_rmapply := by
  intro vs b k n e h hn hp
  unfold E_rmapply at h
  split at h
  · cases h; obtain ⟨hp0, hp1, hq0, hq1⟩ := hp; obtain ⟨_, rfl⟩ := LI_ex hq0; obtain ⟨_, rfl⟩ := LI_ex hq1; simp only [ints_LI, bys_LB, blks_LK, lls_LL] at hp0 hp1 ⊢; exact (spec_rmapply _ _ _ _ _ hp0 hp1).lift rfl _
  · cases h

def idB (n : Int) : Bool := decide (n < 1) || decide (8 < n)
def idL (n : Nat) : List Int := (List.range (n * n)).map fun j => if j / n = j % n then 32768 else 0
def idP (n g : Nat) : List Int := (List.range (n * n)).map fun j => if j / n = j % n ∧ j / n < g then 32768 else 0
def idN (n : Int) : Int := if idB n = true then 0 else n
def idO (n : Int) : List Int := if idB n = true then [] else idL n.toNat
def idE (n : Int) : Int := if idB n = true then 2 else 0
theorem idP_len (n g : Nat) : (idP n g).length = n * n := by simp [idP]
theorem idP_zero (n : Nat) : idP n 0 = List.replicate (n * n) 0 := by
  apply List.ext_getElem
  · simp [idP]
  · intro i h1 h2; simp [idP]
theorem idP_all (n : Nat) : idP n n = idL n := by
  apply List.map_congr_left
  intro j hj
  rw [List.mem_range] at hj
  have : j / n < n := Nat.div_lt_of_lt_mul hj
  simp [this]
theorem idP_succ {n g : Nat} (hg : g < n) : idP n (g + 1) = (idP n g).set (g * n + g) 32768 := by
  apply List.ext_getElem
  · simp [idP]
  · intro j h1 h2
    have hj : j < n * n := by simpa [idP] using h1
    simp only [idP, List.getElem_map, List.getElem_range, List.getElem_set]
    have hn : 0 < n := by omega
    by_cases e : g * n + g = j
    · subst e
      have e1 : (g * n + g) / n = g := by rw [Nat.add_comm, Nat.add_mul_div_right _ _ hn, Nat.div_eq_of_lt hg, Nat.zero_add]
      have e2 : (g * n + g) % n = g := by rw [Nat.add_comm, Nat.add_mul_mod_self_right, Nat.mod_eq_of_lt hg]
      rw [if_pos rfl, e1, e2, if_pos ⟨rfl, by omega⟩]
    · rw [if_neg e]
      by_cases h : j / n = j % n
      · have hne : j / n ≠ g := by
          intro hg2
          have := Nat.div_add_mod j n
          rw [hg2, Nat.mul_comm] at this
          omega
        by_cases h3 : j / n < g
        · rw [if_pos ⟨h, by omega⟩, if_pos ⟨h, h3⟩]
        · rw [if_neg (fun hh => by omega), if_neg (fun hh => h3 hh.2)]
      · rw [if_neg (fun hh => h hh.1), if_neg (fun hh => h hh.1)]

theorem spec_ridentity (n : Int) : Spec Try.prog 0 16 [vI .i64 n] [] [] (.tup [.agg [.int .i64 (idN n), .int .i64 (idN n), .list (LI .i64 (idO n))], .int .i64 (idE n)]) [] [] := by
  refine spec_of_E (X := ⟨Try.prog, tt, Try.f16.ntmps, 1, fun s => if s = 18 then 2 else 0, (tab [])⟩) (M := [(1000008, [3002])]) (m := 4196413) rfl rfl ⟨tt_ok, tab_ok tabs_nil _ rfl rfl⟩ tt_mixed Try.func16 rfl (by decide) (by show (1 : Nat) ≤ _; exact Nat.le_of_ble_eq_true rfl) ⟨by simp [V.has, C.has], by simp [C.has], by simp⟩ ?_
  simp only [↓gPre, gPost, gCore, gDef, Nat.reduceShiftRight, Nat.reduceMod, if_true, if_false, ↓reduceIte, reduceCtorEq, Nat.reduceEqDiff, Nat.reduceLT, Nat.reduceLeDiff, implies_true, forall_const, eq_self, ne_eq, not_true_eq_false, not_false_eq_true, imp_self, Nat.reduceAdd, Nat.reduceMul, Int.reduceLE, Int.reduceLT, Int.reduceNeg, Int.reduceAdd, Int.reduceToNat, Try.ntmps16, Try.results16, gTT]
  refine ⟨fun h => ?_, fun h => ?_⟩
  · have e : idB n = true := h
    simp [idN, idO, idE, e, LI_nil]
  have hB : idB n = false := h
  have hn : 1 ≤ n ∧ n ≤ 8 := by
    simp only [idB, Bool.or_eq_false_iff, decide_eq_false_iff_not] at hB
    omega
  have hm := mul88 hn hn
  have hO : idO n = idL n.toNat := by simp [idO, hB]
  have hN : idN n = n := by simp [idN, hB]
  have hE : idE n = 0 := by simp [idE, hB]
  rw [hO, hN, hE]
  have hnn : (n * n).toNat = n.toNat * n.toNat := by
    have e : n = (n.toNat : Int) := by omega
    have : n * n = ((n.toNat * n.toNat : Nat) : Int) := by rw [Int.natCast_mul, ← e]
    omega
  have hNn : ((n.toNat : Nat) : Int) = n := by omega
  rw [IntWalk.i64_in (n * n) (by omega)]
  refine ⟨⟨by omega, by omega, by omega, by omega⟩, ?_⟩
  rw [hnn]
  generalize n.toNat = N at *
  refine ELoop_keep (fun g => ⟨[(5, vI .i64 (g : Nat))], [], [(⟨1, 18⟩, ⟨true, 1, LI .i64 (idP N g)⟩)]⟩) (fun g => g ≤ N) (fun g => N - g) (· + 1) 0 (Nat.zero_le _) ?_ ?_
  · simp only [↓gPre, gPost, gCore, gDef, Nat.reduceShiftRight, Nat.reduceMod, if_true, if_false, ↓reduceIte, reduceCtorEq, Nat.reduceEqDiff, Nat.reduceLT, Nat.reduceLeDiff, implies_true, forall_const, eq_self, ne_eq, not_true_eq_false, not_false_eq_true, imp_self, Nat.reduceAdd, Nat.reduceMul, Int.reduceLE, Int.reduceLT, Int.reduceNeg, Int.reduceAdd, Int.reduceToNat, Try.ntmps16, Try.results16, gTT]
    rw [idP_zero]
    exact ⟨rfl, rfl⟩
  intro g hg
  simp only [↓gPre, gPost, gCore, gDef, Nat.reduceShiftRight, Nat.reduceMod, if_true, if_false, ↓reduceIte, reduceCtorEq, Nat.reduceEqDiff, Nat.reduceLT, Nat.reduceLeDiff, implies_true, forall_const, eq_self, ne_eq, not_true_eq_false, not_false_eq_true, imp_self, Nat.reduceAdd, Nat.reduceMul, Int.reduceLE, Int.reduceLT, Int.reduceNeg, Int.reduceAdd, Int.reduceToNat, Try.ntmps16, Try.results16, gTT]
  have hl := idP_len N g
  refine ⟨fun h => ?_, fun h => ?_⟩
  · have hgN : g < N := by have := of_decide_eq_true h; omega
    have hle : (g + 1) * N ≤ N * N := Nat.mul_le_mul_right _ hgN
    have h64 : g * N ≤ 8 * 8 := Nat.mul_le_mul (by omega) (by omega)
    rw [Nat.add_mul, Nat.one_mul] at hle
    rw [idP_succ hgN]
    have e1 : IntKind.i64.wrap ((g : Int) * n) = ((g * N : Nat) : Int) := by
      have : (g : Int) * n = ((g * N : Nat) : Int) := by rw [Int.natCast_mul, hNn]
      rw [this, IntWalk.i64_in _ (by omega)]
    have e2 : IntKind.i64.wrap (((g * N : Nat) : Int) + (g : Int)) = ((g * N + g : Nat) : Int) := by rw [IntWalk.i64_in _ (by omega)]; omega
    rw [e1, e2, Int.toNat_natCast]
    refine ⟨by omega, by omega, ⟨(wrapN _ (by omega)).symm, rfl⟩, by omega, by omega⟩
  · have : g = N := by have := of_decide_eq_false h; omega
    rw [this, idP_all]
    exact ⟨by simp [idL], rfl⟩
def E_ridentity : List V → Boxes → Toks → Name → Option Ent
  | [.c (.d (.int .i64 n))], [], [], _ => some ⟨True, .tup [.agg [.int .i64 (idN n), .int .i64 (idN n), .list (LI .i64 (idO n))], .int .i64 (idE n)], [], []⟩
  | _, _, _, _ => none
def E_ridentity_eq := And.intro (@E_ridentity.eq_1) (@E_ridentity.eq_1)
theorem E_ridentity_ok : Snd Try.prog 16 E_ridentity := by
  intro vs b k n e h hn hp
  unfold E_ridentity at h
  split at h
  · cases h; exact (spec_ridentity _).lift rfl _
  · cases h

end Go.Vam
