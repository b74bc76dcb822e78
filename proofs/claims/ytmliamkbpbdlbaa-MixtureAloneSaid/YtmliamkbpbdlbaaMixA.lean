/- Gains, blocks, ramps. Conditions: none. -/
import Derived.Test.YtmliamkbpbdlbaaTab
set_option linter.unusedVariables false
set_option linter.defProp false
set_option linter.unusedSimpArgs false
set_option maxRecDepth 40000
set_option maxHeartbeats 4000000
namespace Go.Vam
open Go.Proofs

/-- A sample that fits. -/
def satG (n : Int) : Int := if -8388608 < (if n < 8388607 then n else 8388607) then (if n < 8388607 then n else 8388607) else -8388608
def isG (n : Int) : Bool := decide (0 ≤ n) && decide (n ≤ 262144)
def applyG (s n : Int) : Int := if (decide (s < -8388608) || decide (8388607 < s) || !isG n) = true then 0 else satG ((s * n + 32768) / 65536)
def mulG (s n : Int) : Int := if (!isG s || !isG n) = true then 0 else if (s * n + 32768) / 65536 < 262144 then (s * n + 32768) / 65536 else 262144
def clampG (n : Int) : Int := if 0 < (if n < 100 then n else 100) then (if n < 100 then n else 100) else 0
def volG (n : Int) : Int := clampG n * clampG n * clampG n * 65536 / 1000000
def validG (a b c d : Int) : Bool := isG a && isG b && decide (0 ≤ c) && decide (c ≤ 4194304) && decide (0 ≤ d) && decide (d ≤ c)
def gainG (a b c d i : Int) : Int := if c - d ≤ i then b else a + (b - a) * (d + i) / c
def atG (a b c d i : Int) : Int := if (!validG a b c d || decide (i < 0)) = true then 0 else gainG a b c d i

theorem shr16 (n : Int) : n.fdiv (2 ^ Nat.min 16 IntKind.i64.bits) = n / 65536 := Int.fdiv_eq_ediv_of_nonneg n (show (0 : Int) ≤ 65536 by decide)
theorem satG_in (n : Int) : -8388608 ≤ satG n ∧ satG n ≤ 8388607 := by unfold satG; omega
theorem clampG_in (n : Int) : 0 ≤ clampG n ∧ clampG n ≤ 100 := by unfold clampG; omega
theorem validG_in {a b c d : Int} (h : validG a b c d = true) : (0 ≤ a ∧ a ≤ 262144) ∧ (0 ≤ b ∧ b ≤ 262144) ∧ 0 ≤ c ∧ c ≤ 4194304 ∧ 0 ≤ d ∧ d ≤ c := by
  simp only [validG, isG, Bool.and_eq_true, decide_eq_true_eq] at h
  omega
theorem isG_in {n : Int} (h : isG n = true) : 0 ≤ n ∧ n ≤ 262144 := by simpa [isG] using h
theorem mul_bd {x y A B : Int} (h1 : -A ≤ x) (h2 : x ≤ A) (h3 : 0 ≤ y) (h4 : y ≤ B) (hA : 0 ≤ A) : -(A * B) ≤ x * y ∧ x * y ≤ A * B := by
  have e1 : x * y ≤ A * y := Int.mul_le_mul_of_nonneg_right h2 h3
  have e2 : A * y ≤ A * B := Int.mul_le_mul_of_nonneg_left h4 hA
  have e3 : -A * y ≤ x * y := Int.mul_le_mul_of_nonneg_right h1 h3
  have e4 : -A * y = -(A * y) := Int.neg_mul A y
  omega
theorem floorT {n c : Int} (hc : 0 < c) : (if n.tmod c < 0 then n.tdiv c - 1 else n.tdiv c) = n / c := by
  rw [Int.tmod_eq_emod, Int.tdiv_eq_ediv]
  have h1 := Int.emod_nonneg n (show c ≠ 0 by omega)
  have h2 := Int.emod_lt_of_pos n hc
  have h3 : (c.natAbs : Int) = c := by omega
  have h4 : c.sign = 1 := Int.sign_eq_one_of_pos hc
  by_cases h : 0 ≤ n ∨ c ∣ n
  · rw [if_pos h, if_pos h, if_neg (by omega)]; omega
  · rw [if_neg h, if_neg h, h3, if_pos (by omega), h4]; omega

theorem spec_sat (n : Int) : Spec Try.prog 0 51 [vI .i64 n] [] [] (vI .i32 (satG n)) [] [] := by
  refine spec_of_E (X := ⟨Try.prog, tt, Try.f51.ntmps, 1, fun _ => 0, (tab [])⟩) (M := []) (m := 5) rfl rfl ⟨tt_ok, tab_ok tabs_nil _ rfl rfl⟩ tt_mixed Try.func51 rfl (by decide) (by show (1 : Nat) ≤ _; exact Nat.le_of_ble_eq_true rfl) ⟨fun m hm => (V.bare_has rfl m hm).elim, by simp, by simp⟩ ?_
  simp only [↓gPre, gPost, gCore, gDef, Nat.reduceShiftRight, Nat.reduceMod, if_true, if_false, ↓reduceIte, reduceCtorEq, Nat.reduceEqDiff, Nat.reduceLT, Nat.reduceLeDiff, implies_true, forall_const, eq_self, ne_eq, not_true_eq_false, not_false_eq_true, imp_self, Nat.reduceAdd, Nat.reduceMul, Int.reduceLE, Int.reduceLT, Int.reduceNeg, Int.reduceAdd, Int.reduceToNat, Try.ntmps51, Try.results51, gTT]
  exact (IntWalk.i32_in _ (by have := satG_in n; omega)).symm
def E_sat : List V → Boxes → Toks → Name → Option Ent
  | [.c (.d (.int .i64 n))], [], [], _ => some ⟨True, vI .i32 (satG n), [], []⟩
  | _, _, _, _ => none
def E_sat_eq := And.intro (@E_sat.eq_1) (@E_sat.eq_1)
theorem E_sat_ok : Snd Try.prog 51 E_sat := by
  intro vs b k n e h hn hp
  unfold E_sat at h
  split at h
  · cases h; exact (spec_sat _).lift rfl _
  · cases h

theorem spec_is (n : Int) : Spec Try.prog 0 70 [vI .i64 n] [] [] (vB (isG n)) [] [] := by
  refine spec_of_E (X := ⟨Try.prog, tt, Try.f70.ntmps, 1, fun _ => 0, (tab [])⟩) (M := []) (m := 5) rfl rfl ⟨tt_ok, tab_ok tabs_nil _ rfl rfl⟩ tt_mixed Try.func70 rfl (by decide) (by show (1 : Nat) ≤ _; exact Nat.le_of_ble_eq_true rfl) ⟨fun m hm => (V.bare_has rfl m hm).elim, by simp, by simp⟩ ?_
  simp only [↓gPre, gPost, gCore, gDef, Nat.reduceShiftRight, Nat.reduceMod, if_true, if_false, ↓reduceIte, reduceCtorEq, Nat.reduceEqDiff, Nat.reduceLT, Nat.reduceLeDiff, implies_true, forall_const, eq_self, ne_eq, not_true_eq_false, not_false_eq_true, imp_self, Nat.reduceAdd, Nat.reduceMul, Int.reduceLE, Int.reduceLT, Int.reduceNeg, Int.reduceAdd, Int.reduceToNat, Try.ntmps70, Try.results70, gTT]
  rfl
def E_is : List V → Boxes → Toks → Name → Option Ent
  | [.c (.d (.int .i64 n))], [], [], _ => some ⟨True, vB (isG n), [], []⟩
  | _, _, _, _ => none
def E_is_eq := And.intro (@E_is.eq_1) (@E_is.eq_1)
theorem E_is_ok : Snd Try.prog 70 E_is := by
  intro vs b k n e h hn hp
  unfold E_is at h
  split at h
  · cases h; exact (spec_is _).lift rfl _
  · cases h

theorem spec_rsat (n : Int) : Spec Try.prog 0 57 [vI .i64 n] [] [] (vI .i32 (satG n)) [] [] := by
  refine spec_of_E (X := ⟨Try.prog, tt, Try.f57.ntmps, 1, fun _ => 0, (tab [])⟩) (M := []) (m := 5) rfl rfl ⟨tt_ok, tab_ok tabs_nil _ rfl rfl⟩ tt_mixed Try.func57 rfl (by decide) (by show (1 : Nat) ≤ _; exact Nat.le_of_ble_eq_true rfl) ⟨fun m hm => (V.bare_has rfl m hm).elim, by simp, by simp⟩ ?_
  simp only [↓gPre, gPost, gCore, gDef, Nat.reduceShiftRight, Nat.reduceMod, if_true, if_false, ↓reduceIte, reduceCtorEq, Nat.reduceEqDiff, Nat.reduceLT, Nat.reduceLeDiff, implies_true, forall_const, eq_self, ne_eq, not_true_eq_false, not_false_eq_true, imp_self, Nat.reduceAdd, Nat.reduceMul, Int.reduceLE, Int.reduceLT, Int.reduceNeg, Int.reduceAdd, Int.reduceToNat, Try.ntmps57, Try.results57, gTT]
  exact (IntWalk.i32_in _ (by have := satG_in n; omega)).symm
def E_rsat : List V → Boxes → Toks → Name → Option Ent
  | [.c (.d (.int .i64 n))], [], [], _ => some ⟨True, vI .i32 (satG n), [], []⟩
  | _, _, _, _ => none
def E_rsat_eq := And.intro (@E_rsat.eq_1) (@E_rsat.eq_1)
theorem E_rsat_ok : Snd Try.prog 57 E_rsat := by
  intro vs b k n e h hn hp
  unfold E_rsat at h
  split at h
  · cases h; exact (spec_rsat _).lift rfl _
  · cases h

theorem spec_apply (s n : Int) : Spec Try.prog 0 64 [vI .i32 s, vI .i64 n] [] [] (vI .i32 (applyG s n)) [] [] := by
  refine spec_of_E (X := ⟨Try.prog, tt, Try.f64.ntmps, 1, fun _ => 0, (tab [(70, E_is), (51, E_sat)])⟩) (M := []) (m := 32787) rfl rfl ⟨tt_ok, tab_ok (tabs_cons E_is_ok (tabs_cons E_sat_ok tabs_nil)) _ rfl rfl⟩ tt_mixed Try.func64 rfl (by decide) (by show (2 : Nat) ≤ _; exact Nat.le_of_ble_eq_true rfl) ⟨fun m hm => (V.bare_has rfl m hm).elim, by simp, by simp⟩ ?_
  simp only [↓gPre, gPost, gCore, gDef, Nat.reduceShiftRight, Nat.reduceMod, if_true, if_false, ↓reduceIte, reduceCtorEq, Nat.reduceEqDiff, Nat.reduceLT, Nat.reduceLeDiff, implies_true, forall_const, eq_self, ne_eq, not_true_eq_false, not_false_eq_true, imp_self, Nat.reduceAdd, Nat.reduceMul, Int.reduceLE, Int.reduceLT, Int.reduceNeg, Int.reduceAdd, Int.reduceToNat, E_is_eq, E_sat_eq, Try.ntmps64, Try.results64, gTT]
  refine ⟨fun h => by simp only [applyG, h, if_true], fun h => ?_⟩
  have hf : ¬ ((decide (s < -8388608) || decide (8388607 < s) || !isG n) = true) := by rw [h]; decide
  simp only [applyG, if_neg hf]
  simp only [Bool.or_eq_false_iff, decide_eq_false_iff_not, Bool.not_eq_false'] at h
  have hn := isG_in h.2
  have hb := mul_bd (x := s) (y := n) (A := 8388608) (B := 262144) (by omega) (by omega) hn.1 hn.2 (by decide)
  rw [shr16, IntWalk.i64_in s (by omega), IntWalk.i64_in (s * n) (by omega), IntWalk.i64_in _ (by omega)]
def E_apply : List V → Boxes → Toks → Name → Option Ent
  | [.c (.d (.int .i32 s)), .c (.d (.int .i64 n))], [], [], _ => some ⟨True, vI .i32 (applyG s n), [], []⟩
  | _, _, _, _ => none
def E_apply_eq := And.intro (@E_apply.eq_1) (@E_apply.eq_1)
theorem E_apply_ok : Snd Try.prog 64 E_apply := by
  intro vs b k n e h hn hp
  unfold E_apply at h
  split at h
  · cases h; exact (spec_apply _ _).lift rfl _
  · cases h

theorem spec_svalid (a b c d : Int) : Spec Try.prog 0 62 [.agg [.d (.int .i64 a), .d (.int .i64 b), .d (.int .i64 c), .d (.int .i64 d)]] [] [] (vB (validG a b c d)) [] [] := by
  refine spec_of_E (X := ⟨Try.prog, tt, Try.f62.ntmps, 1, fun _ => 0, (tab [(70, E_is)])⟩) (M := [(1, [0, 0, 0, 0, 0, 1099511627655, 0, 0, 0, 0, 0, 1099511619591, 0, 0, 0, 0, 0, 1099511103495, 0, 0, 0, 0, 0, 1099478073351, 0, 0, 0, 0, 0, 1097364144135, 0, 0, 0, 0, 0, 826781204487, 0, 0])]) (m := 7) rfl rfl ⟨tt_ok, tab_ok (tabs_cons E_is_ok tabs_nil) _ rfl rfl⟩ tt_mixed Try.func62 rfl (by decide) (by show (1 : Nat) ≤ _; exact Nat.le_of_ble_eq_true rfl) ⟨fun m hm => (V.bare_has rfl m hm).elim, by simp, by simp⟩ ?_
  simp only [↓gPre, gPost, gCore, gDef, Nat.reduceShiftRight, Nat.reduceMod, if_true, if_false, ↓reduceIte, reduceCtorEq, Nat.reduceEqDiff, Nat.reduceLT, Nat.reduceLeDiff, implies_true, forall_const, eq_self, ne_eq, not_true_eq_false, not_false_eq_true, imp_self, Nat.reduceAdd, Nat.reduceMul, Int.reduceLE, Int.reduceLT, Int.reduceNeg, Int.reduceAdd, Int.reduceToNat, E_is_eq, Try.ntmps62, Try.results62, gTT]
  rfl
def E_svalid : List V → Boxes → Toks → Name → Option Ent
  | [.agg [.d (.int .i64 a), .d (.int .i64 b), .d (.int .i64 c), .d (.int .i64 d)]], [], [], _ => some ⟨True, vB (validG a b c d), [], []⟩
  | _, _, _, _ => none
def E_svalid_eq := And.intro (@E_svalid.eq_1) (@E_svalid.eq_1)
theorem E_svalid_ok : Snd Try.prog 62 E_svalid := by
  intro vs b k n e h hn hp
  unfold E_svalid at h
  split at h
  · cases h; exact (spec_svalid _ _ _ _).lift rfl _
  · cases h

theorem spec_sgain (a b c d i : Int) (hv : validG a b c d = true) (hi : 0 ≤ i) : Spec Try.prog 0 63 [.agg [.d (.int .i64 a), .d (.int .i64 b), .d (.int .i64 c), .d (.int .i64 d)], vI .i64 i] [] [] (vI .i64 (gainG a b c d i)) [] [] := by
  refine spec_of_E (X := ⟨Try.prog, tt, Try.f63.ntmps, 1, fun _ => 0, (tab [])⟩) (M := [(3, [0, 0, 0, 0, 0, 4402326831223, 0, 0, 0, 0, 0, 4401301323895, 0, 0])]) (m := 4398046543991) rfl rfl ⟨tt_ok, tab_ok tabs_nil _ rfl rfl⟩ tt_mixed Try.func63 rfl (by decide) (by show (2 : Nat) ≤ _; exact Nat.le_of_ble_eq_true rfl) ⟨fun m hm => (V.bare_has rfl m hm).elim, by simp, by simp⟩ ?_
  simp only [↓gPre, gPost, gCore, gDef, Nat.reduceShiftRight, Nat.reduceMod, if_true, if_false, ↓reduceIte, reduceCtorEq, Nat.reduceEqDiff, Nat.reduceLT, Nat.reduceLeDiff, implies_true, forall_const, eq_self, ne_eq, not_true_eq_false, not_false_eq_true, imp_self, Nat.reduceAdd, Nat.reduceMul, Int.reduceLE, Int.reduceLT, Int.reduceNeg, Int.reduceAdd, Int.reduceToNat, Try.ntmps63, Try.results63, gTT]
  obtain ⟨ha, hb, hc0, hc, hd0, hd⟩ := validG_in hv
  have ew : IntKind.i64.wrap (c - d) = c - d := IntWalk.i64_in _ (by omega)
  rw [ew]
  refine ⟨fun h => by simp only [gainG, if_pos (of_decide_eq_true h)], fun h => ?_⟩
  have hlt : ¬ (c - d ≤ i) := of_decide_eq_false h
  have hcp : 0 < c := by omega
  have hm := mul_bd (x := b - a) (y := d + i) (A := 262144) (B := 4194304) (by omega) (by omega) (by omega) (by omega) (by decide)
  rw [IntWalk.i64_in (b - a) (by omega), IntWalk.i64_in (d + i) (by omega), IntWalk.i64_in ((b - a) * (d + i)) (by omega)]
  have hf := floorT (n := (b - a) * (d + i)) hcp
  have hq : -262144 ≤ (b - a) * (d + i) / c ∧ (b - a) * (d + i) / c ≤ 262144 := by
    have h2 := mul_bd (x := b - a) (y := d + i) (A := 262144) (B := c) (by omega) (by omega) (by omega) (by omega) (by decide)
    exact ⟨Int.le_ediv_of_mul_le hcp (by omega), Int.ediv_le_of_le_mul hcp (by omega)⟩
  simp only [gainG, if_neg hlt]
  refine ⟨by omega, by omega, fun h => ?_, fun h => ?_⟩
  · rw [if_pos (of_decide_eq_true h)] at hf
    rw [IntWalk.i64_in (((b - a) * (d + i)).tdiv c) (by omega), hf, IntWalk.i64_in ((b - a) * (d + i) / c) (by omega), IntWalk.i64_in (a + (b - a) * (d + i) / c) (by omega)]
  · rw [if_neg (of_decide_eq_false h)] at hf
    rw [hf, IntWalk.i64_in ((b - a) * (d + i) / c) (by omega), IntWalk.i64_in (a + (b - a) * (d + i) / c) (by omega)]
def E_sgain : List V → Boxes → Toks → Name → Option Ent
  | [.agg [.d (.int .i64 a), .d (.int .i64 b), .d (.int .i64 c), .d (.int .i64 d)], .c (.d (.int .i64 i))], [], [], _ => some ⟨validG a b c d = true ∧ 0 ≤ i, vI .i64 (gainG a b c d i), [], []⟩
  | _, _, _, _ => none
def E_sgain_eq := And.intro (@E_sgain.eq_1) (@E_sgain.eq_1)
theorem E_sgain_ok : Snd Try.prog 63 E_sgain := by
  intro vs b k n e h hn hp
  unfold E_sgain at h
  split at h
  · cases h; obtain ⟨hp0, hp1⟩ := hp; exact (spec_sgain _ _ _ _ _ hp0 hp1).lift rfl _
  · cases h

theorem spec_gvalid (a b c d : Int) : Spec Try.prog 0 43 [.agg [.d (.int .i64 a), .d (.int .i64 b), .d (.int .i64 c), .d (.int .i64 d)]] [] [] (vB (validG a b c d)) [] [] := by
  refine spec_of_E (X := ⟨Try.prog, tt, Try.f43.ntmps, 1, fun _ => 0, (tab [(62, E_svalid)])⟩) (M := []) (m := 7) rfl rfl ⟨tt_ok, tab_ok (tabs_cons E_svalid_ok tabs_nil) _ rfl rfl⟩ tt_mixed Try.func43 rfl (by decide) (by show (1 : Nat) ≤ _; exact Nat.le_of_ble_eq_true rfl) ⟨fun m hm => (V.bare_has rfl m hm).elim, by simp, by simp⟩ ?_
  simp only [↓gPre, gPost, gCore, gDef, Nat.reduceShiftRight, Nat.reduceMod, if_true, if_false, ↓reduceIte, reduceCtorEq, Nat.reduceEqDiff, Nat.reduceLT, Nat.reduceLeDiff, implies_true, forall_const, eq_self, ne_eq, not_true_eq_false, not_false_eq_true, imp_self, Nat.reduceAdd, Nat.reduceMul, Int.reduceLE, Int.reduceLT, Int.reduceNeg, Int.reduceAdd, Int.reduceToNat, E_svalid_eq, Try.ntmps43, Try.results43, gTT]

def E_gvalid : List V → Boxes → Toks → Name → Option Ent
  | [.agg [.d (.int .i64 a), .d (.int .i64 b), .d (.int .i64 c), .d (.int .i64 d)]], [], [], _ => some ⟨True, vB (validG a b c d), [], []⟩
  | _, _, _, _ => none
def E_gvalid_eq := And.intro (@E_gvalid.eq_1) (@E_gvalid.eq_1)
theorem E_gvalid_ok : Snd Try.prog 43 E_gvalid := by
  intro vs b k n e h hn hp
  unfold E_gvalid at h
  split at h
  · cases h; exact (spec_gvalid _ _ _ _).lift rfl _
  · cases h

theorem spec_rgain (n : Int) : Spec Try.prog 0 65 [vI .i64 n] [] [] (vB (isG n)) [] [] := by
  refine spec_of_E (X := ⟨Try.prog, tt, Try.f65.ntmps, 1, fun _ => 0, (tab [])⟩) (M := []) (m := 5) rfl rfl ⟨tt_ok, tab_ok tabs_nil _ rfl rfl⟩ tt_mixed Try.func65 rfl (by decide) (by show (1 : Nat) ≤ _; exact Nat.le_of_ble_eq_true rfl) ⟨fun m hm => (V.bare_has rfl m hm).elim, by simp, by simp⟩ ?_
  simp only [↓gPre, gPost, gCore, gDef, Nat.reduceShiftRight, Nat.reduceMod, if_true, if_false, ↓reduceIte, reduceCtorEq, Nat.reduceEqDiff, Nat.reduceLT, Nat.reduceLeDiff, implies_true, forall_const, eq_self, ne_eq, not_true_eq_false, not_false_eq_true, imp_self, Nat.reduceAdd, Nat.reduceMul, Int.reduceLE, Int.reduceLT, Int.reduceNeg, Int.reduceAdd, Int.reduceToNat, Try.ntmps65, Try.results65, gTT]
  rfl
def E_rgain : List V → Boxes → Toks → Name → Option Ent
  | [.c (.d (.int .i64 n))], [], [], _ => some ⟨True, vB (isG n), [], []⟩
  | _, _, _, _ => none
def E_rgain_eq := And.intro (@E_rgain.eq_1) (@E_rgain.eq_1)
theorem E_rgain_ok : Snd Try.prog 65 E_rgain := by
  intro vs b k n e h hn hp
  unfold E_rgain at h
  split at h
  · cases h; exact (spec_rgain _).lift rfl _
  · cases h

theorem spec_refapply (s n : Int) (hs : -2147483648 ≤ s ∧ s ≤ 2147483647) : Spec Try.prog 0 58 [vI .i32 s, vI .i64 n] [] [] (vI .i32 (applyG s n)) [] [] := by
  refine spec_of_E (X := ⟨Try.prog, tt, Try.f58.ntmps, 1, fun _ => 0, (tab [(65, E_rgain), (57, E_rsat)])⟩) (M := [(1, [0, 0, 0, 0, 0, 130323, 0, 0, 0, 0, 0, 0])]) (m := 65555) rfl rfl ⟨tt_ok, tab_ok (tabs_cons E_rgain_ok (tabs_cons E_rsat_ok tabs_nil)) _ rfl rfl⟩ tt_mixed Try.func58 rfl (by decide) (by show (2 : Nat) ≤ _; exact Nat.le_of_ble_eq_true rfl) ⟨fun m hm => (V.bare_has rfl m hm).elim, by simp, by simp⟩ ?_
  simp only [↓gPre, gPost, gCore, gDef, Nat.reduceShiftRight, Nat.reduceMod, if_true, if_false, ↓reduceIte, reduceCtorEq, Nat.reduceEqDiff, Nat.reduceLT, Nat.reduceLeDiff, implies_true, forall_const, eq_self, ne_eq, not_true_eq_false, not_false_eq_true, imp_self, Nat.reduceAdd, Nat.reduceMul, Int.reduceLE, Int.reduceLT, Int.reduceNeg, Int.reduceAdd, Int.reduceToNat, E_rgain_eq, E_rsat_eq, Try.ntmps58, Try.results58, gTT]
  rw [IntWalk.i64_in s (by omega)]
  refine ⟨fun h => by simp only [applyG, h, if_true], fun h => ?_⟩
  have hf : ¬ ((decide (s < -8388608) || decide (8388607 < s) || !isG n) = true) := by rw [h]; decide
  simp only [applyG, if_neg hf]
  simp only [Bool.or_eq_false_iff, decide_eq_false_iff_not, Bool.not_eq_false'] at h
  have hn := isG_in h.2
  have hb := mul_bd (x := s) (y := n) (A := 8388608) (B := 262144) (by omega) (by omega) hn.1 hn.2 (by decide)
  rw [shr16, IntWalk.i64_in (s * n) (by omega), IntWalk.i64_in _ (by omega)]
def E_refapply : List V → Boxes → Toks → Name → Option Ent
  | [.c (.d (.int .i32 s)), .c (.d (.int .i64 n))], [], [], _ => some ⟨(-2147483648 ≤ s ∧ s ≤ 2147483647), vI .i32 (applyG s n), [], []⟩
  | _, _, _, _ => none
def E_refapply_eq := And.intro (@E_refapply.eq_1) (@E_refapply.eq_1)
theorem E_refapply_ok : Snd Try.prog 58 E_refapply := by
  intro vs b k n e h hn hp
  unfold E_refapply at h
  split at h
  · cases h; have hp0 := hp; exact (spec_refapply _ _ hp0).lift rfl _
  · cases h

theorem spec_refvalid (a b c d : Int) : Spec Try.prog 0 46 [.agg [.d (.int .i64 a), .d (.int .i64 b), .d (.int .i64 c), .d (.int .i64 d)]] [] [] (vB (validG a b c d)) [] [] := by
  refine spec_of_E (X := ⟨Try.prog, tt, Try.f46.ntmps, 1, fun _ => 0, (tab [(65, E_rgain)])⟩) (M := [(1, [0, 0, 0, 0, 0, 8589934407, 0, 0, 0, 0, 0, 8589920263, 0, 0, 0, 0, 0, 8588886023, 0, 0, 0, 0, 0, 8522825735, 0, 0, 0, 0, 0, 4294967303, 0])]) (m := 7) rfl rfl ⟨tt_ok, tab_ok (tabs_cons E_rgain_ok tabs_nil) _ rfl rfl⟩ tt_mixed Try.func46 rfl (by decide) (by show (1 : Nat) ≤ _; exact Nat.le_of_ble_eq_true rfl) ⟨fun m hm => (V.bare_has rfl m hm).elim, by simp, by simp⟩ ?_
  simp only [↓gPre, gPost, gCore, gDef, Nat.reduceShiftRight, Nat.reduceMod, if_true, if_false, ↓reduceIte, reduceCtorEq, Nat.reduceEqDiff, Nat.reduceLT, Nat.reduceLeDiff, implies_true, forall_const, eq_self, ne_eq, not_true_eq_false, not_false_eq_true, imp_self, Nat.reduceAdd, Nat.reduceMul, Int.reduceLE, Int.reduceLT, Int.reduceNeg, Int.reduceAdd, Int.reduceToNat, E_rgain_eq, Try.ntmps46, Try.results46, gTT]
  rfl
def E_refvalid : List V → Boxes → Toks → Name → Option Ent
  | [.agg [.d (.int .i64 a), .d (.int .i64 b), .d (.int .i64 c), .d (.int .i64 d)]], [], [], _ => some ⟨True, vB (validG a b c d), [], []⟩
  | _, _, _, _ => none
def E_refvalid_eq := And.intro (@E_refvalid.eq_1) (@E_refvalid.eq_1)
theorem E_refvalid_ok : Snd Try.prog 46 E_refvalid := by
  intro vs b k n e h hn hp
  unfold E_refvalid at h
  split at h
  · cases h; exact (spec_refvalid _ _ _ _).lift rfl _
  · cases h

theorem spec_floor (n c : Int) (hc : 0 < c) (hn : -1152921504606846976 ≤ n ∧ n ≤ 1152921504606846976) : Spec Try.prog 0 69 [vI .i64 n, vI .i64 c] [] [] (vI .i64 (n / c)) [] [] := by
  refine spec_of_E (X := ⟨Try.prog, tt, Try.f69.ntmps, 1, fun _ => 0, (tab [])⟩) (M := []) (m := 4147) rfl rfl ⟨tt_ok, tab_ok tabs_nil _ rfl rfl⟩ tt_mixed Try.func69 rfl (by decide) (by show (2 : Nat) ≤ _; exact Nat.le_of_ble_eq_true rfl) ⟨fun m hm => (V.bare_has rfl m hm).elim, by simp, by simp⟩ ?_
  simp only [↓gPre, gPost, gCore, gDef, Nat.reduceShiftRight, Nat.reduceMod, if_true, if_false, ↓reduceIte, reduceCtorEq, Nat.reduceEqDiff, Nat.reduceLT, Nat.reduceLeDiff, implies_true, forall_const, eq_self, ne_eq, not_true_eq_false, not_false_eq_true, imp_self, Nat.reduceAdd, Nat.reduceMul, Int.reduceLE, Int.reduceLT, Int.reduceNeg, Int.reduceAdd, Int.reduceToNat, Try.ntmps69, Try.results69, gTT]
  have hf := floorT (n := n) hc
  have hB : (1152921504606846976 : Int) ≤ 1152921504606846976 * c := by omega
  have hq : -1152921504606846976 ≤ n / c ∧ n / c ≤ 1152921504606846976 := ⟨Int.le_ediv_of_mul_le hc (by omega), Int.ediv_le_of_le_mul hc (by omega)⟩
  refine ⟨by omega, by omega, fun h => ?_, fun h => ?_⟩
  · rw [if_pos (of_decide_eq_true h)] at hf
    rw [IntWalk.i64_in (n.tdiv c) (by omega), hf, IntWalk.i64_in (n / c) (by omega)]
  · rw [if_neg (of_decide_eq_false h)] at hf
    rw [hf, IntWalk.i64_in (n / c) (by omega)]
def E_floor : List V → Boxes → Toks → Name → Option Ent
  | [.c (.d (.int .i64 n)), .c (.d (.int .i64 c))], [], [], _ => some ⟨0 < c ∧ (-1152921504606846976 ≤ n ∧ n ≤ 1152921504606846976), vI .i64 (n / c), [], []⟩
  | _, _, _, _ => none
def E_floor_eq := And.intro (@E_floor.eq_1) (@E_floor.eq_1)
theorem E_floor_ok : Snd Try.prog 69 E_floor := by
  intro vs b k n e h hn hp
  unfold E_floor at h
  split at h
  · cases h; obtain ⟨hp0, hp1⟩ := hp; exact (spec_floor _ _ hp0 hp1).lift rfl _
  · cases h

theorem spec_refat (a b c d i : Int) : Spec Try.prog 0 59 [.agg [.d (.int .i64 a), .d (.int .i64 b), .d (.int .i64 c), .d (.int .i64 d)], vI .i64 i] [] [] (vI .i64 (atG a b c d i)) [] [] := by
  refine spec_of_E (X := ⟨Try.prog, tt, Try.f59.ntmps, 1, fun _ => 0, (tab [(46, E_refvalid), (69, E_floor)])⟩) (M := [(5, [0, 0, 0, 0, 0, 137393080343, 0, 0, 0, 0, 0, 133148444695, 0, 0, 0, 0, 0])]) (m := 264215) rfl rfl ⟨tt_ok, tab_ok (tabs_cons E_refvalid_ok (tabs_cons E_floor_ok tabs_nil)) _ rfl rfl⟩ tt_mixed Try.func59 rfl (by decide) (by show (2 : Nat) ≤ _; exact Nat.le_of_ble_eq_true rfl) ⟨fun m hm => (V.bare_has rfl m hm).elim, by simp, by simp⟩ ?_
  simp only [↓gPre, gPost, gCore, gDef, Nat.reduceShiftRight, Nat.reduceMod, if_true, if_false, ↓reduceIte, reduceCtorEq, Nat.reduceEqDiff, Nat.reduceLT, Nat.reduceLeDiff, implies_true, forall_const, eq_self, ne_eq, not_true_eq_false, not_false_eq_true, imp_self, Nat.reduceAdd, Nat.reduceMul, Int.reduceLE, Int.reduceLT, Int.reduceNeg, Int.reduceAdd, Int.reduceToNat, E_refvalid_eq, E_floor_eq, Try.ntmps59, Try.results59, gTT]
  refine ⟨fun h => by simp only [atG, h, if_true], fun h => ?_⟩
  have hf : ¬ ((!validG a b c d || decide (i < 0)) = true) := by rw [h]; decide
  simp only [atG, if_neg hf]
  simp only [Bool.or_eq_false_iff, Bool.not_eq_false', decide_eq_false_iff_not] at h
  obtain ⟨ha, hb, hc0, hc, hd0, hd⟩ := validG_in h.1
  rw [IntWalk.i64_in (c - d) (by omega)]
  refine ⟨fun e => by simp only [gainG, if_pos (of_decide_eq_true e)], fun e => ?_⟩
  have hlt : ¬ (c - d ≤ i) := of_decide_eq_false e
  have hcp : 0 < c := by omega
  have hm := mul_bd (x := b - a) (y := d + i) (A := 262144) (B := 4194304) (by omega) (by omega) (by omega) (by omega) (by decide)
  have hq : -262144 ≤ (b - a) * (d + i) / c ∧ (b - a) * (d + i) / c ≤ 262144 := by
    have h2 := mul_bd (x := b - a) (y := d + i) (A := 262144) (B := c) (by omega) (by omega) (by omega) (by omega) (by decide)
    exact ⟨Int.le_ediv_of_mul_le hcp (by omega), Int.ediv_le_of_le_mul hcp (by omega)⟩
  have e1 : IntKind.i64.wrap (IntKind.i64.wrap (b - a) * IntKind.i64.wrap (d + i)) = (b - a) * (d + i) := by
    rw [IntWalk.i64_in (b - a) (by omega), IntWalk.i64_in (d + i) (by omega), IntWalk.i64_in ((b - a) * (d + i)) (by omega)]
  refine ⟨by kernel_rfl, ⟨hcp, by rw [e1]; omega⟩, ?_⟩
  rw [e1, IntWalk.i64_in (a + (b - a) * (d + i) / c) (by omega)]
  simp only [gainG, if_neg hlt]
def E_refat : List V → Boxes → Toks → Name → Option Ent
  | [.agg [.d (.int .i64 a), .d (.int .i64 b), .d (.int .i64 c), .d (.int .i64 d)], .c (.d (.int .i64 i))], [], [], _ => some ⟨True, vI .i64 (atG a b c d i), [], []⟩
  | _, _, _, _ => none
def E_refat_eq := And.intro (@E_refat.eq_1) (@E_refat.eq_1)
theorem E_refat_ok : Snd Try.prog 59 E_refat := by
  intro vs b k n e h hn hp
  unfold E_refat at h
  split at h
  · cases h; exact (spec_refat _ _ _ _ _).lift rfl _
  · cases h

theorem spec_next (l : List UInt8) (n : Int) : Spec Try.prog 0 10 [.c (.lp ⟨0, 0⟩ 0), vI .i64 n] [(⟨0, 0⟩, [.d (.list (LB l))])] [] (vI .i64 (dN l n)) [(⟨0, 0⟩, [.d (.list (LB (dT l n)))])] [] := by
  refine spec_of_E (X := ⟨Try.prog, tt, Try.f10.ntmps, 1, fun _ => 0, (tab [])⟩) (M := []) (m := 32819) rfl rfl ⟨tt_ok, tab_ok tabs_nil _ rfl rfl⟩ tt_mixed Try.func10 rfl (by decide) (by show (2 : Nat) ≤ _; exact Nat.le_of_ble_eq_true rfl) ⟨by simp [V.has, C.has], by simp [C.has], by simp⟩ ?_
  simp only [↓gPre, gPost, gCore, gDef, Nat.reduceShiftRight, Nat.reduceMod, if_true, if_false, ↓reduceIte, reduceCtorEq, Nat.reduceEqDiff, Nat.reduceLT, Nat.reduceLeDiff, implies_true, forall_const, eq_self, ne_eq, not_true_eq_false, not_false_eq_true, imp_self, Nat.reduceAdd, Nat.reduceMul, Int.reduceLE, Int.reduceLT, Int.reduceNeg, Int.reduceAdd, Int.reduceToNat, Try.ntmps10, Try.results10, gTT]
  refine ⟨fun h => ?_, fun h => ?_⟩
  · rcases (Bool.or_eq_true _ _).mp h with h | h
    · have h0 : l = [] := by cases l with | nil => rfl | cons a l => simp at h; omega
      subst h0
      unfold dN dT
      split <;> simp
    · have h1 := of_decide_eq_true h
      simp only [dN, dT, if_pos h1, and_self]
  · rw [Bool.or_eq_false_iff] at h
    have h1 := of_decide_eq_false h.2
    match l, h.1 with
    | a :: l, _ =>
      simp only [dN, dT, if_neg h1, List.length_cons, List.headD_cons, List.tail_cons, List.getElem?_cons_zero, Option.getD_some, List.drop_succ_cons, List.drop_zero]
      refine ⟨by omega, by omega, by omega, ?_, by rw [Nat.add_sub_cancel, List.take_length]⟩
      have := u8_lt a
      rw [IntWalk.i64_in _ (by omega), Int.tmod_eq_emod_of_nonneg (by omega)]
def E_next : List V → Boxes → Toks → Name → Option Ent
  | [.c (.lp n0 0), .c (.d (.int .i64 n))], [(m0, [.d (.list q_l)])], [], _ => some ⟨n0.lv ≤ 1 ∧ m0 = n0 ∧ q_l = LB (bys q_l), vI .i64 (dN (bys q_l) n), [(n0, [.d (.list (LB (dT (bys q_l) n)))])], []⟩
  | _, _, _, _ => none
def E_next_eq := And.intro (@E_next.eq_1) (@E_next.eq_1)
theorem E_next_ok : Snd Try.prog 10 E_next := by
  intro vs b k n e h hn hp
  unfold E_next at h
  split at h
  · cases h; obtain ⟨hl0, rfl, hq0⟩ := hp; obtain ⟨_, rfl⟩ := LB_ex hq0; simp only [ints_LI, bys_LB, blks_LK, lls_LL]; exact Spec.ren1 (spec_next _ _) 0 (by simp [supOK, V.names, C.names, namesB, namesK]) hl0 
  · cases h

theorem spec_new (l : List UInt8) : Spec Try.prog 0 9 [vL (LB l)] [] [] (.c (.lp ⟨0, 9⟩ 0)) [(⟨0, 9⟩, [.d (.list (LB (l.take 300)))])] [] := by
  refine spec_of_E_new (X := ⟨Try.prog, tt, Try.f9.ntmps, 1, fun _ => 0, (tab [])⟩) (M := []) (m := 5) (r0 := .c (.lp ⟨1, 9⟩ 0)) (b0 := [(⟨1, 9⟩, [.d (.list (LB (l.take 300)))])]) (k0 := []) ⟨1, 9⟩ ⟨0, 9⟩ rfl rfl ⟨tt_ok, tab_ok tabs_nil _ rfl rfl⟩ tt_mixed Try.func9 rfl (by decide) (by show (1 : Nat) ≤ _; exact Nat.le_of_ble_eq_true rfl) rfl rfl rfl ⟨by simp [V.has, C.has], by simp [C.has], by simp⟩ (by decide) (by simp [V.names, C.names, namesB, namesK]) (by simp [lk]) (by simp [lk]) (by simp [lk]) ?_
  simp only [↓gPre, gPost, gCore, gDef, Nat.reduceShiftRight, Nat.reduceMod, if_true, if_false, ↓reduceIte, reduceCtorEq, Nat.reduceEqDiff, Nat.reduceLT, Nat.reduceLeDiff, implies_true, forall_const, eq_self, ne_eq, not_true_eq_false, not_false_eq_true, imp_self, Nat.reduceAdd, Nat.reduceMul, Int.reduceLE, Int.reduceLT, Int.reduceNeg, Int.reduceAdd, Int.reduceToNat, Try.ntmps9, Try.results9, gTT]
  refine ⟨by split <;> omega, ?_⟩
  have e : (if (300 : Int) < ↑l.length then (300 : Int) else ↑l.length).toNat = min 300 l.length := by split <;> omega
  rw [e, Nat.sub_zero, List.take_eq_take_min]
def E_new : List V → Boxes → Toks → Name → Option Ent
  | [.c (.d (.list q_l))], [], [], nF => some ⟨q_l = LB (bys q_l), .c (.lp nF 0), [(nF, [.d (.list (LB ((bys q_l).take 300)))])], []⟩
  | _, _, _, _ => none
def E_new_eq := And.intro (@E_new.eq_1) (@E_new.eq_1)
theorem E_new_ok : Snd Try.prog 9 E_new := by
  intro vs b k n e h hn hp
  unfold E_new at h
  split at h
  · cases h; have hq0 := hp; obtain ⟨_, rfl⟩ := LB_ex hq0; simp only [ints_LI, bys_LB, blks_LK, lls_LL]; exact Spec.ren1 (spec_new _) 9 (by simp [supOK, V.names, C.names, namesB, namesK]) (Nat.le_of_eq hn) 
  · cases h

def smpX (x : Int) : Bool := decide (-8388608 ≤ x) && decide (x ≤ 8388607)
def chBk (c : Int) (n : Nat) : Bool := decide (c < 1) || decide (8 < c) || (n : Int).tmod c != 0 || decide (65536 < IntKind.i64.wrap ((n : Int).tdiv c))
def blkV (c : Int) (l : List Int) : Bool := !chBk c l.length && l.all smpX
theorem smpX_in {x : Int} (h : smpX x = true) : -8388608 ≤ x ∧ x ≤ 8388607 := by simpa [smpX] using h
theorem chBk_in {c : Int} {n : Nat} (h : chBk c n = false) : 1 ≤ c ∧ c ≤ 8 ∧ n = n / c.toNat * c.toNat := by
  simp only [chBk, Bool.or_eq_false_iff, decide_eq_false_iff_not, bne_eq_false_iff_eq] at h
  obtain ⟨⟨⟨h1, h2⟩, h3⟩, _⟩ := h
  refine ⟨by omega, by omega, ?_⟩
  have e : c = (c.toNat : Int) := by omega
  rw [e, Int.tmod_eq_emod_of_nonneg (by omega)] at h3
  have h4 : n % c.toNat = 0 := by exact_mod_cast h3
  exact (Nat.div_mul_cancel (Nat.dvd_of_mod_eq_zero h4)).symm

/-- A sample from dice; the dice behind it. -/
def sV (l : List UInt8) : Int := if dN l 8 = 0 then 0 else if dN l 8 = 1 then 8388607 else if dN l 8 = 2 then -8388608 else if dN l 8 = 3 then dN (dT l 8) 256 - 128 else dN (dT l 8) 256 * 65536 - 8388608 + dN (dT (dT l 8) 256) 256 * 256 + dN (dT (dT (dT l 8) 256) 256) 256
def sR (l : List UInt8) : List UInt8 := if dN l 8 = 0 then dT l 8 else if dN l 8 = 1 then dT l 8 else if dN l 8 = 2 then dT l 8 else if dN l 8 = 3 then dT (dT l 8) 256 else dT (dT (dT (dT l 8) 256) 256) 256
theorem sV_in (l : List UInt8) : -8388608 ≤ sV l ∧ sV l ≤ 8388607 := by
  have h1 := dN_ge (dT l 8) 256
  have h2 := dN_lt (dT l 8) 256 (by decide)
  have h3 := dN_ge (dT (dT l 8) 256) 256
  have h4 := dN_lt (dT (dT l 8) 256) 256 (by decide)
  have h5 := dN_ge (dT (dT (dT l 8) 256) 256) 256
  have h6 := dN_lt (dT (dT (dT l 8) 256) 256) 256 (by decide)
  unfold sV
  omega

theorem spec_sample (l : List UInt8) : Spec Try.prog 0 34 [.c (.lp ⟨0, 0⟩ 0)] [(⟨0, 0⟩, [.d (.list (LB l))])] [] (vI .i32 (sV l)) [(⟨0, 0⟩, [.d (.list (LB (sR l)))])] [] := by
  refine spec_of_E (X := ⟨Try.prog, tt, Try.f34.ntmps, 1, fun _ => 0, (tab [(10, E_next)])⟩) (M := [(10, [0, 0, 0, 0, 0, 2145389237, 0, 0, 0, 0, 0, 1946159797, 0, 0, 0])]) (m := 2741) rfl rfl ⟨tt_ok, tab_ok (tabs_cons E_next_ok tabs_nil) _ rfl rfl⟩ tt_mixed Try.func34 rfl (by decide) (by show (1 : Nat) ≤ _; exact Nat.le_of_ble_eq_true rfl) ⟨by simp [V.has, C.has], by simp [C.has], by simp⟩ ?_
  simp only [↓gPre, gPost, gCore, gDef, Nat.reduceShiftRight, Nat.reduceMod, if_true, if_false, ↓reduceIte, reduceCtorEq, Nat.reduceEqDiff, Nat.reduceLT, Nat.reduceLeDiff, implies_true, forall_const, eq_self, ne_eq, not_true_eq_false, not_false_eq_true, imp_self, Nat.reduceAdd, Nat.reduceMul, Int.reduceLE, Int.reduceLT, Int.reduceNeg, Int.reduceAdd, Int.reduceToNat, E_next_eq, Try.ntmps34, Try.results34, gTT]
  refine ⟨fun h => ?_, fun h0 => ⟨fun h => ?_, fun h1 => ⟨fun h => ?_, fun h2 => ⟨fun h => ?_, fun h3 => ?_⟩⟩⟩⟩
  · have e := beq_iff_eq.1 h
    simp [sV, sR, e]
  · have e := beq_iff_eq.1 h
    simp [sV, sR, e]
  · have e := beq_iff_eq.1 h
    simp [sV, sR, e]
  · have e := beq_iff_eq.1 h
    have a1 := dN_ge (dT l 8) 256
    have a2 := dN_lt (dT l 8) 256 (by decide)
    rw [IntWalk.i32_in (dN (dT l 8) 256) (by omega), IntWalk.i32_in (dN (dT l 8) 256 - 128) (by omega)]
    simp [sV, sR, e]
  · have e0 : dN l 8 ≠ 0 := by simpa using h0
    have e1 : dN l 8 ≠ 1 := by simpa using h1
    have e2 : dN l 8 ≠ 2 := by simpa using h2
    have e3 : dN l 8 ≠ 3 := by simpa using h3
    have a1 := dN_ge (dT l 8) 256
    have a2 := dN_lt (dT l 8) 256 (by decide)
    have a3 := dN_ge (dT (dT l 8) 256) 256
    have a4 := dN_lt (dT (dT l 8) 256) 256 (by decide)
    have a5 := dN_ge (dT (dT (dT l 8) 256) 256) 256
    have a6 := dN_lt (dT (dT (dT l 8) 256) 256) 256 (by decide)
    have p1 : (2 : Int) ^ Nat.min 16 IntKind.i32.bits = 65536 := by decide
    have p2 : (2 : Int) ^ Nat.min 8 IntKind.i32.bits = 256 := by decide
    rw [p1, p2, IntWalk.i32_in (dN (dT l 8) 256) (by omega), IntWalk.i32_in (dN (dT l 8) 256 * 65536) (by omega), IntWalk.i32_in (dN (dT l 8) 256 * 65536 - 8388608) (by omega),
      IntWalk.i32_in (dN (dT (dT l 8) 256) 256) (by omega), IntWalk.i32_in (dN (dT (dT l 8) 256) 256 * 256) (by omega), IntWalk.i32_in (dN (dT l 8) 256 * 65536 - 8388608 + dN (dT (dT l 8) 256) 256 * 256) (by omega),
      IntWalk.i32_in (dN (dT (dT (dT l 8) 256) 256) 256) (by omega), IntWalk.i32_in _ (by omega)]
    simp [sV, sR, e0, e1, e2, e3]
def E_sample : List V → Boxes → Toks → Name → Option Ent
  | [.c (.lp n0 0)], [(m0, [.d (.list q_l)])], [], _ => some ⟨n0.lv ≤ 1 ∧ m0 = n0 ∧ q_l = LB (bys q_l), vI .i32 (sV (bys q_l)), [(n0, [.d (.list (LB (sR (bys q_l))))])], []⟩
  | _, _, _, _ => none
def E_sample_eq := And.intro (@E_sample.eq_1) (@E_sample.eq_1)
theorem E_sample_ok : Snd Try.prog 34 E_sample := by
  intro vs b k n e h hn hp
  unfold E_sample at h
  split at h
  · cases h; obtain ⟨hl0, rfl, hq0⟩ := hp; obtain ⟨_, rfl⟩ := LB_ex hq0; simp only [ints_LI, bys_LB, blks_LK, lls_LL]; exact Spec.ren1 (spec_sample _) 0 (by simp [supOK, V.names, C.names, namesB, namesK]) hl0 
  · cases h

theorem spec_samedata (a b : List Int) (ha : a.length ≤ 1000000000) : Spec Try.prog 0 33 [vL (LI .i32 a), vL (LI .i32 b)] [] [] (vB (a == b)) [] [] := by
  refine spec_of_E (X := ⟨Try.prog, tt, Try.f33.ntmps, 1, fun _ => 0, (tab [])⟩) (M := []) (m := 16806963) rfl rfl ⟨tt_ok, tab_ok tabs_nil _ rfl rfl⟩ tt_mixed Try.func33 rfl (by decide) (by show (2 : Nat) ≤ _; exact Nat.le_of_ble_eq_true rfl) ⟨fun m hm => (V.bare_has rfl m hm).elim, by simp, by simp⟩ ?_
  simp only [↓gPre, gPost, gCore, gDef, Nat.reduceShiftRight, Nat.reduceMod, if_true, if_false, ↓reduceIte, reduceCtorEq, Nat.reduceEqDiff, Nat.reduceLT, Nat.reduceLeDiff, implies_true, forall_const, eq_self, ne_eq, not_true_eq_false, not_false_eq_true, imp_self, Nat.reduceAdd, Nat.reduceMul, Int.reduceLE, Int.reduceLT, Int.reduceNeg, Int.reduceAdd, Int.reduceToNat, Try.ntmps33, Try.results33, gTT]
  refine ⟨fun h => ?_, fun h => ?_⟩
  · rw [beq_eq_false_iff_ne]
    intro e
    subst e
    simp at h
  have hlen : a.length = b.length := by
    have : (a.length : Int) = b.length := by simpa using h
    omega
  refine ELoop_keep (fun n => ⟨[(13, vI .i64 (n : Nat))], [], []⟩) (fun n => n ≤ a.length ∧ a.take n = b.take n) (fun n => a.length - n) (· + 1) 0 ⟨Nat.zero_le _, rfl⟩ ?_ ?_
  · simp only [↓gPre, gPost, gCore, gDef, Nat.reduceShiftRight, Nat.reduceMod, if_true, if_false, ↓reduceIte, reduceCtorEq, Nat.reduceEqDiff, Nat.reduceLT, Nat.reduceLeDiff, implies_true, forall_const, eq_self, ne_eq, not_true_eq_false, not_false_eq_true, imp_self, Nat.reduceAdd, Nat.reduceMul, Int.reduceLE, Int.reduceLT, Int.reduceNeg, Int.reduceAdd, Int.reduceToNat, Try.ntmps33, Try.results33, gTT]
    rfl
  rintro n ⟨hn, heq⟩
  simp only [↓gPre, gPost, gCore, gDef, Nat.reduceShiftRight, Nat.reduceMod, if_true, if_false, ↓reduceIte, reduceCtorEq, Nat.reduceEqDiff, Nat.reduceLT, Nat.reduceLeDiff, implies_true, forall_const, eq_self, ne_eq, not_true_eq_false, not_false_eq_true, imp_self, Nat.reduceAdd, Nat.reduceMul, Int.reduceLE, Int.reduceLT, Int.reduceNeg, Int.reduceAdd, Int.reduceToNat, Try.ntmps33, Try.results33, gTT]
  refine ⟨fun h1 => ?_, fun h1 => ?_⟩
  · have hlt : n < a.length := by have := of_decide_eq_true h1; omega
    have hlt2 : n < b.length := by omega
    have g1 : a[n]?.getD 0 = a[n] := by rw [List.getElem?_eq_getElem hlt]; rfl
    have g2 : b[n]?.getD 0 = b[n] := by rw [List.getElem?_eq_getElem hlt2]; rfl
    rw [g1, g2]
    refine ⟨by kernel_rfl, by omega, by omega, fun h2 => ?_, fun h2 => ?_⟩
    · rw [beq_eq_false_iff_ne]
      intro e
      subst e
      simp at h2
    · have e : a[n] = b[n] := by simpa using h2
      refine ⟨(wrapN _ (by omega)).symm, ⟨by omega, ?_⟩, by omega⟩
      rw [List.take_add_one, List.take_add_one, heq, List.getElem?_eq_getElem hlt, List.getElem?_eq_getElem hlt2, e]
  · have hnl : n = a.length := by have := of_decide_eq_false h1; omega
    rw [hnl, List.take_length, hlen, List.take_length] at heq
    rw [heq, beq_self_eq_true]
def E_samedata : List V → Boxes → Toks → Name → Option Ent
  | [.c (.d (.list q_a)), .c (.d (.list q_b))], [], [], _ => some ⟨(ints q_a).length ≤ 1000000000 ∧ q_a = LI .i32 (ints q_a) ∧ q_b = LI .i32 (ints q_b), vB ((ints q_a) == (ints q_b)), [], []⟩
  | _, _, _, _ => none
def E_samedata_eq := And.intro (@E_samedata.eq_1) (@E_samedata.eq_1)
theorem E_samedata_ok : Snd Try.prog 33 E_samedata := by
  intro vs b k n e h hn hp
  unfold E_samedata at h
  split at h
  · cases h; obtain ⟨hp0, hq0, hq1⟩ := hp; obtain ⟨_, rfl⟩ := LI_ex hq0; obtain ⟨_, rfl⟩ := LI_ex hq1; simp only [ints_LI, bys_LB, blks_LK, lls_LL] at hp0 ⊢; exact (spec_samedata _ _ hp0).lift rfl _
  · cases h

theorem spec_same (c d : Int) (a b : List Int) (ha : a.length ≤ 1000000000) : Spec Try.prog 0 15 [.agg [.d (.int .i64 c), .d (.list (LI .i32 a))], .agg [.d (.int .i64 d), .d (.list (LI .i32 b))]] [] [] (vB (c == d && a == b)) [] [] := by
  refine spec_of_E (X := ⟨Try.prog, tt, Try.f15.ntmps, 1, fun _ => 0, (tab [(33, E_samedata)])⟩) (M := [(1, [0, 0, 0, 0, 0, 130079, 0, 0, 0, 0, 0, 65567, 0])]) (m := 31) rfl rfl ⟨tt_ok, tab_ok (tabs_cons E_samedata_ok tabs_nil) _ rfl rfl⟩ tt_mixed Try.func15 rfl (by decide) (by show (2 : Nat) ≤ _; exact Nat.le_of_ble_eq_true rfl) ⟨fun m hm => (V.bare_has rfl m hm).elim, by simp, by simp⟩ ?_
  simp only [↓gPre, gPost, gCore, gDef, Nat.reduceShiftRight, Nat.reduceMod, if_true, if_false, ↓reduceIte, reduceCtorEq, Nat.reduceEqDiff, Nat.reduceLT, Nat.reduceLeDiff, implies_true, forall_const, eq_self, ne_eq, not_true_eq_false, not_false_eq_true, imp_self, Nat.reduceAdd, Nat.reduceMul, Int.reduceLE, Int.reduceLT, Int.reduceNeg, Int.reduceAdd, Int.reduceToNat, E_samedata_eq, Try.ntmps15, Try.results15, gTT]
  exact fun _ => ha
def E_same : List V → Boxes → Toks → Name → Option Ent
  | [.agg [.d (.int .i64 c), .d (.list q_a)], .agg [.d (.int .i64 d), .d (.list q_b)]], [], [], _ => some ⟨(ints q_a).length ≤ 1000000000 ∧ q_a = LI .i32 (ints q_a) ∧ q_b = LI .i32 (ints q_b), vB (c == d && (ints q_a) == (ints q_b)), [], []⟩
  | _, _, _, _ => none
def E_same_eq := And.intro (@E_same.eq_1) (@E_same.eq_1)
theorem E_same_ok : Snd Try.prog 15 E_same := by
  intro vs b k n e h hn hp
  unfold E_same at h
  split at h
  · cases h; obtain ⟨hp0, hq0, hq1⟩ := hp; obtain ⟨_, rfl⟩ := LI_ex hq0; obtain ⟨_, rfl⟩ := LI_ex hq1; simp only [ints_LI, bys_LB, blks_LK, lls_LL] at hp0 ⊢; exact (spec_same _ _ _ _ hp0).lift rfl _
  · cases h

theorem spec_sis (x : Int) : Spec Try.prog 0 67 [vI .i32 x] [] [] (vB (smpX x)) [] [] := by
  refine spec_of_E (X := ⟨Try.prog, tt, Try.f67.ntmps, 1, fun _ => 0, (tab [])⟩) (M := []) (m := 5) rfl rfl ⟨tt_ok, tab_ok tabs_nil _ rfl rfl⟩ tt_mixed Try.func67 rfl (by decide) (by show (1 : Nat) ≤ _; exact Nat.le_of_ble_eq_true rfl) ⟨fun m hm => (V.bare_has rfl m hm).elim, by simp, by simp⟩ ?_
  simp only [↓gPre, gPost, gCore, gDef, Nat.reduceShiftRight, Nat.reduceMod, if_true, if_false, ↓reduceIte, reduceCtorEq, Nat.reduceEqDiff, Nat.reduceLT, Nat.reduceLeDiff, implies_true, forall_const, eq_self, ne_eq, not_true_eq_false, not_false_eq_true, imp_self, Nat.reduceAdd, Nat.reduceMul, Int.reduceLE, Int.reduceLT, Int.reduceNeg, Int.reduceAdd, Int.reduceToNat, Try.ntmps67, Try.results67, gTT]
  rfl
def E_sis : List V → Boxes → Toks → Name → Option Ent
  | [.c (.d (.int .i32 x))], [], [], _ => some ⟨True, vB (smpX x), [], []⟩
  | _, _, _, _ => none
def E_sis_eq := And.intro (@E_sis.eq_1) (@E_sis.eq_1)
theorem E_sis_ok : Snd Try.prog 67 E_sis := by
  intro vs b k n e h hn hp
  unfold E_sis at h
  split at h
  · cases h; exact (spec_sis _).lift rfl _
  · cases h

theorem spec_rsmp (x : Int) : Spec Try.prog 0 66 [vI .i32 x] [] [] (vB (smpX x)) [] [] := by
  refine spec_of_E (X := ⟨Try.prog, tt, Try.f66.ntmps, 1, fun _ => 0, (tab [])⟩) (M := []) (m := 5) rfl rfl ⟨tt_ok, tab_ok tabs_nil _ rfl rfl⟩ tt_mixed Try.func66 rfl (by decide) (by show (1 : Nat) ≤ _; exact Nat.le_of_ble_eq_true rfl) ⟨fun m hm => (V.bare_has rfl m hm).elim, by simp, by simp⟩ ?_
  simp only [↓gPre, gPost, gCore, gDef, Nat.reduceShiftRight, Nat.reduceMod, if_true, if_false, ↓reduceIte, reduceCtorEq, Nat.reduceEqDiff, Nat.reduceLT, Nat.reduceLeDiff, implies_true, forall_const, eq_self, ne_eq, not_true_eq_false, not_false_eq_true, imp_self, Nat.reduceAdd, Nat.reduceMul, Int.reduceLE, Int.reduceLT, Int.reduceNeg, Int.reduceAdd, Int.reduceToNat, Try.ntmps66, Try.results66, gTT]
  rfl
def E_rsmp : List V → Boxes → Toks → Name → Option Ent
  | [.c (.d (.int .i32 x))], [], [], _ => some ⟨True, vB (smpX x), [], []⟩
  | _, _, _, _ => none
def E_rsmp_eq := And.intro (@E_rsmp.eq_1) (@E_rsmp.eq_1)
theorem E_rsmp_ok : Snd Try.prog 66 E_rsmp := by
  intro vs b k n e h hn hp
  unfold E_rsmp at h
  split at h
  · cases h; exact (spec_rsmp _).lift rfl _
  · cases h

theorem spec_bvalid (c : Int) (l : List Int) (hl : l.length ≤ 1000000) : Spec Try.prog 0 52 [.agg [.d (.int .i64 c), .d (.list (LI .i32 l))]] [] [] (vB (blkV c l)) [] [] := by
  refine spec_of_E (X := ⟨Try.prog, tt, Try.f52.ntmps, 1, fun _ => 0, (tab [(67, E_sis)])⟩) (M := [(1, [0, 0, 0, 0, 0, 1166083620119, 0, 0, 0, 0, 0, 1166083563543, 0, 0, 0, 0, 0, 1166079426583, 0, 0, 0, 0, 0, 1165819379735, 0, 0])]) (m := 1165009879063) rfl rfl ⟨tt_ok, tab_ok (tabs_cons E_sis_ok tabs_nil) _ rfl rfl⟩ tt_mixed Try.func52 rfl (by decide) (by show (1 : Nat) ≤ _; exact Nat.le_of_ble_eq_true rfl) ⟨fun m hm => (V.bare_has rfl m hm).elim, by simp, by simp⟩ ?_
  simp only [↓gPre, gPost, gCore, gDef, Nat.reduceShiftRight, Nat.reduceMod, if_true, if_false, ↓reduceIte, reduceCtorEq, Nat.reduceEqDiff, Nat.reduceLT, Nat.reduceLeDiff, implies_true, forall_const, eq_self, ne_eq, not_true_eq_false, not_false_eq_true, imp_self, Nat.reduceAdd, Nat.reduceMul, Int.reduceLE, Int.reduceLT, Int.reduceNeg, Int.reduceAdd, Int.reduceToNat, E_sis_eq, Try.ntmps52, Try.results52, gTT]
  refine ⟨fun h => ?_, fun h => ?_, fun h => ?_, fun h => ?_⟩
  · simp only [Bool.or_eq_false_iff, decide_eq_false_iff_not] at h; omega
  · simp only [Bool.or_eq_false_iff, decide_eq_false_iff_not] at h; omega
  · have hc : chBk c l.length = true := h
    simp [blkV, hc]
  have hc : chBk c l.length = false := h
  refine ELoop_keep (fun n => ⟨[(34, vI .i64 (n : Nat))], [], []⟩) (fun n => n ≤ l.length ∧ (l.take n).all smpX = true) (fun n => l.length - n) (· + 1) 0 ⟨Nat.zero_le _, rfl⟩ ?_ ?_
  · simp only [↓gPre, gPost, gCore, gDef, Nat.reduceShiftRight, Nat.reduceMod, if_true, if_false, ↓reduceIte, reduceCtorEq, Nat.reduceEqDiff, Nat.reduceLT, Nat.reduceLeDiff, implies_true, forall_const, eq_self, ne_eq, not_true_eq_false, not_false_eq_true, imp_self, Nat.reduceAdd, Nat.reduceMul, Int.reduceLE, Int.reduceLT, Int.reduceNeg, Int.reduceAdd, Int.reduceToNat, E_sis_eq, Try.ntmps52, Try.results52, gTT]
    rfl
  rintro n ⟨hn, hok⟩
  simp only [↓gPre, gPost, gCore, gDef, Nat.reduceShiftRight, Nat.reduceMod, if_true, if_false, ↓reduceIte, reduceCtorEq, Nat.reduceEqDiff, Nat.reduceLT, Nat.reduceLeDiff, implies_true, forall_const, eq_self, ne_eq, not_true_eq_false, not_false_eq_true, imp_self, Nat.reduceAdd, Nat.reduceMul, Int.reduceLE, Int.reduceLT, Int.reduceNeg, Int.reduceAdd, Int.reduceToNat, E_sis_eq, Try.ntmps52, Try.results52, gTT]
  refine ⟨fun h1 => ?_, fun h1 => ?_⟩
  · have hlt : n < l.length := by have := of_decide_eq_true h1; omega
    have hg : l[n]?.getD 0 = l[n] := by rw [List.getElem?_eq_getElem hlt]; rfl
    rw [hg]
    refine ⟨by omega, fun h2 => ?_, fun h2 => ?_⟩
    · have hbad : l.all smpX = false := by
        rw [List.all_eq_false]
        exact ⟨l[n], List.getElem_mem hlt, by simp [h2]⟩
      simp [blkV, hbad]
    · refine ⟨(wrapN _ (by omega)).symm, ⟨by omega, ?_⟩, by omega⟩
      rw [List.take_add_one, List.getElem?_eq_getElem hlt, List.all_append, hok]
      simpa using h2
  · have : n = l.length := by have := of_decide_eq_false h1; omega
    rw [this, List.take_length] at hok
    simp [blkV, hc, hok]
def E_bvalid : List V → Boxes → Toks → Name → Option Ent
  | [.agg [.d (.int .i64 c), .d (.list q_l)]], [], [], _ => some ⟨(ints q_l).length ≤ 1000000 ∧ q_l = LI .i32 (ints q_l), vB (blkV c (ints q_l)), [], []⟩
  | _, _, _, _ => none
def E_bvalid_eq := And.intro (@E_bvalid.eq_1) (@E_bvalid.eq_1)
theorem E_bvalid_ok : Snd Try.prog 52 E_bvalid := by
  intro vs b k n e h hn hp
  unfold E_bvalid at h
  split at h
  · cases h; obtain ⟨hp0, hq0⟩ := hp; obtain ⟨_, rfl⟩ := LI_ex hq0; simp only [ints_LI, bys_LB, blks_LK, lls_LL] at hp0 ⊢; exact (spec_bvalid _ _ hp0).lift rfl _
  · cases h

theorem spec_rbvalid (c : Int) (l : List Int) (hl : l.length ≤ 1000000) : Spec Try.prog 0 47 [.agg [.d (.int .i64 c), .d (.list (LI .i32 l))]] [] [] (vB (blkV c l)) [] [] := by
  refine spec_of_E (X := ⟨Try.prog, tt, Try.f47.ntmps, 1, fun _ => 0, (tab [(66, E_rsmp)])⟩) (M := [(1, [0, 0, 0, 0, 0, 1166083620119, 0, 0, 0, 0, 0, 1166083563543, 0, 0, 0, 0, 0, 1166079426583, 0, 0, 0, 0, 0, 1165819379735, 0, 0])]) (m := 1165009879063) rfl rfl ⟨tt_ok, tab_ok (tabs_cons E_rsmp_ok tabs_nil) _ rfl rfl⟩ tt_mixed Try.func47 rfl (by decide) (by show (1 : Nat) ≤ _; exact Nat.le_of_ble_eq_true rfl) ⟨fun m hm => (V.bare_has rfl m hm).elim, by simp, by simp⟩ ?_
  simp only [↓gPre, gPost, gCore, gDef, Nat.reduceShiftRight, Nat.reduceMod, if_true, if_false, ↓reduceIte, reduceCtorEq, Nat.reduceEqDiff, Nat.reduceLT, Nat.reduceLeDiff, implies_true, forall_const, eq_self, ne_eq, not_true_eq_false, not_false_eq_true, imp_self, Nat.reduceAdd, Nat.reduceMul, Int.reduceLE, Int.reduceLT, Int.reduceNeg, Int.reduceAdd, Int.reduceToNat, E_rsmp_eq, Try.ntmps47, Try.results47, gTT]
  refine ⟨fun h => ?_, fun h => ?_, fun h => ?_, fun h => ?_⟩
  · simp only [Bool.or_eq_false_iff, decide_eq_false_iff_not] at h; omega
  · simp only [Bool.or_eq_false_iff, decide_eq_false_iff_not] at h; omega
  · have hc : chBk c l.length = true := h
    simp [blkV, hc]
  have hc : chBk c l.length = false := h
  refine ELoop_keep (fun n => ⟨[(34, vI .i64 (n : Nat))], [], []⟩) (fun n => n ≤ l.length ∧ (l.take n).all smpX = true) (fun n => l.length - n) (· + 1) 0 ⟨Nat.zero_le _, rfl⟩ ?_ ?_
  · simp only [↓gPre, gPost, gCore, gDef, Nat.reduceShiftRight, Nat.reduceMod, if_true, if_false, ↓reduceIte, reduceCtorEq, Nat.reduceEqDiff, Nat.reduceLT, Nat.reduceLeDiff, implies_true, forall_const, eq_self, ne_eq, not_true_eq_false, not_false_eq_true, imp_self, Nat.reduceAdd, Nat.reduceMul, Int.reduceLE, Int.reduceLT, Int.reduceNeg, Int.reduceAdd, Int.reduceToNat, E_rsmp_eq, Try.ntmps47, Try.results47, gTT]
    rfl
  rintro n ⟨hn, hok⟩
  simp only [↓gPre, gPost, gCore, gDef, Nat.reduceShiftRight, Nat.reduceMod, if_true, if_false, ↓reduceIte, reduceCtorEq, Nat.reduceEqDiff, Nat.reduceLT, Nat.reduceLeDiff, implies_true, forall_const, eq_self, ne_eq, not_true_eq_false, not_false_eq_true, imp_self, Nat.reduceAdd, Nat.reduceMul, Int.reduceLE, Int.reduceLT, Int.reduceNeg, Int.reduceAdd, Int.reduceToNat, E_rsmp_eq, Try.ntmps47, Try.results47, gTT]
  refine ⟨fun h1 => ?_, fun h1 => ?_⟩
  · have hlt : n < l.length := by have := of_decide_eq_true h1; omega
    have hg : l[n]?.getD 0 = l[n] := by rw [List.getElem?_eq_getElem hlt]; rfl
    rw [hg]
    refine ⟨by omega, fun h2 => ?_, fun h2 => ?_⟩
    · have hbad : l.all smpX = false := by
        rw [List.all_eq_false]
        exact ⟨l[n], List.getElem_mem hlt, by simp [h2]⟩
      simp [blkV, hbad]
    · refine ⟨(wrapN _ (by omega)).symm, ⟨by omega, ?_⟩, by omega⟩
      rw [List.take_add_one, List.getElem?_eq_getElem hlt, List.all_append, hok]
      simpa using h2
  · have : n = l.length := by have := of_decide_eq_false h1; omega
    rw [this, List.take_length] at hok
    simp [blkV, hc, hok]
def E_rbvalid : List V → Boxes → Toks → Name → Option Ent
  | [.agg [.d (.int .i64 c), .d (.list q_l)]], [], [], _ => some ⟨(ints q_l).length ≤ 1000000 ∧ q_l = LI .i32 (ints q_l), vB (blkV c (ints q_l)), [], []⟩
  | _, _, _, _ => none
def E_rbvalid_eq := And.intro (@E_rbvalid.eq_1) (@E_rbvalid.eq_1)
theorem E_rbvalid_ok : Snd Try.prog 47 E_rbvalid := by
  intro vs b k n e h hn hp
  unfold E_rbvalid at h
  split at h
  · cases h; obtain ⟨hp0, hq0⟩ := hp; obtain ⟨_, rfl⟩ := LI_ex hq0; simp only [ints_LI, bys_LB, blks_LK, lls_LL] at hp0 ⊢; exact (spec_rbvalid _ _ hp0).lift rfl _
  · cases h

theorem spec_frames (c : Int) (l : List Int) (hl : l.length ≤ 1000000) : Spec Try.prog 0 26 [.agg [.d (.int .i64 c), .d (.list (LI .i32 l))]] [] [] (vI .i64 (if blkV c l = true then ((l.length / c.toNat : Nat) : Int) else 0)) [] [] := by
  refine spec_of_E (X := ⟨Try.prog, tt, Try.f26.ntmps, 1, fun _ => 0, (tab [(47, E_rbvalid)])⟩) (M := []) (m := 39) rfl rfl ⟨tt_ok, tab_ok (tabs_cons E_rbvalid_ok tabs_nil) _ rfl rfl⟩ tt_mixed Try.func26 rfl (by decide) (by show (1 : Nat) ≤ _; exact Nat.le_of_ble_eq_true rfl) ⟨by simp [V.has, C.has], by simp [C.has], by simp⟩ ?_
  simp only [↓gPre, gPost, gCore, gDef, Nat.reduceShiftRight, Nat.reduceMod, if_true, if_false, ↓reduceIte, reduceCtorEq, Nat.reduceEqDiff, Nat.reduceLT, Nat.reduceLeDiff, implies_true, forall_const, eq_self, ne_eq, not_true_eq_false, not_false_eq_true, imp_self, Nat.reduceAdd, Nat.reduceMul, Int.reduceLE, Int.reduceLT, Int.reduceNeg, Int.reduceAdd, Int.reduceToNat, E_rbvalid_eq, Try.ntmps26, Try.results26, gTT]
  refine ⟨hl, fun h => ?_, fun h => ?_⟩
  · simp [h]
  have h1 : blkV c l = true := by simpa using h
  have h2 : chBk c l.length = false := by
    unfold blkV at h1
    simp only [Bool.and_eq_true, Bool.not_eq_true'] at h1
    exact h1.1
  obtain ⟨c1, c2, _⟩ := chBk_in h2
  rw [if_pos h1, Int.tdiv_eq_ediv_of_nonneg (by omega)]
  have e : (l.length : Int) / c = ((l.length / c.toNat : Nat) : Int) := by
    have : c = (c.toNat : Int) := by omega
    rw [this]
    exact (Int.natCast_ediv ..).symm
  have hle : l.length / c.toNat ≤ l.length := Nat.div_le_self ..
  rw [e]
  have c0 : ¬ c = 0 := by omega
  generalize l.length / c.toNat = z at *
  rw [IntWalk.i64_in (z : Int) (by omega)]
  exact ⟨c0, rfl⟩
def E_frames : List V → Boxes → Toks → Name → Option Ent
  | [.agg [.d (.int .i64 c), .d (.list q_l)]], [], [], _ => some ⟨(ints q_l).length ≤ 1000000 ∧ q_l = LI .i32 (ints q_l), vI .i64 (if blkV c (ints q_l) = true then (((ints q_l).length / c.toNat : Nat) : Int) else 0), [], []⟩
  | _, _, _, _ => none
def E_frames_eq := And.intro (@E_frames.eq_1) (@E_frames.eq_1)
theorem E_frames_ok : Snd Try.prog 26 E_frames := by
  intro vs b k n e h hn hp
  unfold E_frames at h
  split at h
  · cases h; obtain ⟨hp0, hq0⟩ := hp; obtain ⟨_, rfl⟩ := LI_ex hq0; simp only [ints_LI, bys_LB, blks_LK, lls_LL] at hp0 ⊢; exact (spec_frames _ _ hp0).lift rfl _
  · cases h

/-- A block's samples from dice. -/
def bkR (l : List UInt8) : Nat → List UInt8
  | 0 => l
  | i + 1 => sR (bkR l i)
def bkO (l : List UInt8) (n : Nat) : List Int := (List.range n).map fun i => sV (bkR l i)

theorem spec_mblock (l : List UInt8) (c n : Int) (hc : 0 ≤ c ∧ c ≤ 8) (hn : 0 ≤ n ∧ n ≤ 1000) : Spec Try.prog 0 17 [.c (.lp ⟨0, 0⟩ 0), vI .i64 c, vI .i64 n] [(⟨0, 0⟩, [.d (.list (LB l))])] [] (.agg [.d (.int .i64 c), .d (.list (LI .i32 (bkO l (c * n).toNat)))]) [(⟨0, 0⟩, [.d (.list (LB (bkR l (c * n).toNat)))])] [] := by
  refine spec_of_E (X := ⟨Try.prog, tt, Try.f17.ntmps, 1, fun _ => 0, (tab [(34, E_sample)])⟩) (M := []) (m := 33223) rfl rfl ⟨tt_ok, tab_ok (tabs_cons E_sample_ok tabs_nil) _ rfl rfl⟩ tt_mixed Try.func17 rfl (by decide) (by show (3 : Nat) ≤ _; exact Nat.le_of_ble_eq_true rfl) ⟨by simp [V.has, C.has], by simp [C.has], by simp⟩ ?_
  simp only [↓gPre, gPost, gCore, gDef, Nat.reduceShiftRight, Nat.reduceMod, if_true, if_false, ↓reduceIte, reduceCtorEq, Nat.reduceEqDiff, Nat.reduceLT, Nat.reduceLeDiff, implies_true, forall_const, eq_self, ne_eq, not_true_eq_false, not_false_eq_true, imp_self, Nat.reduceAdd, Nat.reduceMul, Int.reduceLE, Int.reduceLT, Int.reduceNeg, Int.reduceAdd, Int.reduceToNat, E_sample_eq, Try.ntmps17, Try.results17, gTT]
  refine ELoop_nilB ⟨1, 7⟩ 1 1 ⟨1, 99⟩ rfl rfl (by simp only [↓gPre, gPost, gCore, gDef, Nat.reduceShiftRight, Nat.reduceMod, if_true, if_false, ↓reduceIte, reduceCtorEq, Nat.reduceEqDiff, Nat.reduceLT, Nat.reduceLeDiff, implies_true, forall_const, eq_self, ne_eq, not_true_eq_false, not_false_eq_true, imp_self, Nat.reduceAdd, Nat.reduceMul, Int.reduceLE, Int.reduceLT, Int.reduceNeg, Int.reduceAdd, Int.reduceToNat, E_sample_eq, Try.ntmps17, Try.results17, gTT]) (Nat.le_refl _) ?_
  simp only [↓gPre, gPost, gCore, gDef, Nat.reduceShiftRight, Nat.reduceMod, if_true, if_false, ↓reduceIte, reduceCtorEq, Nat.reduceEqDiff, Nat.reduceLT, Nat.reduceLeDiff, implies_true, forall_const, eq_self, ne_eq, not_true_eq_false, not_false_eq_true, imp_self, Nat.reduceAdd, Nat.reduceMul, Int.reduceLE, Int.reduceLT, Int.reduceNeg, Int.reduceAdd, Int.reduceToNat, E_sample_eq, Try.ntmps17, Try.results17, gTT]
  have hcn : 0 ≤ c * n ∧ c * n ≤ 8000 := by
    refine ⟨Int.mul_nonneg hc.1 hn.1, ?_⟩
    have := mul_bd (x := c) (y := n) (A := 8) (B := 1000) (by omega) (by omega) hn.1 hn.2 (by decide)
    omega
  refine ELoop_keep (fun i => ⟨[(8, vI .i64 (i : Nat))], [(⟨1, 7⟩, [.d (.int .i64 c), .own ⟨1, 99⟩ (LI .i32 (bkO l i))]), (⟨0, 0⟩, [.d (.list (LB (bkR l i)))])], [(⟨1, 99⟩, ⟨false, 1, LI .i32 (bkO l i)⟩)]⟩) (fun i => i ≤ (c * n).toNat) (fun i => (c * n).toNat - i) (· + 1) 0 (Nat.zero_le _) ?_ ?_
  · simp only [↓gPre, gPost, gCore, gDef, Nat.reduceShiftRight, Nat.reduceMod, if_true, if_false, ↓reduceIte, reduceCtorEq, Nat.reduceEqDiff, Nat.reduceLT, Nat.reduceLeDiff, implies_true, forall_const, eq_self, ne_eq, not_true_eq_false, not_false_eq_true, imp_self, Nat.reduceAdd, Nat.reduceMul, Int.reduceLE, Int.reduceLT, Int.reduceNeg, Int.reduceAdd, Int.reduceToNat, E_sample_eq, Try.ntmps17, Try.results17, gTT]
    exact ⟨rfl, ⟨rfl, rfl⟩, rfl⟩
  intro i hi
  simp only [↓gPre, gPost, gCore, gDef, Nat.reduceShiftRight, Nat.reduceMod, if_true, if_false, ↓reduceIte, reduceCtorEq, Nat.reduceEqDiff, Nat.reduceLT, Nat.reduceLeDiff, implies_true, forall_const, eq_self, ne_eq, not_true_eq_false, not_false_eq_true, imp_self, Nat.reduceAdd, Nat.reduceMul, Int.reduceLE, Int.reduceLT, Int.reduceNeg, Int.reduceAdd, Int.reduceToNat, E_sample_eq, Try.ntmps17, Try.results17, gTT]
  rw [IntWalk.i64_in (c * n) (by omega)]
  have hl : (bkO l i).length = i := by simp [bkO]
  refine ⟨fun h => ?_, fun h => ?_⟩
  · have h1 := of_decide_eq_true h
    have e2 : bkO l (i + 1) = bkO l i ++ [sV (bkR l i)] := by simp [bkO, List.range_succ]
    rw [e2]
    rw [← IntWalk.i64_in (c * n) (by omega)]
    exact ⟨by kernel_rfl, by unfold roomOK; omega, ⟨(wrapN _ (by omega)).symm, ⟨rfl, rfl⟩, rfl⟩, by rw [IntWalk.i64_in (c * n) (by omega)]; omega, by rw [IntWalk.i64_in (c * n) (by omega)]; omega⟩
  · have h1 := of_decide_eq_false h
    have : (c * n).toNat = i := by omega
    rw [this]
    exact ⟨rfl, rfl⟩
def E_mblock : List V → Boxes → Toks → Name → Option Ent
  | [.c (.lp n0 0), .c (.d (.int .i64 c)), .c (.d (.int .i64 n))], [(m0, [.d (.list q_l)])], [], _ => some ⟨(0 ≤ c ∧ c ≤ 8) ∧ (0 ≤ n ∧ n ≤ 1000) ∧ n0.lv ≤ 1 ∧ m0 = n0 ∧ q_l = LB (bys q_l), .agg [.d (.int .i64 c), .d (.list (LI .i32 (bkO (bys q_l) (c * n).toNat)))], [(n0, [.d (.list (LB (bkR (bys q_l) (c * n).toNat)))])], []⟩
  | _, _, _, _ => none
def E_mblock_eq := And.intro (@E_mblock.eq_1) (@E_mblock.eq_1)
theorem E_mblock_ok : Snd Try.prog 17 E_mblock := by
  intro vs b k n e h hn hp
  unfold E_mblock at h
  split at h
  · cases h; obtain ⟨hp0, hp1, hl0, rfl, hq0⟩ := hp; obtain ⟨_, rfl⟩ := LB_ex hq0; simp only [ints_LI, bys_LB, blks_LK, lls_LL] at hp0 hp1 ⊢; exact Spec.ren1 (spec_mblock _ _ _ hp0 hp1) 0 (by simp [supOK, V.names, C.names, namesB, namesK]) hl0 
  · cases h

theorem atG_of {a b c d i : Int} (hv : validG a b c d = true) (hi : 0 ≤ i) : atG a b c d i = gainG a b c d i := by
  have : ¬ (i < 0) := by omega
  simp [atG, hv, this]

/-- What a ramp makes of a block. -/
def gV (a b c d k : Int) (l : List Int) (j : Nat) : Int := applyG (l[j]?.getD 0) (gainG a b c d ((j / k.toNat : Nat) : Int))
def gO (a b c d k : Int) (l : List Int) (n : Nat) : List Int := (List.range n).map (gV a b c d k l)
def grE (a b c d k : Int) (l : List Int) : Int := if validG a b c d = true then (if blkV k l = true then 0 else 1) else 1
def grO (a b c d k : Int) (l : List Int) : List Int := if grE a b c d k l = 0 then gO a b c d k l l.length else []
def grC (a b c d k : Int) (l : List Int) : Int := if grE a b c d k l = 0 then k else 0
def grF (a b c d k : Int) (l : List Int) : Int := if grE a b c d k l = 0 then a else 0
def grT (a b c d k : Int) (l : List Int) : Int := if grE a b c d k l = 0 then b else 0
def grN (a b c d k : Int) (l : List Int) : Int := if grE a b c d k l = 0 then c else 0
def grA (a b c d k : Int) (l : List Int) : Int := if grE a b c d k l = 0 then (if d + ((l.length / k.toNat : Nat) : Int) < c then d + ((l.length / k.toNat : Nat) : Int) else c) else 0
theorem gO_len (a b c d k : Int) (l : List Int) (n : Nat) : (gO a b c d k l n).length = n := by simp [gO]
theorem gO_succ (a b c d k : Int) (l : List Int) (n : Nat) : gO a b c d k l (n + 1) = gO a b c d k l n ++ [gV a b c d k l n] := by simp [gO, List.range_succ]
theorem blkV_in {k : Int} {l : List Int} (h : blkV k l = true) : chBk k l.length = false ∧ l.all smpX = true := by
  unfold blkV at h
  simpa using h

theorem spec_grun (a b c d k : Int) (l : List Int) (hl : l.length ≤ 1000000) : Spec Try.prog 0 45 [.agg [.d (.int .i64 a), .d (.int .i64 b), .d (.int .i64 c), .d (.int .i64 d)], .agg [.d (.int .i64 k), .d (.list (LI .i32 l))]] [] [] (.tup [.agg [.int .i64 (grC a b c d k l), .list (LI .i32 (grO a b c d k l))], .agg [.int .i64 (grF a b c d k l), .int .i64 (grT a b c d k l), .int .i64 (grN a b c d k l), .int .i64 (grA a b c d k l)], .int .i64 (grE a b c d k l)]) [] [] := by
  refine spec_of_E (X := ⟨Try.prog, tt, Try.f45.ntmps, 1, fun s => if s = 31 then 1 else 0, (tab [(62, E_svalid), (52, E_bvalid), (63, E_sgain), (64, E_apply)])⟩) (M := [(10, [0, 0, 0, 0, 0, 2303735795187462143, 0, 0, 0, 0, 0, 2161731669436936191, 0, 0]), (16, [0, 0, 0, 0, 0, 19078362752525036100268031, 0, 0, 0, 0, 0, 0])]) (m := 2161731669436936191) rfl rfl ⟨tt_ok, tab_ok (tabs_cons E_svalid_ok (tabs_cons E_bvalid_ok (tabs_cons E_sgain_ok (tabs_cons E_apply_ok tabs_nil)))) _ rfl rfl⟩ tt_mixed Try.func45 rfl (by decide) (by show (2 : Nat) ≤ _; exact Nat.le_of_ble_eq_true rfl) ⟨by simp [V.has, C.has], by simp [C.has], by simp⟩ ?_
  simp only [↓gPre, gPost, gCore, gDef, Nat.reduceShiftRight, Nat.reduceMod, if_true, if_false, ↓reduceIte, reduceCtorEq, Nat.reduceEqDiff, Nat.reduceLT, Nat.reduceLeDiff, implies_true, forall_const, eq_self, ne_eq, not_true_eq_false, not_false_eq_true, imp_self, Nat.reduceAdd, Nat.reduceMul, Int.reduceLE, Int.reduceLT, Int.reduceNeg, Int.reduceAdd, Int.reduceToNat, E_svalid_eq, E_bvalid_eq, E_sgain_eq, E_apply_eq, Try.ntmps45, Try.results45, gTT]
  refine ⟨fun _ => hl, fun h => ?_, fun h => ⟨by kernel_rfl, by omega, ?_, ?_⟩⟩
  · have e : grE a b c d k l = 1 := by
      unfold grE
      by_cases h1 : validG a b c d = true
      · by_cases h2 : blkV k l = true
        · simp [h1, h2] at h
        · simp [h1, h2]
      · simp [h1]
    simp [grC, grO, grF, grT, grN, grA, e, LI_nil]
  · have hb : blkV k l = true := by simp at h; exact h.2
    have := chBk_in (blkV_in hb).1
    omega
  have hv : validG a b c d = true := by simp at h; exact h.1
  have hb : blkV k l = true := by simp at h; exact h.2
  have hE : grE a b c d k l = 0 := by simp [grE, hv, hb]
  obtain ⟨hc, hsm⟩ := blkV_in hb
  obtain ⟨k1, k2, k3⟩ := chBk_in hc
  have hvi := validG_in hv
  have hkm : (k.toNat : Int) = k := by omega
  have hdiv : (l.length : Int).tdiv k = ((l.length / k.toNat : Nat) : Int) := by
    have e : k = (k.toNat : Int) := by omega
    rw [Int.tdiv_eq_ediv_of_nonneg (by omega), e]
    exact (Int.natCast_ediv ..).symm
  have hzl : l.length / k.toNat ≤ l.length := Nat.div_le_self ..
  rw [hdiv]
  generalize hz : l.length / k.toNat = z at *
  rw [IntWalk.i64_in (z : Int) (by omega)]
  refine ELoop_keep (fun n => ⟨[(40, vI .i64 (n : Nat))], [(⟨1, 8⟩, [.d (.int .i64 k), .own ⟨1, 31⟩ (LI .i32 (gO a b c d k l (n * k.toNat)))])], [(⟨1, 31⟩, ⟨false, 1, LI .i32 (gO a b c d k l (n * k.toNat))⟩)]⟩) (fun n => n ≤ z) (fun n => z - n) (· + 1) 0 (Nat.zero_le _) ?_ ?_
  · simp only [↓gPre, gPost, gCore, gDef, Nat.reduceShiftRight, Nat.reduceMod, if_true, if_false, ↓reduceIte, reduceCtorEq, Nat.reduceEqDiff, Nat.reduceLT, Nat.reduceLeDiff, implies_true, forall_const, eq_self, ne_eq, not_true_eq_false, not_false_eq_true, imp_self, Nat.reduceAdd, Nat.reduceMul, Int.reduceLE, Int.reduceLT, Int.reduceNeg, Int.reduceAdd, Int.reduceToNat, E_svalid_eq, E_bvalid_eq, E_sgain_eq, E_apply_eq, Try.ntmps45, Try.results45, gTT]
    simp [gO]
  intro n hn
  simp only [↓gPre, gPost, gCore, gDef, Nat.reduceShiftRight, Nat.reduceMod, if_true, if_false, ↓reduceIte, reduceCtorEq, Nat.reduceEqDiff, Nat.reduceLT, Nat.reduceLeDiff, implies_true, forall_const, eq_self, ne_eq, not_true_eq_false, not_false_eq_true, imp_self, Nat.reduceAdd, Nat.reduceMul, Int.reduceLE, Int.reduceLT, Int.reduceNeg, Int.reduceAdd, Int.reduceToNat, E_svalid_eq, E_bvalid_eq, E_sgain_eq, E_apply_eq, Try.ntmps45, Try.results45, gTT]
  have hol := gO_len a b c d k l (n * k.toNat)
  refine ⟨fun h1 => ?_, fun h1 => ?_⟩
  · have hlt : n < z := by have := of_decide_eq_true h1; omega
    have hle : (n + 1) * k.toNat ≤ l.length := by
      have := Nat.mul_le_mul_right k.toNat (show n + 1 ≤ z from hlt)
      omega
    have he : (n + 1) * k.toNat = n * k.toNat + k.toNat := by rw [Nat.add_mul, Nat.one_mul]
    have c1 : (n : Int) * k = ((n * k.toNat : Nat) : Int) := by rw [Int.natCast_mul, hkm]
    have c2 : ((n : Int) + 1) * k = (((n + 1) * k.toNat : Nat) : Int) := by rw [Int.natCast_mul, hkm]; rfl
    rw [IntWalk.i64_in ((n : Int) + 1) (by omega), c1, c2, IntWalk.i64_in ((n * k.toNat : Nat) : Int) (by omega), IntWalk.i64_in (((n + 1) * k.toNat : Nat) : Int) (by omega)]
    have e2 : ((((n + 1) * k.toNat : Nat) : Int)).toNat - (((n * k.toNat : Nat) : Int)).toNat = k.toNat := by omega
    have e3 : (((n * k.toNat : Nat) : Int)).toNat = n * k.toNat := by omega
    refine ⟨⟨hv, by omega⟩, by omega, ?_⟩
    rw [e2, e3]
    have hfl : (List.take k.toNat (List.drop (n * k.toNat) l)).length = k.toNat := by rw [List.length_take, List.length_drop]; omega
    have hfj : ∀ j, j < k.toNat → (List.take k.toNat (List.drop (n * k.toNat) l))[j]? = l[n * k.toNat + j]? := fun j hj => by
      rw [List.getElem?_take_of_lt hj, List.getElem?_drop]
    generalize List.take k.toNat (List.drop (n * k.toNat) l) = F at *
    refine ELoop_keep (fun j => ⟨[(59, vI .i64 (j : Nat))], [(⟨1, 8⟩, [.d (.int .i64 k), .own ⟨1, 31⟩ (LI .i32 (gO a b c d k l (n * k.toNat + j)))])], [(⟨1, 31⟩, ⟨false, 1, LI .i32 (gO a b c d k l (n * k.toNat + j))⟩)]⟩) (fun j => j ≤ F.length) (fun j => F.length - j) (· + 1) 0 (Nat.zero_le _) ?_ ?_
    · simp only [↓gPre, gPost, gCore, gDef, Nat.reduceShiftRight, Nat.reduceMod, if_true, if_false, ↓reduceIte, reduceCtorEq, Nat.reduceEqDiff, Nat.reduceLT, Nat.reduceLeDiff, implies_true, forall_const, eq_self, ne_eq, not_true_eq_false, not_false_eq_true, imp_self, Nat.reduceAdd, Nat.reduceMul, Int.reduceLE, Int.reduceLT, Int.reduceNeg, Int.reduceAdd, Int.reduceToNat, E_svalid_eq, E_bvalid_eq, E_sgain_eq, E_apply_eq, Try.ntmps45, Try.results45, gTT]
      exact ⟨rfl, rfl, rfl⟩
    intro j hj
    simp only [↓gPre, gPost, gCore, gDef, Nat.reduceShiftRight, Nat.reduceMod, if_true, if_false, ↓reduceIte, reduceCtorEq, Nat.reduceEqDiff, Nat.reduceLT, Nat.reduceLeDiff, implies_true, forall_const, eq_self, ne_eq, not_true_eq_false, not_false_eq_true, imp_self, Nat.reduceAdd, Nat.reduceMul, Int.reduceLE, Int.reduceLT, Int.reduceNeg, Int.reduceAdd, Int.reduceToNat, E_svalid_eq, E_bvalid_eq, E_sgain_eq, E_apply_eq, Try.ntmps45, Try.results45, gTT]
    have holj := gO_len a b c d k l (n * k.toNat + j)
    refine ⟨fun h2 => ?_, fun h2 => ?_⟩
    · have hlj : j < F.length := by have := of_decide_eq_true h2; omega
      have hll : n * k.toNat + j < l.length := by omega
      have hg : F[j]?.getD 0 = l[n * k.toNat + j] := by rw [hfj j (by omega), List.getElem?_eq_getElem hll]; rfl
      have hs := smpX_in (List.all_eq_true.1 hsm _ (List.getElem_mem hll))
      have hdv : (n * k.toNat + j) / k.toNat = n := by
        rw [Nat.add_comm, Nat.add_mul_div_right _ _ (by omega), Nat.div_eq_of_lt (by omega), Nat.zero_add]
      have e4 : applyG (F[j]?.getD 0) (gainG a b c d (n : Int)) = gV a b c d k l (n * k.toNat + j) := by
        unfold gV
        rw [hdv, hg, List.getElem?_eq_getElem hll]
        rfl
      rw [e4, show n * k.toNat + (j + 1) = n * k.toNat + j + 1 from rfl, gO_succ]
      exact ⟨by omega, by kernel_rfl, by unfold roomOK; omega, ⟨(wrapN _ (by omega)).symm, rfl, rfl⟩, by omega, by omega⟩
    · have hjl : j = k.toNat := by have := of_decide_eq_false h2; omega
      rw [hjl, he]
      exact ⟨⟨(wrapN _ (by omega)).symm, rfl, rfl⟩, by omega, by omega⟩
  · have hnz : n = z := by have := of_decide_eq_false h1; omega
    refine ⟨by kernel_rfl, ?_⟩
    rw [hnz, ← k3, IntWalk.i64_in (d + (z : Int)) (by omega)]
    simp only [grC, grO, grF, grT, grN, grA, hE, if_true, hz]
def E_grun : List V → Boxes → Toks → Name → Option Ent
  | [.agg [.d (.int .i64 a), .d (.int .i64 b), .d (.int .i64 c), .d (.int .i64 d)], .agg [.d (.int .i64 k), .d (.list q_l)]], [], [], _ => some ⟨(ints q_l).length ≤ 1000000 ∧ q_l = LI .i32 (ints q_l), .tup [.agg [.int .i64 (grC a b c d k (ints q_l)), .list (LI .i32 (grO a b c d k (ints q_l)))], .agg [.int .i64 (grF a b c d k (ints q_l)), .int .i64 (grT a b c d k (ints q_l)), .int .i64 (grN a b c d k (ints q_l)), .int .i64 (grA a b c d k (ints q_l))], .int .i64 (grE a b c d k (ints q_l))], [], []⟩
  | _, _, _, _ => none
def E_grun_eq := And.intro (@E_grun.eq_1) (@E_grun.eq_1)
theorem E_grun_ok : Snd Try.prog 45 E_grun := by
  intro vs b k n e h hn hp
  unfold E_grun at h
  split at h
  · cases h; obtain ⟨hp0, hq0⟩ := hp; obtain ⟨_, rfl⟩ := LI_ex hq0; simp only [ints_LI, bys_LB, blks_LK, lls_LL] at hp0 ⊢; exact (spec_grun _ _ _ _ _ _ hp0).lift rfl _
  · cases h

theorem spec_rgrun (a b c d k : Int) (l : List Int) (hl : l.length ≤ 1000000) : Spec Try.prog 0 41 [.agg [.d (.int .i64 a), .d (.int .i64 b), .d (.int .i64 c), .d (.int .i64 d)], .agg [.d (.int .i64 k), .d (.list (LI .i32 l))]] [] [] (.tup [.agg [.int .i64 (grC a b c d k l), .list (LI .i32 (grO a b c d k l))], .agg [.int .i64 (grF a b c d k l), .int .i64 (grT a b c d k l), .int .i64 (grN a b c d k l), .int .i64 (grA a b c d k l)], .int .i64 (grE a b c d k l)]) [] [] := by
  refine spec_of_E (X := ⟨Try.prog, tt, Try.f41.ntmps, 1, fun _ => 0, (tab [(46, E_refvalid), (47, E_rbvalid), (59, E_refat), (58, E_refapply), (26, E_frames)])⟩) (M := [(7, [0, 0, 0, 0, 0, 17588142867455, 0, 0, 0, 0, 0, 13194391323647, 0, 0])]) (m := 251790335) rfl rfl ⟨tt_ok, tab_ok (tabs_cons E_refvalid_ok (tabs_cons E_rbvalid_ok (tabs_cons E_refat_ok (tabs_cons E_refapply_ok (tabs_cons E_frames_ok tabs_nil))))) _ rfl rfl⟩ tt_mixed Try.func41 rfl (by decide) (by show (2 : Nat) ≤ _; exact Nat.le_of_ble_eq_true rfl) ⟨by simp [V.has, C.has], by simp [C.has], by simp⟩ ?_
  simp only [↓gPre, gPost, gCore, gDef, Nat.reduceShiftRight, Nat.reduceMod, if_true, if_false, ↓reduceIte, reduceCtorEq, Nat.reduceEqDiff, Nat.reduceLT, Nat.reduceLeDiff, implies_true, forall_const, eq_self, ne_eq, not_true_eq_false, not_false_eq_true, imp_self, Nat.reduceAdd, Nat.reduceMul, Int.reduceLE, Int.reduceLT, Int.reduceNeg, Int.reduceAdd, Int.reduceToNat, E_refvalid_eq, E_rbvalid_eq, E_refat_eq, E_refapply_eq, E_frames_eq, Try.ntmps41, Try.results41, gTT]
  refine ⟨fun _ => hl, fun h => ?_, fun h => ?_⟩
  · have e : grE a b c d k l = 1 := by
      unfold grE
      by_cases h1 : validG a b c d = true
      · by_cases h2 : blkV k l = true
        · simp [h1, h2] at h
        · simp [h1, h2]
      · simp [h1]
    simp [grC, grO, grF, grT, grN, grA, e, LI_nil]
  have hv : validG a b c d = true := by simp at h; exact h.1
  have hb : blkV k l = true := by simp at h; exact h.2
  have hE : grE a b c d k l = 0 := by simp [grE, hv, hb]
  obtain ⟨hc, hsm⟩ := blkV_in hb
  obtain ⟨k1, k2, k3⟩ := chBk_in hc
  have hvi := validG_in hv
  have hdiv : ∀ n : Nat, (n : Int).tdiv k = ((n / k.toNat : Nat) : Int) := fun n => by
    have e : k = (k.toNat : Int) := by omega
    rw [Int.tdiv_eq_ediv_of_nonneg (by omega), e]
    exact (Int.natCast_ediv ..).symm
  refine ELoop_nilB ⟨1, 7⟩ 1 1 ⟨1, 99⟩ rfl rfl (by simp only [↓gPre, gPost, gCore, gDef, Nat.reduceShiftRight, Nat.reduceMod, if_true, if_false, ↓reduceIte, reduceCtorEq, Nat.reduceEqDiff, Nat.reduceLT, Nat.reduceLeDiff, implies_true, forall_const, eq_self, ne_eq, not_true_eq_false, not_false_eq_true, imp_self, Nat.reduceAdd, Nat.reduceMul, Int.reduceLE, Int.reduceLT, Int.reduceNeg, Int.reduceAdd, Int.reduceToNat, E_refvalid_eq, E_rbvalid_eq, E_refat_eq, E_refapply_eq, E_frames_eq, Try.ntmps41, Try.results41, gTT]) (Nat.le_refl _) ?_
  simp only [↓gPre, gPost, gCore, gDef, Nat.reduceShiftRight, Nat.reduceMod, if_true, if_false, ↓reduceIte, reduceCtorEq, Nat.reduceEqDiff, Nat.reduceLT, Nat.reduceLeDiff, implies_true, forall_const, eq_self, ne_eq, not_true_eq_false, not_false_eq_true, imp_self, Nat.reduceAdd, Nat.reduceMul, Int.reduceLE, Int.reduceLT, Int.reduceNeg, Int.reduceAdd, Int.reduceToNat, E_refvalid_eq, E_rbvalid_eq, E_refat_eq, E_refapply_eq, E_frames_eq, Try.ntmps41, Try.results41, gTT]
  refine ELoop_keep (fun n => ⟨[(26, vI .i64 (n : Nat))], [(⟨1, 7⟩, [.d (.int .i64 k), .own ⟨1, 99⟩ (LI .i32 (gO a b c d k l n))])], [(⟨1, 99⟩, ⟨false, 1, LI .i32 (gO a b c d k l n)⟩)]⟩) (fun n => n ≤ l.length) (fun n => l.length - n) (· + 1) 0 (Nat.zero_le _) ?_ ?_
  · simp only [↓gPre, gPost, gCore, gDef, Nat.reduceShiftRight, Nat.reduceMod, if_true, if_false, ↓reduceIte, reduceCtorEq, Nat.reduceEqDiff, Nat.reduceLT, Nat.reduceLeDiff, implies_true, forall_const, eq_self, ne_eq, not_true_eq_false, not_false_eq_true, imp_self, Nat.reduceAdd, Nat.reduceMul, Int.reduceLE, Int.reduceLT, Int.reduceNeg, Int.reduceAdd, Int.reduceToNat, E_refvalid_eq, E_rbvalid_eq, E_refat_eq, E_refapply_eq, E_frames_eq, Try.ntmps41, Try.results41, gTT]
    exact ⟨rfl, rfl, rfl⟩
  intro n hn
  simp only [↓gPre, gPost, gCore, gDef, Nat.reduceShiftRight, Nat.reduceMod, if_true, if_false, ↓reduceIte, reduceCtorEq, Nat.reduceEqDiff, Nat.reduceLT, Nat.reduceLeDiff, implies_true, forall_const, eq_self, ne_eq, not_true_eq_false, not_false_eq_true, imp_self, Nat.reduceAdd, Nat.reduceMul, Int.reduceLE, Int.reduceLT, Int.reduceNeg, Int.reduceAdd, Int.reduceToNat, E_refvalid_eq, E_rbvalid_eq, E_refat_eq, E_refapply_eq, E_frames_eq, Try.ntmps41, Try.results41, gTT]
  have hol := gO_len a b c d k l n
  have hnd : n / k.toNat ≤ n := Nat.div_le_self ..
  refine ⟨fun h1 => ?_, fun h1 => ?_⟩
  · have hlt : n < l.length := by have := of_decide_eq_true h1; omega
    have e1 : applyG (l[n]?.getD 0) (atG a b c d (IntKind.i64.wrap ((n : Int).tdiv k))) = gV a b c d k l n := by
      rw [hdiv]
      generalize hz : n / k.toNat = z at *
      rw [IntWalk.i64_in (z : Int) (by omega), atG_of hv (by omega)]
      unfold gV
      rw [hz]
    rw [e1, gO_succ]
    have hg : l[n]?.getD 0 = l[n] := by rw [List.getElem?_eq_getElem hlt]; rfl
    have hs := smpX_in (List.all_eq_true.1 hsm _ (List.getElem_mem hlt))
    exact ⟨by omega, by kernel_rfl, by omega, by rw [hg]; omega, by unfold roomOK; omega, ⟨(wrapN _ (by omega)).symm, rfl, rfl⟩, by omega, by omega⟩
  · have hnl : n = l.length := by have := of_decide_eq_false h1; omega
    have hz : l.length / k.toNat ≤ l.length := Nat.div_le_self ..
    refine ⟨by kernel_rfl, hl, by kernel_rfl, ?_⟩
    rw [hnl]
    simp only [grC, grO, grF, grT, grN, grA, hE, if_true, hb]
    generalize l.length / k.toNat = z at *
    rw [IntWalk.i64_in (d + (z : Int)) (by omega)]
def E_rgrun : List V → Boxes → Toks → Name → Option Ent
  | [.agg [.d (.int .i64 a), .d (.int .i64 b), .d (.int .i64 c), .d (.int .i64 d)], .agg [.d (.int .i64 k), .d (.list q_l)]], [], [], _ => some ⟨(ints q_l).length ≤ 1000000 ∧ q_l = LI .i32 (ints q_l), .tup [.agg [.int .i64 (grC a b c d k (ints q_l)), .list (LI .i32 (grO a b c d k (ints q_l)))], .agg [.int .i64 (grF a b c d k (ints q_l)), .int .i64 (grT a b c d k (ints q_l)), .int .i64 (grN a b c d k (ints q_l)), .int .i64 (grA a b c d k (ints q_l))], .int .i64 (grE a b c d k (ints q_l))], [], []⟩
  | _, _, _, _ => none
def E_rgrun_eq := And.intro (@E_rgrun.eq_1) (@E_rgrun.eq_1)
theorem E_rgrun_ok : Snd Try.prog 41 E_rgrun := by
  intro vs b k n e h hn hp
  unfold E_rgrun at h
  split at h
  · cases h; obtain ⟨hp0, hq0⟩ := hp; obtain ⟨_, rfl⟩ := LI_ex hq0; simp only [ints_LI, bys_LB, blks_LK, lls_LL] at hp0 ⊢; exact (spec_rgrun _ _ _ _ _ _ hp0).lift rfl _
  · cases h

end Go.Vam
