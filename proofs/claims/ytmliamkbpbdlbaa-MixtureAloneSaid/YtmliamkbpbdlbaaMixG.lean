/- Mix and After, program and reference: the same. Conditions: none. -/
import Derived.Test.YtmliamkbpbdlbaaMixF
set_option linter.unusedVariables false
set_option linter.defProp false
set_option linter.unusedSimpArgs false
set_option maxRecDepth 40000
set_option maxHeartbeats 4000000
namespace Go.Vam
open Go.Proofs

def mxE (ch fr : Int) (xs : List Inp) (t r g : Int) : Int := if muE ch fr xs = 0 then runE t r g ch (muS ch fr xs) else muE ch fr xs
def mxC (ch fr : Int) (xs : List Inp) (t r g : Int) : Int := if muE ch fr xs = 0 then runC t r g ch (muS ch fr xs) else 0
def mxO (ch fr : Int) (xs : List Inp) (t r g : Int) : List Int := if muE ch fr xs = 0 then runO t r g ch (muS ch fr xs) else []
def mxT (ch fr : Int) (xs : List Inp) (t r g : Int) : Int := if muE ch fr xs = 0 then runT t r g ch (muS ch fr xs) else 0
def mxR (ch fr : Int) (xs : List Inp) (t r g : Int) : Int := if muE ch fr xs = 0 then runR t r g ch (muS ch fr xs) else 0
def mxG (ch fr : Int) (xs : List Inp) (t r g : Int) : Int := if muE ch fr xs = 0 then runG t r g ch (muS ch fr xs) else 0
def afE (f t n i fr : Int) : Int := if validG f t n i = false then 1 else if (decide (fr < 0) || decide (65536 < fr)) = true then 2 else 0
def afF (f t n i fr : Int) : Int := if afE f t n i fr = 0 then f else 0
def afT (f t n i fr : Int) : Int := if afE f t n i fr = 0 then t else 0
def afN (f t n i fr : Int) : Int := if afE f t n i fr = 0 then n else 0
def afI (f t n i fr : Int) : Int := if afE f t n i fr = 0 then (if i + fr < n then i + fr else n) else 0
theorem muS_le (ch fr : Int) (xs : List Inp) : (muS ch fr xs).length ≤ 524288 := by
  unfold muS
  split
  · rename_i h
    rw [runS_len, zeroS_len]
    unfold muE at h
    split at h
    · cases h
    · rename_i hB
      exact (muB_in (by simpa using hB)).2.2.1
  · exact Nat.zero_le _

def silB (c n : Int) : Bool := decide (c < 1) || decide (8 < c) || decide (n < 0) || decide (65536 < n)
def silC (c n : Int) : Int := if silB c n = true then 0 else c
def silO (c n : Int) : List Int := if silB c n = true then [] else List.replicate (c * n).toNat 0
def silE (c n : Int) : Int := if silB c n = true then 2 else 0
theorem silO_len (c n : Int) : (silO c n).length ≤ 524288 := by
  unfold silO
  split
  · exact Nat.zero_le _
  · rename_i h
    simp only [silB, Bool.or_eq_true, decide_eq_true_eq, not_or] at h
    have h1 : c * n ≤ 8 * 65536 := Int.mul_le_mul (by omega) (by omega) (by omega) (by decide)
    rw [List.length_replicate]
    omega

theorem spec_silence (c n : Int) : Spec Try.prog 0 44 [vI .i64 c, vI .i64 n] [] [] (.tup [.agg [.int .i64 (silC c n), .list (LI .i32 (silO c n))], .int .i64 (silE c n)]) [] [] := by
  refine spec_of_E (X := ⟨Try.prog, tt, Try.f44.ntmps, 1, fun _ => 0, (tab [])⟩) (M := [(1, [0, 0, 0, 0, 0, 1046579, 0, 0, 0, 0, 0, 983091, 0, 0])]) (m := 524339) rfl rfl ⟨tt_ok, tab_ok tabs_nil _ rfl rfl⟩ tt_mixed Try.func44 rfl (by decide) (by show (2 : Nat) ≤ _; exact Nat.le_of_ble_eq_true rfl) ⟨fun m hm => (V.bare_has rfl m hm).elim, by simp, by simp⟩ ?_
  simp only [↓gPre, gPost, gCore, gDef, Nat.reduceShiftRight, Nat.reduceMod, if_true, if_false, ↓reduceIte, reduceCtorEq, Nat.reduceEqDiff, Nat.reduceLT, Nat.reduceLeDiff, implies_true, forall_const, eq_self, ne_eq, not_true_eq_false, not_false_eq_true, imp_self, Nat.reduceAdd, Nat.reduceMul, Int.reduceLE, Int.reduceLT, Int.reduceNeg, Int.reduceAdd, Int.reduceToNat, LX_nil, LX_length, LX_getD, LX_append, LX_one, LX_cells, LX_inj, LX_nil_eq, LX_inps_LX, LX_take, LX_drop, inps_LX, Try.ntmps44, Try.results44, gTT]
  refine ⟨fun h => ?_, fun h => ?_⟩
  · have e : silB c n = true := h
    simp only [silC, silO, silE, e, if_true, LI_nil]
  · have e : silB c n = false := h
    have h2 := e
    simp only [silB, Bool.or_eq_false_iff, decide_eq_false_iff_not] at h2
    have h0 : 0 ≤ c * n := Int.mul_nonneg (by omega) (by omega)
    have h1 : c * n ≤ 8 * 65536 := Int.mul_le_mul (by omega) (by omega) (by omega) (by decide)
    rw [IntWalk.i64_in (c * n) (by omega)]
    refine ⟨⟨h0, by omega, by omega⟩, ?_⟩
    simp [silC, silO, silE, e]
def E_silence : List V → Boxes → Toks → Name → Option Ent
  | [.c (.d (.int .i64 c)), .c (.d (.int .i64 n))], [], [], _ => some ⟨True, .tup [.agg [.int .i64 (silC c n), .list (LI .i32 (silO c n))], .int .i64 (silE c n)], [], []⟩
  | _, _, _, _ => none
def E_silence_eq := And.intro (@E_silence.eq_1) (@E_silence.eq_1)
theorem E_silence_ok : Snd Try.prog 44 E_silence := by
  intro vs b k n e h hn hp
  unfold E_silence at h
  split at h
  · cases h; exact (spec_silence _ _).lift rfl _
  · cases h

theorem spec_mix (ch fr : Int) (xs : List Inp) (t r g : Int) (hk : keptI xs) : Spec Try.prog 0 14 [vI .i64 ch, vI .i64 fr, vL (LX xs), .agg [.d (.int .i64 t), .d (.int .i64 r), .d (.int .i64 g)]] [] [] (.tup [.agg [.int .i64 (mxC ch fr xs t r g), .list (LI .i32 (mxO ch fr xs t r g))], .agg [.int .i64 (mxT ch fr xs t r g), .int .i64 (mxR ch fr xs t r g), .int .i64 (mxG ch fr xs t r g)], .int .i64 (mxE ch fr xs t r g)]) [] [] := by
  refine spec_of_E (X := ⟨Try.prog, tt, Try.f14.ntmps, 1, fun _ => 0, (tab [(19, E_psum), (32, E_lrun)])⟩) (M := []) (m := 2105231) rfl rfl ⟨tt_ok, tab_ok (tabs_cons E_psum_ok (tabs_cons E_lrun_ok tabs_nil)) _ rfl rfl⟩ tt_mixed Try.func14 rfl (by decide) (by show (4 : Nat) ≤ _; exact Nat.le_of_ble_eq_true rfl) ⟨fun m hm => (V.bare_has rfl m hm).elim, by simp, by simp⟩ ?_
  simp only [↓gPre, gPost, gCore, gDef, Nat.reduceShiftRight, Nat.reduceMod, if_true, if_false, ↓reduceIte, reduceCtorEq, Nat.reduceEqDiff, Nat.reduceLT, Nat.reduceLeDiff, implies_true, forall_const, eq_self, ne_eq, not_true_eq_false, not_false_eq_true, imp_self, Nat.reduceAdd, Nat.reduceMul, Int.reduceLE, Int.reduceLT, Int.reduceNeg, Int.reduceAdd, Int.reduceToNat, E_psum_eq, E_lrun_eq, LX_nil, LX_length, LX_getD, LX_append, LX_one, LX_cells, LX_inj, LX_nil_eq, LX_inps_LX, LX_take, LX_drop, inps_LX, Try.ntmps14, Try.results14, gTT]
  exact ⟨hk, fun h => by
      have hne : muE ch fr xs ≠ 0 := by simpa using h
      simp [mxC, mxO, mxT, mxR, mxG, mxE, hne, LI_nil], fun h => by
      have he : muE ch fr xs = 0 := by simpa using h
      have := muS_le ch fr xs
      refine ⟨by omega, ?_⟩
      simp [mxC, mxO, mxT, mxR, mxG, mxE, he]⟩
def E_mix : List V → Boxes → Toks → Name → Option Ent
  | [.c (.d (.int .i64 ch)), .c (.d (.int .i64 fr)), .c (.d (.list q_xs)), .agg [.d (.int .i64 t), .d (.int .i64 r), .d (.int .i64 g)]], [], [], _ => some ⟨keptI (inps q_xs) ∧ q_xs = LX (inps q_xs), .tup [.agg [.int .i64 (mxC ch fr (inps q_xs) t r g), .list (LI .i32 (mxO ch fr (inps q_xs) t r g))], .agg [.int .i64 (mxT ch fr (inps q_xs) t r g), .int .i64 (mxR ch fr (inps q_xs) t r g), .int .i64 (mxG ch fr (inps q_xs) t r g)], .int .i64 (mxE ch fr (inps q_xs) t r g)], [], []⟩
  | _, _, _, _ => none
def E_mix_eq := And.intro (@E_mix.eq_1) (@E_mix.eq_1)
theorem E_mix_ok : Snd Try.prog 14 E_mix := by
  intro vs b k n e h hn hp
  unfold E_mix at h
  split at h
  · cases h; obtain ⟨hp0, hq0⟩ := hp; obtain ⟨_, rfl⟩ := LX_ex hq0; simp only [ints_LI, bys_LB, blks_LK, lls_LL, inps_LX] at hp0 ⊢; exact (spec_mix _ _ _ _ _ _ hp0).lift rfl _
  · cases h

theorem spec_rmix (ch fr : Int) (xs : List Inp) (t r g : Int) (hk : keptI xs) : Spec Try.prog 0 22 [vI .i64 ch, vI .i64 fr, vL (LX xs), .agg [.d (.int .i64 t), .d (.int .i64 r), .d (.int .i64 g)]] [] [] (.tup [.agg [.int .i64 (mxC ch fr xs t r g), .list (LI .i32 (mxO ch fr xs t r g))], .agg [.int .i64 (mxT ch fr xs t r g), .int .i64 (mxR ch fr xs t r g), .int .i64 (mxG ch fr xs t r g)], .int .i64 (mxE ch fr xs t r g)]) [] [] := by
  refine spec_of_E (X := ⟨Try.prog, tt, Try.f22.ntmps, 1, fun _ => 0, (tab [(21, E_rsum), (42, E_lrrun)])⟩) (M := []) (m := 2105231) rfl rfl ⟨tt_ok, tab_ok (tabs_cons E_rsum_ok (tabs_cons E_lrrun_ok tabs_nil)) _ rfl rfl⟩ tt_mixed Try.func22 rfl (by decide) (by show (4 : Nat) ≤ _; exact Nat.le_of_ble_eq_true rfl) ⟨fun m hm => (V.bare_has rfl m hm).elim, by simp, by simp⟩ ?_
  simp only [↓gPre, gPost, gCore, gDef, Nat.reduceShiftRight, Nat.reduceMod, if_true, if_false, ↓reduceIte, reduceCtorEq, Nat.reduceEqDiff, Nat.reduceLT, Nat.reduceLeDiff, implies_true, forall_const, eq_self, ne_eq, not_true_eq_false, not_false_eq_true, imp_self, Nat.reduceAdd, Nat.reduceMul, Int.reduceLE, Int.reduceLT, Int.reduceNeg, Int.reduceAdd, Int.reduceToNat, E_rsum_eq, E_lrrun_eq, LX_nil, LX_length, LX_getD, LX_append, LX_one, LX_cells, LX_inj, LX_nil_eq, LX_inps_LX, LX_take, LX_drop, inps_LX, Try.ntmps22, Try.results22, gTT]
  exact ⟨hk, fun h => by
      have hne : muE ch fr xs ≠ 0 := by simpa using h
      simp [mxC, mxO, mxT, mxR, mxG, mxE, hne, LI_nil], fun h => by
      have he : muE ch fr xs = 0 := by simpa using h
      have := muS_le ch fr xs
      refine ⟨by omega, ?_⟩
      simp [mxC, mxO, mxT, mxR, mxG, mxE, he]⟩
def E_rmix : List V → Boxes → Toks → Name → Option Ent
  | [.c (.d (.int .i64 ch)), .c (.d (.int .i64 fr)), .c (.d (.list q_xs)), .agg [.d (.int .i64 t), .d (.int .i64 r), .d (.int .i64 g)]], [], [], _ => some ⟨keptI (inps q_xs) ∧ q_xs = LX (inps q_xs), .tup [.agg [.int .i64 (mxC ch fr (inps q_xs) t r g), .list (LI .i32 (mxO ch fr (inps q_xs) t r g))], .agg [.int .i64 (mxT ch fr (inps q_xs) t r g), .int .i64 (mxR ch fr (inps q_xs) t r g), .int .i64 (mxG ch fr (inps q_xs) t r g)], .int .i64 (mxE ch fr (inps q_xs) t r g)], [], []⟩
  | _, _, _, _ => none
def E_rmix_eq := And.intro (@E_rmix.eq_1) (@E_rmix.eq_1)
theorem E_rmix_ok : Snd Try.prog 22 E_rmix := by
  intro vs b k n e h hn hp
  unfold E_rmix at h
  split at h
  · cases h; obtain ⟨hp0, hq0⟩ := hp; obtain ⟨_, rfl⟩ := LX_ex hq0; simp only [ints_LI, bys_LB, blks_LK, lls_LL, inps_LX] at hp0 ⊢; exact (spec_rmix _ _ _ _ _ _ hp0).lift rfl _
  · cases h

theorem spec_after (c : Int) (l : List Int) (a b : Int) (m : List Int) (f t n i : Int) (fr : Int) : Spec Try.prog 0 24 [.agg [.d (.int .i64 c), .d (.list (LI .i32 l)), .d (.int .i64 a), .d (.int .i64 b), .d (.list (LI .i64 m)), .d (.int .i64 f), .d (.int .i64 t), .d (.int .i64 n), .d (.int .i64 i)], vI .i64 fr] [] [] (.tup [.agg [.int .i64 (afF f t n i fr), .int .i64 (afT f t n i fr), .int .i64 (afN f t n i fr), .int .i64 (afI f t n i fr)], .int .i64 (afE f t n i fr)]) [] [] := by
  refine spec_of_E (X := ⟨Try.prog, tt, Try.f24.ntmps, 1, fun _ => 0, (tab [(43, E_gvalid), (44, E_silence), (45, E_grun)])⟩) (M := [(6, [0, 0, 0, 0, 0, 3776979959, 0, 0, 0, 0, 0, 2149589751, 0])]) (m := 2106103) rfl rfl ⟨tt_ok, tab_ok (tabs_cons E_gvalid_ok (tabs_cons E_silence_ok (tabs_cons E_grun_ok tabs_nil))) _ rfl rfl⟩ tt_mixed Try.func24 rfl (by decide) (by show (2 : Nat) ≤ _; exact Nat.le_of_ble_eq_true rfl) ⟨by simp [V.has, C.has], by simp [C.has], by simp⟩ ?_
  simp only [↓gPre, gPost, gCore, gDef, Nat.reduceShiftRight, Nat.reduceMod, if_true, if_false, ↓reduceIte, reduceCtorEq, Nat.reduceEqDiff, Nat.reduceLT, Nat.reduceLeDiff, implies_true, forall_const, eq_self, ne_eq, not_true_eq_false, not_false_eq_true, imp_self, Nat.reduceAdd, Nat.reduceMul, Int.reduceLE, Int.reduceLT, Int.reduceNeg, Int.reduceAdd, Int.reduceToNat, E_gvalid_eq, E_silence_eq, E_grun_eq, LX_nil, LX_length, LX_getD, LX_append, LX_one, LX_cells, LX_inj, LX_nil_eq, LX_inps_LX, LX_take, LX_drop, inps_LX, Try.ntmps24, Try.results24, gTT]
  refine ⟨fun h => ?_, fun h => ?_⟩
  · have e : afE f t n i fr = 1 := by unfold afE; rw [if_pos h]
    simp [afF, afT, afN, afI, e]
  have hv : validG f t n i = true := by simpa using h
  have hb := validG_in hv
  by_cases hs : (decide (fr < 0) || decide (65536 < fr)) = true
  · have hsb : silB 1 fr = true := by simp only [silB, Bool.or_eq_true] at hs ⊢; rcases hs with k | k <;> simp [k]
    have e : afE f t n i fr = 2 := by unfold afE; rw [if_neg (by rw [hv]; decide), if_pos hs]
    have e2 : silE 1 fr = 2 := by simp [silE, hsb]
    have e3 : (silO 1 fr).length ≤ 1000000 := by have := silO_len 1 fr; omega
    refine ⟨fun _ => ?_, fun h2 => ?_⟩
    · simp [afF, afT, afN, afI, e, e2]
    · rw [e2] at h2; exact absurd h2 (by decide)
  have hs' : (decide (fr < 0) || decide (65536 < fr)) = false := by simpa using hs
  have hr : 0 ≤ fr ∧ fr ≤ 65536 := by simp only [Bool.or_eq_false_iff, decide_eq_false_iff_not] at hs'; omega
  have hsb : silB 1 fr = false := by simp only [silB, Bool.or_eq_false_iff, decide_eq_false_iff_not]; omega
  have e : afE f t n i fr = 0 := by unfold afE; rw [if_neg (by rw [hv]; decide), if_neg (by rw [hs']; decide)]
  have e2 : silE 1 fr = 0 := by simp [silE, hsb]
  have e3 : silC 1 fr = 1 := by simp [silC, hsb]
  have e4 : silO 1 fr = List.replicate fr.toNat 0 := by simp [silO, hsb]
  have e5 : blkV 1 (List.replicate fr.toNat (0 : Int)) = true := blkV_mk (z := fr.toNat) (by decide) (by simp) (by omega) (by
    rw [List.all_eq_true]
    intro x hx
    rw [(List.mem_replicate.1 hx).2]
    decide)
  have e6 : grE f t n i 1 (List.replicate fr.toNat (0 : Int)) = 0 := by simp [grE, hv, e5]
  refine ⟨fun h2 => ?_, fun _ => ⟨by have := silO_len 1 fr; omega, ?_⟩⟩
  · rw [e2] at h2; exact absurd h2 (by decide)
  · rw [e3, e4, e6, e]
    have e7 : ((fr.toNat : Nat) : Int) = fr := by omega
    simp [afF, afT, afN, afI, e, grF, grT, grN, grA, e6, e7]
def E_after : List V → Boxes → Toks → Name → Option Ent
  | [.agg [.d (.int .i64 c), .d (.list q_l), .d (.int .i64 a), .d (.int .i64 b), .d (.list q_m), .d (.int .i64 f), .d (.int .i64 t), .d (.int .i64 n), .d (.int .i64 i)], .c (.d (.int .i64 fr))], [], [], _ => some ⟨q_l = LI .i32 (ints q_l) ∧ q_m = LI .i64 (ints q_m), .tup [.agg [.int .i64 (afF f t n i fr), .int .i64 (afT f t n i fr), .int .i64 (afN f t n i fr), .int .i64 (afI f t n i fr)], .int .i64 (afE f t n i fr)], [], []⟩
  | _, _, _, _ => none
def E_after_eq := And.intro (@E_after.eq_1) (@E_after.eq_1)
theorem E_after_ok : Snd Try.prog 24 E_after := by
  intro vs b k n e h hn hp
  unfold E_after at h
  split at h
  · cases h; obtain ⟨hq0, hq1⟩ := hp; obtain ⟨_, rfl⟩ := LI_ex hq0; obtain ⟨_, rfl⟩ := LI_ex hq1; simp only [ints_LI, bys_LB, blks_LK, lls_LL]; exact (spec_after _ _ _ _ _ _ _ _ _ _).lift rfl _
  · cases h

theorem spec_rafter (c : Int) (l : List Int) (a b : Int) (m : List Int) (f t n i : Int) (fr : Int) : Spec Try.prog 0 25 [.agg [.d (.int .i64 c), .d (.list (LI .i32 l)), .d (.int .i64 a), .d (.int .i64 b), .d (.list (LI .i64 m)), .d (.int .i64 f), .d (.int .i64 t), .d (.int .i64 n), .d (.int .i64 i)], vI .i64 fr] [] [] (.tup [.agg [.int .i64 (afF f t n i fr), .int .i64 (afT f t n i fr), .int .i64 (afN f t n i fr), .int .i64 (afI f t n i fr)], .int .i64 (afE f t n i fr)]) [] [] := by
  refine spec_of_E (X := ⟨Try.prog, tt, Try.f25.ntmps, 1, fun _ => 0, (tab [(46, E_refvalid)])⟩) (M := []) (m := 132215) rfl rfl ⟨tt_ok, tab_ok (tabs_cons E_refvalid_ok tabs_nil) _ rfl rfl⟩ tt_mixed Try.func25 rfl (by decide) (by show (2 : Nat) ≤ _; exact Nat.le_of_ble_eq_true rfl) ⟨by simp [V.has, C.has], by simp [C.has], by simp⟩ ?_
  simp only [↓gPre, gPost, gCore, gDef, Nat.reduceShiftRight, Nat.reduceMod, if_true, if_false, ↓reduceIte, reduceCtorEq, Nat.reduceEqDiff, Nat.reduceLT, Nat.reduceLeDiff, implies_true, forall_const, eq_self, ne_eq, not_true_eq_false, not_false_eq_true, imp_self, Nat.reduceAdd, Nat.reduceMul, Int.reduceLE, Int.reduceLT, Int.reduceNeg, Int.reduceAdd, Int.reduceToNat, E_refvalid_eq, LX_nil, LX_length, LX_getD, LX_append, LX_one, LX_cells, LX_inj, LX_nil_eq, LX_inps_LX, LX_take, LX_drop, inps_LX, Try.ntmps25, Try.results25, gTT]
  refine ⟨fun h => ?_, fun h => ⟨fun h2 => ?_, fun h2 => ?_⟩⟩
  · have e : afE f t n i fr = 1 := by unfold afE; rw [if_pos h]
    simp [afF, afT, afN, afI, e]
  · have hv : validG f t n i = true := by simpa using h
    have e : afE f t n i fr = 2 := by unfold afE; rw [if_neg (by rw [hv]; decide), if_pos h2]
    simp [afF, afT, afN, afI, e]
  · have hv : validG f t n i = true := by simpa using h
    have e : afE f t n i fr = 0 := by unfold afE; rw [if_neg (by rw [hv]; decide), if_neg (by rw [h2]; decide)]
    have hb := validG_in hv
    simp only [Bool.or_eq_false_iff, decide_eq_false_iff_not] at h2
    rw [IntWalk.i64_in (i + fr) (by omega)]
    simp [afF, afT, afN, afI, e]
def E_rafter : List V → Boxes → Toks → Name → Option Ent
  | [.agg [.d (.int .i64 c), .d (.list q_l), .d (.int .i64 a), .d (.int .i64 b), .d (.list q_m), .d (.int .i64 f), .d (.int .i64 t), .d (.int .i64 n), .d (.int .i64 i)], .c (.d (.int .i64 fr))], [], [], _ => some ⟨q_l = LI .i32 (ints q_l) ∧ q_m = LI .i64 (ints q_m), .tup [.agg [.int .i64 (afF f t n i fr), .int .i64 (afT f t n i fr), .int .i64 (afN f t n i fr), .int .i64 (afI f t n i fr)], .int .i64 (afE f t n i fr)], [], []⟩
  | _, _, _, _ => none
def E_rafter_eq := And.intro (@E_rafter.eq_1) (@E_rafter.eq_1)
theorem E_rafter_ok : Snd Try.prog 25 E_rafter := by
  intro vs b k n e h hn hp
  unfold E_rafter at h
  split at h
  · cases h; obtain ⟨hq0, hq1⟩ := hp; obtain ⟨_, rfl⟩ := LI_ex hq0; obtain ⟨_, rfl⟩ := LI_ex hq1; simp only [ints_LI, bys_LB, blks_LK, lls_LL]; exact (spec_rafter _ _ _ _ _ _ _ _ _ _).lift rfl _
  · cases h

theorem spec_samesums (a b : List Int) (ha : a.length ≤ 1000000000) : Spec Try.prog 0 23 [vL (LI .i64 a), vL (LI .i64 b)] [] [] (vB (a == b)) [] [] := by
  refine spec_of_E (X := ⟨Try.prog, tt, Try.f23.ntmps, 1, fun _ => 0, (tab [])⟩) (M := []) (m := 16806963) rfl rfl ⟨tt_ok, tab_ok tabs_nil _ rfl rfl⟩ tt_mixed Try.func23 rfl (by decide) (by show (2 : Nat) ≤ _; exact Nat.le_of_ble_eq_true rfl) ⟨fun m hm => (V.bare_has rfl m hm).elim, by simp, by simp⟩ ?_
  simp only [↓gPre, gPost, gCore, gDef, Nat.reduceShiftRight, Nat.reduceMod, if_true, if_false, ↓reduceIte, reduceCtorEq, Nat.reduceEqDiff, Nat.reduceLT, Nat.reduceLeDiff, implies_true, forall_const, eq_self, ne_eq, not_true_eq_false, not_false_eq_true, imp_self, Nat.reduceAdd, Nat.reduceMul, Int.reduceLE, Int.reduceLT, Int.reduceNeg, Int.reduceAdd, Int.reduceToNat, LX_nil, LX_length, LX_getD, LX_append, LX_one, LX_cells, LX_inj, LX_nil_eq, LX_inps_LX, LX_take, LX_drop, inps_LX, Try.ntmps23, Try.results23, gTT]
  refine ⟨fun h => ?_, fun h => ?_⟩
  · rw [beq_eq_false_iff_ne]
    intro e
    subst e
    simp at h
  have hlen : a.length = b.length := by
    have : (a.length : Int) = b.length := by simpa using h
    omega
  refine ELoop_keep (fun n => ⟨[(13, vI .i64 (n : Nat))], [], []⟩) (fun n => n ≤ a.length ∧ a.take n = b.take n) (fun n => a.length - n) (· + 1) 0 ⟨Nat.zero_le _, rfl⟩ ?_ ?_
  · simp only [↓gPre, gPost, gCore, gDef, Nat.reduceShiftRight, Nat.reduceMod, if_true, if_false, ↓reduceIte, reduceCtorEq, Nat.reduceEqDiff, Nat.reduceLT, Nat.reduceLeDiff, implies_true, forall_const, eq_self, ne_eq, not_true_eq_false, not_false_eq_true, imp_self, Nat.reduceAdd, Nat.reduceMul, Int.reduceLE, Int.reduceLT, Int.reduceNeg, Int.reduceAdd, Int.reduceToNat, LX_nil, LX_length, LX_getD, LX_append, LX_one, LX_cells, LX_inj, LX_nil_eq, LX_inps_LX, LX_take, LX_drop, inps_LX, Try.ntmps23, Try.results23, gTT]
    rfl
  rintro n ⟨hn, heq⟩
  simp only [↓gPre, gPost, gCore, gDef, Nat.reduceShiftRight, Nat.reduceMod, if_true, if_false, ↓reduceIte, reduceCtorEq, Nat.reduceEqDiff, Nat.reduceLT, Nat.reduceLeDiff, implies_true, forall_const, eq_self, ne_eq, not_true_eq_false, not_false_eq_true, imp_self, Nat.reduceAdd, Nat.reduceMul, Int.reduceLE, Int.reduceLT, Int.reduceNeg, Int.reduceAdd, Int.reduceToNat, LX_nil, LX_length, LX_getD, LX_append, LX_one, LX_cells, LX_inj, LX_nil_eq, LX_inps_LX, LX_take, LX_drop, inps_LX, Try.ntmps23, Try.results23, gTT]
  refine ⟨fun h1 => ?_, fun h1 => ?_⟩
  · have hlt : n < a.length := by have := of_decide_eq_true h1; omega
    have hlt2 : n < b.length := by omega
    have g1 : a[n]?.getD 0 = a[n] := by rw [List.getElem?_eq_getElem hlt]; rfl
    have g2 : b[n]?.getD 0 = b[n] := by rw [List.getElem?_eq_getElem hlt2]; rfl
    rw [g1, g2]
    refine ⟨by kernel_rfl, by omega, by omega, fun h2 => ?_, fun h2 => ?_⟩
    · rw [beq_eq_false_iff_ne]
      intro e
      subst e
      simp at h2
    · have e : a[n] = b[n] := by simpa using h2
      refine ⟨(wrapN _ (by omega)).symm, ⟨by omega, ?_⟩, by omega⟩
      rw [List.take_add_one, List.take_add_one, heq, List.getElem?_eq_getElem hlt, List.getElem?_eq_getElem hlt2, e]
  · have hnl : n = a.length := by have := of_decide_eq_false h1; omega
    rw [hnl, List.take_length, hlen, List.take_length] at heq
    rw [heq, beq_self_eq_true]
def E_samesums : List V → Boxes → Toks → Name → Option Ent
  | [.c (.d (.list q_a)), .c (.d (.list q_b))], [], [], _ => some ⟨(ints q_a).length ≤ 1000000000 ∧ q_a = LI .i64 (ints q_a) ∧ q_b = LI .i64 (ints q_b), vB ((ints q_a) == (ints q_b)), [], []⟩
  | _, _, _, _ => none
def E_samesums_eq := And.intro (@E_samesums.eq_1) (@E_samesums.eq_1)
theorem E_samesums_ok : Snd Try.prog 23 E_samesums := by
  intro vs b k n e h hn hp
  unfold E_samesums at h
  split at h
  · cases h; obtain ⟨hp0, hq0, hq1⟩ := hp; obtain ⟨_, rfl⟩ := LI_ex hq0; obtain ⟨_, rfl⟩ := LI_ex hq1; simp only [ints_LI, bys_LB, blks_LK, lls_LL] at hp0 ⊢; exact (spec_samesums _ _ hp0).lift rfl _
  · cases h

end Go.Vam
