/- A part of the proof. Conditions: none. -/
import Derived.Test.YtmpbpijnbmpbhaaGreatWa
set_option linter.unusedVariables false
set_option linter.defProp false
set_option linter.unusedSimpArgs false
set_option maxRecDepth 40000
set_option maxHeartbeats 4000000
namespace Go.Vam
open Go.Proofs
theorem half_go {i j : Nat} (h : i + j ≤ 1000000) : IntKind.i64.wrap ((IntKind.u64.wrap (IntKind.i64.wrap ((i : Int) + (j : Int)))).fdiv (2 ^ Nat.min 1 IntKind.u64.bits)) = (((i + j) / 2 : Nat) : Int) := by
  have e1 : (2 : Int) ^ Nat.min 1 IntKind.u64.bits = 2 := rfl
  have e2 : ((i : Int) + (j : Int)) = ((i + j : Nat) : Int) := by omega
  have e3 : IntKind.u64.wrap ((i + j : Nat) : Int) = ((i + j : Nat) : Int) := by unfold IntKind.wrap; simp [IntKind.signed, IntKind.bits]; omega
  rw [e2, IntWalk.i64_in ((i + j : Nat) : Int) (by omega), e3, e1, Int.fdiv_eq_ediv_of_nonneg _ (by decide), IntWalk.i64_in (((i + j : Nat) : Int) / 2) (by omega)]
  omega
theorem spec_need (n d a p f : Int) (i : Int) (hv : phV ⟨n, d, a, p, f⟩ = true) (hi : 0 ≤ i ∧ i ≤ 65536) : Spec Tryz.prog 0 159 [.agg [.d (.int .i64 n), .d (.int .i64 d), .d (.int .i64 a), .d (.int .i64 p), .d (.int .i64 f)], vI .i64 i] [] [] (vI .i64 (ned ⟨n, d, a, p, f⟩ i)) [] [] := by
  refine sE (md := fun _ => 0) (L := [(214, E_ahead), (215, E_parts)]) [(3, [0, 0, 0, 0, 0, 4191319, 0, 0, 0, 0, 0, 4079703, 0, 0, 0, 0])] 87 (tabs_cons E_ahead_ok (tabs_cons E_parts_ok tabs_nil)) Tryz.func159 rfl rfl rfl ?_
  simp (maxSteps := 1000000) only [↓gPre, gPost, gCore, gDef, gSt, gS0, Nat.reduceShiftRight, Nat.reduceMod, ↓reduceIte, reduceCtorEq, Nat.reduceEqDiff, Nat.reduceLT, Nat.reduceLeDiff, Nat.reduceAdd, Nat.reduceMul, Int.reduceLE, Int.reduceLT, Int.reduceNeg, Int.reduceAdd, Int.reduceToNat, E_ahead_eq, E_parts_eq, Tryz.ntmps159, Tryz.results159, gTT]
  refine ⟨fun h => ?_, fun h => ?_⟩
  · have : i = 0 := by simpa using h
    subst this
    rfl
  have hne : i ≠ 0 := by simpa using h
  have hp := prt_in hv
  have hq1 := qAt_in hv (n := i - 1) (by omega)
  have hq2 := qAt_in hv hi
  refine ⟨by kernel_rfl, ?_⟩
  rw [IntWalk.i64_in (i - 1) (by omega), (qAt_go hv (n := i - 1) (by omega)).1, (qAt_go hv hi).1]
  have e1 : ahd ⟨n, d, a, p, f⟩ (i - 1) / prt ⟨n, d, a, p, f⟩ = qAt ⟨n, d, a, p, f⟩ (i - 1) := rfl
  have e2 : ahd ⟨n, d, a, p, f⟩ i / prt ⟨n, d, a, p, f⟩ = qAt ⟨n, d, a, p, f⟩ i := rfl
  rw [e1, e2, IntWalk.i64_in (qAt ⟨n, d, a, p, f⟩ (i - 1)) (by omega), IntWalk.i64_in (qAt ⟨n, d, a, p, f⟩ i) (by omega), IntWalk.i64_in (qAt ⟨n, d, a, p, f⟩ (i - 1) + 2) (by omega)]
  refine ⟨⟨hv, by omega⟩, by omega, ⟨hv, hi⟩, by omega, ?_⟩
  unfold ned
  rw [if_neg hne]
  split <;> omega
def E_need : List V → Boxes → Toks → Name → Option Ent
  | [.agg [.d (.int .i64 n), .d (.int .i64 d), .d (.int .i64 a), .d (.int .i64 p), .d (.int .i64 f)], .c (.d (.int .i64 i))], [], [], _ => some ⟨phV ⟨n, d, a, p, f⟩ = true ∧ (0 ≤ i ∧ i ≤ 65536), vI .i64 (ned ⟨n, d, a, p, f⟩ i), [], []⟩
  | _, _, _, _ => none
def E_need_eq := And.intro (@E_need.eq_1) (@E_need.eq_1)
theorem E_need_ok : Snd Tryz.prog 159 E_need := by
  intro vs b k n e h hn hp
  unfold E_need at h
  split at h
  · cases h; obtain ⟨hp0, hp1⟩ := hp; exact (spec_need _ _ _ _ _ _ hp0 hp1).lift rfl _
  · cases h
theorem spec_pneed (n d a p f : Int) (i : Int) : Spec Tryz.prog 0 90 [.agg [.d (.int .i64 n), .d (.int .i64 d), .d (.int .i64 a), .d (.int .i64 p), .d (.int .i64 f)], vI .i64 i] [] [] (.tup [.int .i64 (neE ⟨n, d, a, p, f⟩ i), .int .i64 (phC ⟨n, d, a, p, f⟩ i)]) [] [] := by
  refine sE (md := fun _ => 0) (L := [(158, E_pcheck), (159, E_need)]) [] 2167 (tabs_cons E_pcheck_ok (tabs_cons E_need_ok tabs_nil)) Tryz.func90 rfl rfl rfl ?_
  simp (maxSteps := 1000000) only [↓gPre, gPost, gCore, gDef, gSt, gS0, Nat.reduceShiftRight, Nat.reduceMod, ↓reduceIte, reduceCtorEq, Nat.reduceEqDiff, Nat.reduceLT, Nat.reduceLeDiff, Nat.reduceAdd, Nat.reduceMul, Int.reduceLE, Int.reduceLT, Int.reduceNeg, Int.reduceAdd, Int.reduceToNat, E_pcheck_eq, E_need_eq, Tryz.ntmps90, Tryz.results90, gTT]
  refine ⟨fun h => ?_, fun h => ?_⟩
  · have hne : phC ⟨n, d, a, p, f⟩ i ≠ 0 := by simpa using h
    simp [neE, hne]
  · have he : phC ⟨n, d, a, p, f⟩ i = 0 := by simpa using h
    refine ⟨phC_ok he, ?_⟩
    simp [neE, he]
def E_pneed : List V → Boxes → Toks → Name → Option Ent
  | [.agg [.d (.int .i64 n), .d (.int .i64 d), .d (.int .i64 a), .d (.int .i64 p), .d (.int .i64 f)], .c (.d (.int .i64 i))], [], [], _ => some ⟨True, .tup [.int .i64 (neE ⟨n, d, a, p, f⟩ i), .int .i64 (phC ⟨n, d, a, p, f⟩ i)], [], []⟩
  | _, _, _, _ => none
def E_pneed_eq := And.intro (@E_pneed.eq_1) (@E_pneed.eq_1)
theorem E_pneed_ok : Snd Tryz.prog 90 E_pneed := by
  intro vs b k n e h hn hp
  unfold E_pneed at h
  split at h
  · cases h; exact (spec_pneed _ _ _ _ _ _).lift rfl _
  · cases h
theorem spec_mk1 (n d a p f : Int) (k m : Int) (hv : phV ⟨n, d, a, p, f⟩ = true) (hi : 0 ≤ k ∧ k < 65536) : Spec Tryz.prog 0 162 [vI .i64 k, .c (.lp ⟨0, 0⟩ 0), .c (.lp ⟨0, 1⟩ 0)] [(⟨0, 0⟩, [.d (.int .i64 n), .d (.int .i64 d), .d (.int .i64 a), .d (.int .i64 p), .d (.int .i64 f)]), (⟨0, 1⟩, [.d (.int .i64 m)])] [] (vB (decide (m < ned ⟨n, d, a, p, f⟩ (k + 1)))) [(⟨0, 0⟩, [.d (.int .i64 n), .d (.int .i64 d), .d (.int .i64 a), .d (.int .i64 p), .d (.int .i64 f)]), (⟨0, 1⟩, [.d (.int .i64 m)])] [] := by
  refine spec_of_E (X := ⟨Tryz.prog, tt, Tryz.f162.ntmps, 1, fun _ => 0, (tab [(159, E_need)])⟩) (M := []) (m := 23) rfl rfl ⟨tt_ok, tab_ok (tabs_cons E_need_ok tabs_nil) _ rfl rfl⟩ tt_mixed Tryz.func162 rfl (by decide) (by show (3 : Nat) ≤ _; exact Nat.le_of_ble_eq_true rfl) ⟨by simp [V.has, C.has], by simp [C.has], by simp⟩ ?_
  simp (maxSteps := 1000000) only [↓gPre, gPost, gCore, gDef, gSt, gS0, Nat.reduceShiftRight, Nat.reduceMod, ↓reduceIte, reduceCtorEq, Nat.reduceEqDiff, Nat.reduceLT, Nat.reduceLeDiff, Nat.reduceAdd, Nat.reduceMul, Int.reduceLE, Int.reduceLT, Int.reduceNeg, Int.reduceAdd, Int.reduceToNat, E_need_eq, Tryz.ntmps162, Tryz.results162, gTT]
  rw [IntWalk.i64_in (k + 1) (by omega)]
  exact ⟨by kernel_rfl, ⟨hv, by omega⟩, rfl⟩
def E_mk1 : List V → Boxes → Toks → Name → Option Ent
  | [.c (.d (.int .i64 k)), .c (.lp n0 0), .c (.lp n1 0)], [(m0, [.d (.int .i64 n), .d (.int .i64 d), .d (.int .i64 a), .d (.int .i64 p), .d (.int .i64 f)]), (m1, [.d (.int .i64 m)])], [], _ => some ⟨phV ⟨n, d, a, p, f⟩ = true ∧ (0 ≤ k ∧ k < 65536) ∧ n0.lv ≤ 1 ∧ n1.lv ≤ 1 ∧ m0 = n0 ∧ m1 = n1 ∧ n1 ≠ n0, vB (decide (m < ned ⟨n, d, a, p, f⟩ (k + 1))), [(n0, [.d (.int .i64 n), .d (.int .i64 d), .d (.int .i64 a), .d (.int .i64 p), .d (.int .i64 f)]), (n1, [.d (.int .i64 m)])], []⟩
  | _, _, _, _ => none
def E_mk1_eq := And.intro (@E_mk1.eq_1) (@E_mk1.eq_1)
theorem E_mk1_ok : Snd Tryz.prog 162 E_mk1 := by
  intro vs b k n e h hn hp
  unfold E_mk1 at h
  split at h
  · cases h; obtain ⟨hp0, hp1, hl0, hl1, rfl, rfl, hd10⟩ := hp; exact Spec.ren2 (spec_mk1 _ _ _ _ _ _ _ hp0 hp1) 0 1 (by simp [supOK, V.names, C.names, namesB, namesK]) hl0 hl1 hd10
  · cases h
theorem spec_psearch (n d a p f : Int) (w m : Int) (hw : w = 65536) (hv : phV ⟨n, d, a, p, f⟩ = true) (hm : 0 ≤ m) : Spec Tryz.prog 0 161 [vI .i64 w, .c (.fn 162 [(⟨0, 0⟩, 0), (⟨0, 1⟩, 0)])] [(⟨0, 0⟩, [.d (.int .i64 n), .d (.int .i64 d), .d (.int .i64 a), .d (.int .i64 p), .d (.int .i64 f)]), (⟨0, 1⟩, [.d (.int .i64 m)])] [] (vI .i64 ((mkN ⟨n, d, a, p, f⟩ m : Nat) : Int)) [(⟨0, 0⟩, [.d (.int .i64 n), .d (.int .i64 d), .d (.int .i64 a), .d (.int .i64 p), .d (.int .i64 f)]), (⟨0, 1⟩, [.d (.int .i64 m)])] [] := by
  refine spec_of_E (X := ⟨Tryz.prog, tt, Tryz.f161.ntmps, 1, fun _ => 0, (tab [(162, E_mk1)])⟩) (M := []) (m := 2099443) rfl rfl ⟨tt_ok, tab_ok (tabs_cons E_mk1_ok tabs_nil) _ rfl rfl⟩ tt_mixed Tryz.func161 rfl (by decide) (by show (2 : Nat) ≤ _; exact Nat.le_of_ble_eq_true rfl) ⟨by simp [V.has, C.has], by simp [C.has], by simp⟩ ?_
  simp (maxSteps := 1000000) only [↓gPre, gPost, gCore, gDef, gSt, gS0, Nat.reduceShiftRight, Nat.reduceMod, ↓reduceIte, reduceCtorEq, Nat.reduceEqDiff, Nat.reduceLT, Nat.reduceLeDiff, Nat.reduceAdd, Nat.reduceMul, Int.reduceLE, Int.reduceLT, Int.reduceNeg, Int.reduceAdd, Int.reduceToNat, E_mk1_eq, Tryz.ntmps161, Tryz.results161, gTT]
  subst hw
  refine ELoop_keep (fun g : Nat × Nat => ⟨[(5, vI .i64 (g.1 : Nat)), (6, vI .i64 (g.2 : Nat))], [], []⟩) (fun g => g.1 ≤ mkN ⟨n, d, a, p, f⟩ m ∧ mkN ⟨n, d, a, p, f⟩ m ≤ g.2 ∧ g.2 ≤ 65536) (fun g => g.2 - g.1) (fun g => if decide (m < ned ⟨n, d, a, p, f⟩ (((g.1 + g.2) / 2 : Nat) + 1)) = true then (g.1, (g.1 + g.2) / 2) else ((g.1 + g.2) / 2 + 1, g.2)) (0, 65536) ⟨Nat.zero_le _, mkN_le hv hm, Nat.le_refl _⟩ ?_ ?_
  · simp (maxSteps := 1000000) only [↓gPre, gPost, gCore, gDef, gSt, gS0, Nat.reduceShiftRight, Nat.reduceMod, ↓reduceIte, reduceCtorEq, Nat.reduceEqDiff, Nat.reduceLT, Nat.reduceLeDiff, Nat.reduceAdd, Nat.reduceMul, Int.reduceLE, Int.reduceLT, Int.reduceNeg, Int.reduceAdd, Int.reduceToNat, E_mk1_eq, Tryz.ntmps161, Tryz.results161, gTT]
    exact ⟨rfl, rfl⟩
  rintro ⟨i, j⟩ ⟨h1, h2, h3⟩
  replace h1 : i ≤ mkN ⟨n, d, a, p, f⟩ m := h1
  replace h2 : mkN ⟨n, d, a, p, f⟩ m ≤ j := h2
  replace h3 : j ≤ 65536 := h3
  simp (maxSteps := 1000000) only [↓gPre, gPost, gCore, gDef, gSt, gS0, Nat.reduceShiftRight, Nat.reduceMod, ↓reduceIte, reduceCtorEq, Nat.reduceEqDiff, Nat.reduceLT, Nat.reduceLeDiff, Nat.reduceAdd, Nat.reduceMul, Int.reduceLE, Int.reduceLT, Int.reduceNeg, Int.reduceAdd, Int.reduceToNat, E_mk1_eq, Tryz.ntmps161, Tryz.results161, gTT]
  generalize hh : (i + j) / 2 = h
  refine ⟨fun h4 => ?_, fun h4 => ?_⟩
  · have hij : i < j := by have := of_decide_eq_true h4; omega
    have hk := mkN_iff hv hm (k := h + 1) (by omega)
    rw [half_go (by omega), hh]
    rw [IntWalk.i64_in ((h : Int) + 1) (by omega)]
    have e : ((h + 1 : Nat) : Int) = (h : Int) + 1 := by omega
    rw [e] at hk
    refine ⟨⟨hv, by omega⟩, fun h5 => ?_, fun h5 => ?_⟩
    · have h6 := of_decide_eq_false h5
      rw [if_neg (by rw [h5]; decide)]
      have := hk.2 (by omega)
      exact ⟨⟨by show ((h + 1 : Nat) : Int) = _; omega, rfl⟩, ⟨this, h2, h3⟩, by show j - (h + 1) < j - i; omega⟩
    · have h5' : decide (m < ned ⟨n, d, a, p, f⟩ ((h : Int) + 1)) = true := by simpa using h5
      have h6 := of_decide_eq_true h5'
      rw [if_pos h5']
      have h7 : ¬ (h + 1 ≤ mkN ⟨n, d, a, p, f⟩ m) := fun h => by have := hk.1 h; omega
      exact ⟨⟨rfl, rfl⟩, ⟨h1, by show mkN _ m ≤ h; omega, by show h ≤ 65536; omega⟩, by show h - i < j - i; omega⟩
  · have : i = j := by have := of_decide_eq_false h4; omega
    have : mkN ⟨n, d, a, p, f⟩ m = i := by omega
    rw [this]
def E_psearch : List V → Boxes → Toks → Name → Option Ent
  | [.c (.d (.int .i64 w)), .c (.fn 162 [(n0, 0), (n1, 0)])], [(m0, [.d (.int .i64 n), .d (.int .i64 d), .d (.int .i64 a), .d (.int .i64 p), .d (.int .i64 f)]), (m1, [.d (.int .i64 m)])], [], _ => some ⟨w = 65536 ∧ phV ⟨n, d, a, p, f⟩ = true ∧ 0 ≤ m ∧ n0.lv ≤ 1 ∧ n1.lv ≤ 1 ∧ m0 = n0 ∧ m1 = n1 ∧ n1 ≠ n0, vI .i64 ((mkN ⟨n, d, a, p, f⟩ m : Nat) : Int), [(n0, [.d (.int .i64 n), .d (.int .i64 d), .d (.int .i64 a), .d (.int .i64 p), .d (.int .i64 f)]), (n1, [.d (.int .i64 m)])], []⟩
  | _, _, _, _ => none
def E_psearch_eq := And.intro (@E_psearch.eq_1) (@E_psearch.eq_1)
theorem E_psearch_ok : Snd Tryz.prog 161 E_psearch := by
  intro vs b k n e h hn hp
  unfold E_psearch at h
  split at h
  · cases h; obtain ⟨hp0, hp1, hp2, hl0, hl1, rfl, rfl, hd10⟩ := hp; exact Spec.ren2 (spec_psearch _ _ _ _ _ _ _ hp0 hp1 hp2) 0 1 (by simp [supOK, V.names, C.names, namesB, namesK]) hl0 hl1 hd10
  · cases h
theorem spec_pmake (n d a p f : Int) (i : Int) : Spec Tryz.prog 0 91 [.agg [.d (.int .i64 n), .d (.int .i64 d), .d (.int .i64 a), .d (.int .i64 p), .d (.int .i64 f)], vI .i64 i] [] [] (.tup [.int .i64 (maN ⟨n, d, a, p, f⟩ i), .int .i64 (maE ⟨n, d, a, p, f⟩ i)]) [] [] := by
  refine spec_of_E (X := ⟨Tryz.prog, tt, Tryz.f91.ntmps, 1, fun _ => 0, (tab [(160, E_phvalid), (161, E_psearch)])⟩) (M := []) (m := 1151) rfl rfl ⟨tt_ok, tab_ok (tabs_cons E_phvalid_ok (tabs_cons E_psearch_ok tabs_nil)) _ rfl rfl⟩ tt_mixed Tryz.func91 rfl (by decide) (by show (2 : Nat) ≤ _; exact Nat.le_of_ble_eq_true rfl) ⟨by simp [V.has, C.has], by simp [C.has], by simp⟩ ?_
  simp (maxSteps := 1000000) only [↓gPre, gPost, gCore, gDef, gSt, gS0, Nat.reduceShiftRight, Nat.reduceMod, ↓reduceIte, reduceCtorEq, Nat.reduceEqDiff, Nat.reduceLT, Nat.reduceLeDiff, Nat.reduceAdd, Nat.reduceMul, Int.reduceLE, Int.reduceLT, Int.reduceNeg, Int.reduceAdd, Int.reduceToNat, E_phvalid_eq, E_psearch_eq, Tryz.ntmps91, Tryz.results91, gTT]
  refine ⟨fun h => ?_, fun h => ⟨fun h2 => ?_, fun h2 => ?_⟩⟩
  · have e : maE ⟨n, d, a, p, f⟩ i = 1 := by unfold maE; rw [if_pos h]
    simp [maN, e]
  · have hv : phV ⟨n, d, a, p, f⟩ = true := by simpa using h
    have e : maE ⟨n, d, a, p, f⟩ i = 2 := by unfold maE; rw [if_neg (by rw [hv]; decide), if_pos h2]
    simp [maN, e]
  have hv : phV ⟨n, d, a, p, f⟩ = true := by simpa using h
  have e : maE ⟨n, d, a, p, f⟩ i = 0 := by unfold maE; rw [if_neg (by rw [hv]; decide), if_neg (by rw [h2]; decide)]
  have h0 : 0 ≤ i := by simp only [Bool.or_eq_false_iff, decide_eq_false_iff_not] at h2; omega
  refine ⟨⟨hv, h0⟩, ?_⟩
  simp [maN, e]
def E_pmake : List V → Boxes → Toks → Name → Option Ent
  | [.agg [.d (.int .i64 n), .d (.int .i64 d), .d (.int .i64 a), .d (.int .i64 p), .d (.int .i64 f)], .c (.d (.int .i64 i))], [], [], _ => some ⟨True, .tup [.int .i64 (maN ⟨n, d, a, p, f⟩ i), .int .i64 (maE ⟨n, d, a, p, f⟩ i)], [], []⟩
  | _, _, _, _ => none
def E_pmake_eq := And.intro (@E_pmake.eq_1) (@E_pmake.eq_1)
theorem E_pmake_ok : Snd Tryz.prog 91 E_pmake := by
  intro vs b k n e h hn hp
  unfold E_pmake at h
  split at h
  · cases h; exact (spec_pmake _ _ _ _ _ _).lift rfl _
  · cases h
end Go.Vam
