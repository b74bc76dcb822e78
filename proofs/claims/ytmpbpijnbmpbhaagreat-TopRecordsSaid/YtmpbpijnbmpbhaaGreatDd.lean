/- A part of the proof. Conditions: none. -/
import Derived.Test.YtmpbpijnbmpbhaaGreatDc
set_option linter.unusedVariables false
set_option linter.defProp false
set_option linter.unusedSimpArgs false
set_option maxRecDepth 40000
set_option maxHeartbeats 4000000
namespace Go.Vam
open Go.Proofs
def szK (k : Int) : Int := if k = 1 then 1 else if k = 2 then 2 else if k = 3 then 2 else if k = 4 then 3 else if k = 5 then 3 else if k = 6 then 4 else if k = 7 then 4 else 0
def bigK (k : Int) : Bool := k == 3 || k == 5 || k == 7
theorem spec_find (k : Int) : Spec Tryz.prog 0 74 [vI .i64 k] [] [] (.agg [.d (.int .i64 (szK k)), .d (.bool (bigK k))]) [] [] := by
  refine sE (md := fun _ => 0) (L := []) [(1, [0, 0, 0, 0, 0, 1107294893, 0, 0, 0, 0, 0, 1107208877, 0, 0, 0, 0])] 1105199149 tabs_nil Tryz.func74 rfl rfl rfl ?_
  simp (maxSteps := 1000000) only [↓gPre, gPost, gCore, gDef, gSt, gS0, Nat.reduceShiftRight, Nat.reduceMod, ↓reduceIte, reduceCtorEq, Nat.reduceEqDiff, Nat.reduceLT, Nat.reduceLeDiff, Nat.reduceAdd, Nat.reduceMul, Int.reduceLE, Int.reduceLT, Int.reduceNeg, Int.reduceAdd, Int.reduceToNat, gE1, Tryz.ntmps74, Tryz.results74, gTT]
  refine ELoop_keep (fun g => ⟨[(23, vI .i64 (g : Nat))], [], []⟩) (fun g => g ≤ 7 ∧ (k < 1 ∨ (g : Int) < k)) (fun g => 7 - g) (· + 1) 0 ⟨by decide, by omega⟩ ?_ ?_
  · simp (maxSteps := 1000000) only [↓gPre, gPost, gCore, gDef, gSt, gS0, Nat.reduceShiftRight, Nat.reduceMod, ↓reduceIte, reduceCtorEq, Nat.reduceEqDiff, Nat.reduceLT, Nat.reduceLeDiff, Nat.reduceAdd, Nat.reduceMul, Int.reduceLE, Int.reduceLT, Int.reduceNeg, Int.reduceAdd, Int.reduceToNat, gE1, Tryz.ntmps74, Tryz.results74, gTT]
    rfl
  rintro g ⟨h1, h2⟩
  match g, h1, h2 with
  | 0, h1, h2 =>
    simp (maxSteps := 1000000) only [↓gPre, gPost, gCore, gDef, gSt, gS0, Nat.reduceShiftRight, Nat.reduceMod, ↓reduceIte, reduceCtorEq, Nat.reduceEqDiff, Nat.reduceLT, Nat.reduceLeDiff, Nat.reduceAdd, Nat.reduceMul, Int.reduceLE, Int.reduceLT, Int.reduceNeg, Int.reduceAdd, Int.reduceToNat, gE1, Tryz.ntmps74, Tryz.results74, gTT]
    refine ⟨fun _ => ⟨by omega, fun e => ?_, fun e => ?_⟩, fun e => by simp at e⟩
    · have e1 := beq_iff_eq.1 e
      subst e1
      decide
    · have e1 : ¬ (1 = k) := by simpa using e
      exact ⟨rfl, by omega, by decide⟩
  | 1, h1, h2 =>
    simp (maxSteps := 1000000) only [↓gPre, gPost, gCore, gDef, gSt, gS0, Nat.reduceShiftRight, Nat.reduceMod, ↓reduceIte, reduceCtorEq, Nat.reduceEqDiff, Nat.reduceLT, Nat.reduceLeDiff, Nat.reduceAdd, Nat.reduceMul, Int.reduceLE, Int.reduceLT, Int.reduceNeg, Int.reduceAdd, Int.reduceToNat, gE1, Tryz.ntmps74, Tryz.results74, gTT]
    refine ⟨fun _ => ⟨by omega, fun e => ?_, fun e => ?_⟩, fun e => by simp at e⟩
    · have e1 := beq_iff_eq.1 e
      subst e1
      decide
    · have e1 : ¬ (2 = k) := by simpa using e
      exact ⟨rfl, by omega, by decide⟩
  | 2, h1, h2 =>
    simp (maxSteps := 1000000) only [↓gPre, gPost, gCore, gDef, gSt, gS0, Nat.reduceShiftRight, Nat.reduceMod, ↓reduceIte, reduceCtorEq, Nat.reduceEqDiff, Nat.reduceLT, Nat.reduceLeDiff, Nat.reduceAdd, Nat.reduceMul, Int.reduceLE, Int.reduceLT, Int.reduceNeg, Int.reduceAdd, Int.reduceToNat, gE1, Tryz.ntmps74, Tryz.results74, gTT]
    refine ⟨fun _ => ⟨by omega, fun e => ?_, fun e => ?_⟩, fun e => by simp at e⟩
    · have e1 := beq_iff_eq.1 e
      subst e1
      decide
    · have e1 : ¬ (3 = k) := by simpa using e
      exact ⟨rfl, by omega, by decide⟩
  | 3, h1, h2 =>
    simp (maxSteps := 1000000) only [↓gPre, gPost, gCore, gDef, gSt, gS0, Nat.reduceShiftRight, Nat.reduceMod, ↓reduceIte, reduceCtorEq, Nat.reduceEqDiff, Nat.reduceLT, Nat.reduceLeDiff, Nat.reduceAdd, Nat.reduceMul, Int.reduceLE, Int.reduceLT, Int.reduceNeg, Int.reduceAdd, Int.reduceToNat, gE1, Tryz.ntmps74, Tryz.results74, gTT]
    refine ⟨fun _ => ⟨by omega, fun e => ?_, fun e => ?_⟩, fun e => by simp at e⟩
    · have e1 := beq_iff_eq.1 e
      subst e1
      decide
    · have e1 : ¬ (4 = k) := by simpa using e
      exact ⟨rfl, by omega, by decide⟩
  | 4, h1, h2 =>
    simp (maxSteps := 1000000) only [↓gPre, gPost, gCore, gDef, gSt, gS0, Nat.reduceShiftRight, Nat.reduceMod, ↓reduceIte, reduceCtorEq, Nat.reduceEqDiff, Nat.reduceLT, Nat.reduceLeDiff, Nat.reduceAdd, Nat.reduceMul, Int.reduceLE, Int.reduceLT, Int.reduceNeg, Int.reduceAdd, Int.reduceToNat, gE1, Tryz.ntmps74, Tryz.results74, gTT]
    refine ⟨fun _ => ⟨by omega, fun e => ?_, fun e => ?_⟩, fun e => by simp at e⟩
    · have e1 := beq_iff_eq.1 e
      subst e1
      decide
    · have e1 : ¬ (5 = k) := by simpa using e
      exact ⟨rfl, by omega, by decide⟩
  | 5, h1, h2 =>
    simp (maxSteps := 1000000) only [↓gPre, gPost, gCore, gDef, gSt, gS0, Nat.reduceShiftRight, Nat.reduceMod, ↓reduceIte, reduceCtorEq, Nat.reduceEqDiff, Nat.reduceLT, Nat.reduceLeDiff, Nat.reduceAdd, Nat.reduceMul, Int.reduceLE, Int.reduceLT, Int.reduceNeg, Int.reduceAdd, Int.reduceToNat, gE1, Tryz.ntmps74, Tryz.results74, gTT]
    refine ⟨fun _ => ⟨by omega, fun e => ?_, fun e => ?_⟩, fun e => by simp at e⟩
    · have e1 := beq_iff_eq.1 e
      subst e1
      decide
    · have e1 : ¬ (6 = k) := by simpa using e
      exact ⟨rfl, by omega, by decide⟩
  | 6, h1, h2 =>
    simp (maxSteps := 1000000) only [↓gPre, gPost, gCore, gDef, gSt, gS0, Nat.reduceShiftRight, Nat.reduceMod, ↓reduceIte, reduceCtorEq, Nat.reduceEqDiff, Nat.reduceLT, Nat.reduceLeDiff, Nat.reduceAdd, Nat.reduceMul, Int.reduceLE, Int.reduceLT, Int.reduceNeg, Int.reduceAdd, Int.reduceToNat, gE1, Tryz.ntmps74, Tryz.results74, gTT]
    refine ⟨fun _ => ⟨by omega, fun e => ?_, fun e => ?_⟩, fun e => by simp at e⟩
    · have e1 := beq_iff_eq.1 e
      subst e1
      decide
    · have e1 : ¬ (7 = k) := by simpa using e
      exact ⟨rfl, by omega, by decide⟩
  | 7, h1, h2 =>
    simp (maxSteps := 1000000) only [↓gPre, gPost, gCore, gDef, gSt, gS0, Nat.reduceShiftRight, Nat.reduceMod, ↓reduceIte, reduceCtorEq, Nat.reduceEqDiff, Nat.reduceLT, Nat.reduceLeDiff, Nat.reduceAdd, Nat.reduceMul, Int.reduceLE, Int.reduceLT, Int.reduceNeg, Int.reduceAdd, Int.reduceToNat, gE1, Tryz.ntmps74, Tryz.results74, gTT]
    refine ⟨fun e => by simp at e, fun _ => ⟨by unfold szK; omega, ?_⟩⟩
    simp only [bigK, Bool.or_eq_false_iff, beq_eq_false_iff_ne]
    omega
  | g + 8, h1, h2 => omega
def E_find : List V → Boxes → Toks → Name → Option Ent
  | [.c (.d (.int .i64 k))], [], [], _ => some ⟨True, .agg [.d (.int .i64 (szK k)), .d (.bool (bigK k))], [], []⟩
  | _, _, _, _ => none
def E_find_eq := And.intro (@E_find.eq_1) (@E_find.eq_1)
theorem E_find_ok : Snd Tryz.prog 74 E_find := by
  intro vs b k n e h hn hp
  unfold E_find at h
  split at h
  · cases h; exact (spec_find _).lift rfl _
  · cases h
theorem spec_size (k : Int) : Spec Tryz.prog 0 176 [vI .i64 k] [] [] (vI .i64 (szK k)) [] [] := by
  refine sE (md := fun _ => 0) (L := [(74, E_find)]) [] 5 (tabs_cons E_find_ok tabs_nil) Tryz.func176 rfl rfl rfl ?_
  simp (maxSteps := 1000000) only [↓gPre, gPost, gCore, gDef, gSt, gS0, Nat.reduceShiftRight, Nat.reduceMod, ↓reduceIte, reduceCtorEq, Nat.reduceEqDiff, Nat.reduceLT, Nat.reduceLeDiff, Nat.reduceAdd, Nat.reduceMul, Int.reduceLE, Int.reduceLT, Int.reduceNeg, Int.reduceAdd, Int.reduceToNat, E_find_eq, gE1, Tryz.ntmps176, Tryz.results176, gTT]
def E_size : List V → Boxes → Toks → Name → Option Ent
  | [.c (.d (.int .i64 k))], [], [], _ => some ⟨True, vI .i64 (szK k), [], []⟩
  | _, _, _, _ => none
def E_size_eq := And.intro (@E_size.eq_1) (@E_size.eq_1)
theorem E_size_ok : Snd Tryz.prog 176 E_size := by
  intro vs b k n e h hn hp
  unfold E_size at h
  split at h
  · cases h; exact (spec_size _).lift rfl _
  · cases h
end Go.Vam
