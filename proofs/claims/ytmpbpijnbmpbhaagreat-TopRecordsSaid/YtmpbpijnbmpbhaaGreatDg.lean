/- A part of the proof. Conditions: none. -/
import Derived.Test.YtmpbpijnbmpbhaaGreatXk
set_option linter.unusedVariables false
set_option linter.defProp false
set_option linter.unusedSimpArgs false
set_option maxRecDepth 40000
set_option maxHeartbeats 4000000
namespace Go.Vam
open Go.Proofs
abbrev Lss := List (List Int)
theorem spec_spidx (q : List D) (z : Int) (hq : q = spanL) (hz : z = 48000) : Spec Tryz.prog 0 254 [vL q, .c (.fn 236 [(⟨0, 0⟩, 0)])] [(⟨0, 0⟩, [.d (.int .i64 z)])] [] (vI .i64 0) [(⟨0, 0⟩, [.d (.int .i64 z)])] [] := by
  refine spec_of_E (X := ⟨Tryz.prog, tt, Tryz.f254.ntmps, 1, fun _ => 0, (tab [(236, E_ishas1)])⟩) (M := []) (m := 66483) rfl rfl ⟨tt_ok, tab_ok (tabs_cons E_ishas1_ok tabs_nil) _ rfl rfl⟩ tt_mixed Tryz.func254 rfl (by decide) (by show (2 : Nat) ≤ _; exact Nat.le_of_ble_eq_true rfl) ⟨by simp [V.has, C.has, cvtC_eq], by simp [C.has], by simp⟩ ?_
  subst hq hz
  unfold spanL
  simp (maxSteps := 1000000) only [↓gPre, gPost, gCore, gDef, gSt, gS0, Nat.reduceShiftRight, Nat.reduceMod, ↓reduceIte, reduceCtorEq, Nat.reduceEqDiff, Nat.reduceLT, Nat.reduceLeDiff, Nat.reduceAdd, Nat.reduceMul, Int.reduceLE, Int.reduceLT, Int.reduceNeg, Int.reduceAdd, Int.reduceToNat, E_ishas1_eq, gE1, gE2, Int.natCast_zero, Int.natCast_one, Int.cast_ofNat_Int, Int.reduceSub, Tryz.ntmps254, Tryz.results254, gTT]
  refine ELoop_keep (fun g : Nat => ⟨[(8, vI .i64 (g : Nat))], [], []⟩) (fun g => g ≤ 0) (fun g => 1 - g) (· + 1) 0 (by decide) ?_ ?_
  · simp (maxSteps := 1000000) only [↓gPre, gPost, gCore, gDef, gSt, gS0, Nat.reduceShiftRight, Nat.reduceMod, ↓reduceIte, reduceCtorEq, Nat.reduceEqDiff, Nat.reduceLT, Nat.reduceLeDiff, Nat.reduceAdd, Nat.reduceMul, Int.reduceLE, Int.reduceLT, Int.reduceNeg, Int.reduceAdd, Int.reduceToNat, E_ishas1_eq, gE1, gE2, Int.natCast_zero, Int.natCast_one, Int.cast_ofNat_Int, Int.reduceSub, Tryz.ntmps254, Tryz.results254, gTT]
    all_goals rfl
  intro g hg
  obtain rfl : g = 0 := by omega
  simp (maxSteps := 1000000) only [↓gPre, gPost, gCore, gDef, gSt, gS0, Nat.reduceShiftRight, Nat.reduceMod, ↓reduceIte, reduceCtorEq, Nat.reduceEqDiff, Nat.reduceLT, Nat.reduceLeDiff, Nat.reduceAdd, Nat.reduceMul, Int.reduceLE, Int.reduceLT, Int.reduceNeg, Int.reduceAdd, Int.reduceToNat, E_ishas1_eq, gE1, gE2, Int.natCast_zero, Int.natCast_one, Int.cast_ofNat_Int, Int.reduceSub, Tryz.ntmps254, Tryz.results254, gTT]
  skip
def E_spidx : List V → Boxes → Toks → Name → Option Ent
  | [.c (.d (.list q)), .c (.fn 236 [(n0, 0)])], [(m0, [.d (.int .i64 z)])], [], _ => some ⟨q = spanL ∧ z = 48000 ∧ n0.lv ≤ 1 ∧ m0 = n0, vI .i64 0, [(n0, [.d (.int .i64 z)])], []⟩
  | _, _, _, _ => none
def E_spidx_eq := And.intro (@E_spidx.eq_1) (@E_spidx.eq_1)
theorem E_spidx_ok : Snd Tryz.prog 254 E_spidx := by
  intro vs b k n e h hn hp
  unfold E_spidx at h
  split at h
  · cases h; obtain ⟨hp0, hp1, hl0, rfl⟩ := hp; exact Spec.ren1 (spec_spidx _ _ hp0 hp1) 0 (by simp [supOK, V.names, C.names, namesB, namesK, cvtC_eq]) hl0 
  · cases h
theorem spec_spcont (q : List D) (z : Int) (hq : q = spanL) (hz : z = 48000) : Spec Tryz.prog 0 234 [vL q, .c (.fn 236 [(⟨0, 0⟩, 0)])] [(⟨0, 0⟩, [.d (.int .i64 z)])] [] (vB true) [(⟨0, 0⟩, [.d (.int .i64 z)])] [] := by
  refine spec_of_E (X := ⟨Tryz.prog, tt, Tryz.f234.ntmps, 1, fun _ => 0, (tab [(254, E_spidx)])⟩) (M := []) (m := 19) rfl rfl ⟨tt_ok, tab_ok (tabs_cons E_spidx_ok tabs_nil) _ rfl rfl⟩ tt_mixed Tryz.func234 rfl (by decide) (by show (2 : Nat) ≤ _; exact Nat.le_of_ble_eq_true rfl) ⟨by simp [V.has, C.has, cvtC_eq], by simp [C.has], by simp⟩ ?_
  simp (maxSteps := 1000000) only [↓gPre, gPost, gCore, gDef, gSt, gS0, Nat.reduceShiftRight, Nat.reduceMod, ↓reduceIte, reduceCtorEq, Nat.reduceEqDiff, Nat.reduceLT, Nat.reduceLeDiff, Nat.reduceAdd, Nat.reduceMul, Int.reduceLE, Int.reduceLT, Int.reduceNeg, Int.reduceAdd, Int.reduceToNat, E_spidx_eq, gE1, gE2, Tryz.ntmps234, Tryz.results234, gTT]
  exact ⟨hq, hz⟩
def E_spcont : List V → Boxes → Toks → Name → Option Ent
  | [.c (.d (.list q)), .c (.fn 236 [(n0, 0)])], [(m0, [.d (.int .i64 z)])], [], _ => some ⟨q = spanL ∧ z = 48000 ∧ n0.lv ≤ 1 ∧ m0 = n0, vB true, [(n0, [.d (.int .i64 z)])], []⟩
  | _, _, _, _ => none
def E_spcont_eq := And.intro (@E_spcont.eq_1) (@E_spcont.eq_1)
theorem E_spcont_ok : Snd Tryz.prog 234 E_spcont := by
  intro vs b k n e h hn hp
  unfold E_spcont at h
  split at h
  · cases h; obtain ⟨hp0, hp1, hl0, rfl⟩ := hp; exact Spec.ren1 (spec_spcont _ _ hp0 hp1) 0 (by simp [supOK, V.names, C.names, namesB, namesK, cvtC_eq]) hl0 
  · cases h
theorem spec_ishas (q : List D) (z : Int) (hq : q = spanL) (hz : z = 48000) : Spec Tryz.prog 0 185 [.agg [.d (.list q)], vI .i64 z] [] [] (vB true) [] [] := by
  refine sE (md := fun _ => 0) (L := [(235, E_isspans), (234, E_spcont)]) [] 31 (tabs_cons E_isspans_ok (tabs_cons E_spcont_ok tabs_nil)) Tryz.func185 rfl rfl rfl ?_
  simp (maxSteps := 1000000) only [↓gPre, gPost, gCore, gDef, gSt, gS0, Nat.reduceShiftRight, Nat.reduceMod, ↓reduceIte, reduceCtorEq, Nat.reduceEqDiff, Nat.reduceLT, Nat.reduceLeDiff, Nat.reduceAdd, Nat.reduceMul, Int.reduceLE, Int.reduceLT, Int.reduceNeg, Int.reduceAdd, Int.reduceToNat, E_isspans_eq, E_spcont_eq, gE1, gE2, Tryz.ntmps185, Tryz.results185, gTT]
  exact ⟨hq, hq, hz⟩
def E_ishas : List V → Boxes → Toks → Name → Option Ent
  | [.agg [.d (.list q)], .c (.d (.int .i64 z))], [], [], _ => some ⟨q = spanL ∧ z = 48000, vB true, [], []⟩
  | _, _, _, _ => none
def E_ishas_eq := And.intro (@E_ishas.eq_1) (@E_ishas.eq_1)
theorem E_ishas_ok : Snd Tryz.prog 185 E_ishas := by
  intro vs b k n e h hn hp
  unfold E_ishas at h
  split at h
  · cases h; obtain ⟨hp0, hp1⟩ := hp; exact (spec_ishas _ _ hp0 hp1).lift rfl _
  · cases h
theorem spec_within (q : List D) (x y : Int) (hq : q = spanL) (hx : x ≤ 48000) (hy : 48000 ≤ y) : Spec Tryz.prog 0 253 [.agg [.d (.list q)], vI .i64 x, vI .i64 y] [] [] (vB true) [] [] := by
  refine sE (md := fun _ => 0) (L := [(255, E_isvalid)]) [(2, [0, 0, 0, 0, 0, 137438888143, 0, 0, 0, 0, 0, 137434890447, 0, 0, 0, 0, 0, 137237627087, 0, 0, 0, 0, 0, 128916127951, 0, 0, 0])] 207 (tabs_cons E_isvalid_ok tabs_nil) Tryz.func253 rfl rfl rfl ?_
  subst hq
  unfold spanL
  have wz : IntKind.i64.wrap 0 = 0 := by decide
  simp (maxSteps := 1000000) only [↓gPre, gPost, gCore, gDef, gSt, gS0, Nat.reduceShiftRight, Nat.reduceMod, ↓reduceIte, reduceCtorEq, Nat.reduceEqDiff, Nat.reduceLT, Nat.reduceLeDiff, Nat.reduceAdd, Nat.reduceMul, Int.reduceLE, Int.reduceLT, Int.reduceNeg, Int.reduceAdd, Int.reduceToNat, E_isvalid_eq, gE1, gE2, Int.natCast_zero, Int.natCast_one, Int.cast_ofNat_Int, Int.reduceSub, wz, Int.toNat_zero, List.getElem?_nil, Tryz.ntmps253, Tryz.results253, gTT]
  exact ⟨rfl, by rw [decide_eq_true hx, decide_eq_true hy]; rfl⟩
def E_within : List V → Boxes → Toks → Name → Option Ent
  | [.agg [.d (.list q)], .c (.d (.int .i64 x)), .c (.d (.int .i64 y))], [], [], _ => some ⟨q = spanL ∧ x ≤ 48000 ∧ 48000 ≤ y, vB true, [], []⟩
  | _, _, _, _ => none
def E_within_eq := And.intro (@E_within.eq_1) (@E_within.eq_1)
theorem E_within_ok : Snd Tryz.prog 253 E_within := by
  intro vs b k n e h hn hp
  unfold E_within at h
  split at h
  · cases h; obtain ⟨hp0, hp1, hp2⟩ := hp; exact (spec_within _ _ _ hp0 hp1 hp2).lift rfl _
  · cases h
theorem spec_csame (a b : List Int) (ha : a.length ≤ 1000000) (hb : b.length ≤ 1000000) : Spec Tryz.prog 0 239 [vL (LI .i64 a), vL (LI .i64 b)] [] [] (vB (decide (a = b))) [] [] := by
  refine sE (md := fun _ => 0) (L := [(257, E_sequal)]) [] 19 (tabs_cons E_sequal_ok tabs_nil) Tryz.func239 rfl rfl rfl ?_
  simp (maxSteps := 1000000) only [↓gPre, gPost, gCore, gDef, gSt, gS0, Nat.reduceShiftRight, Nat.reduceMod, ↓reduceIte, reduceCtorEq, Nat.reduceEqDiff, Nat.reduceLT, Nat.reduceLeDiff, Nat.reduceAdd, Nat.reduceMul, Int.reduceLE, Int.reduceLT, Int.reduceNeg, Int.reduceAdd, Int.reduceToNat, E_sequal_eq, gE1, gE2, Tryz.ntmps239, Tryz.results239, gTT]
  exact ⟨by omega, by by_cases h : a = b <;> simp [h]⟩
def E_csame : List V → Boxes → Toks → Name → Option Ent
  | [.c (.d (.list q_a)), .c (.d (.list q_b))], [], [], _ => some ⟨(ints q_a).length ≤ 1000000 ∧ (ints q_b).length ≤ 1000000 ∧ q_a = LI .i64 (ints q_a) ∧ q_b = LI .i64 (ints q_b), vB (decide ((ints q_a) = (ints q_b))), [], []⟩
  | _, _, _, _ => none
def E_csame_eq := And.intro (@E_csame.eq_1) (@E_csame.eq_1)
theorem E_csame_ok : Snd Tryz.prog 239 E_csame := by
  intro vs b k n e h hn hp
  unfold E_csame at h
  split at h
  · cases h; obtain ⟨hp0, hp1, hq0, hq1⟩ := hp; obtain ⟨_, rfl⟩ := LI_ex hq0; obtain ⟨_, rfl⟩ := LI_ex hq1; simp only [ints_LI, bys_LB, blks_LK, lls_LL] at hp0 hp1 ⊢; exact (spec_csame _ _ hp0 hp1).lift rfl _
  · cases h
theorem spec_ohas1 (a m : List Int) (ha : a.length ≤ 1000000) (hb : m.length ≤ 1000000) : Spec Tryz.prog 0 238 [vL (LI .i64 a), .c (.lp ⟨0, 0⟩ 0)] [(⟨0, 0⟩, [.d (.list (LI .i64 m))])] [] (vB (decide (a = m))) [(⟨0, 0⟩, [.d (.list (LI .i64 m))])] [] := by
  refine spec_of_E (X := ⟨Tryz.prog, tt, Tryz.f238.ntmps, 1, fun _ => 0, (tab [(239, E_csame)])⟩) (M := []) (m := 11) rfl rfl ⟨tt_ok, tab_ok (tabs_cons E_csame_ok tabs_nil) _ rfl rfl⟩ tt_mixed Tryz.func238 rfl (by decide) (by show (2 : Nat) ≤ _; exact Nat.le_of_ble_eq_true rfl) ⟨by simp [V.has, C.has, cvtC_eq], by simp [C.has], by simp⟩ ?_
  simp (maxSteps := 1000000) only [↓gPre, gPost, gCore, gDef, gSt, gS0, Nat.reduceShiftRight, Nat.reduceMod, ↓reduceIte, reduceCtorEq, Nat.reduceEqDiff, Nat.reduceLT, Nat.reduceLeDiff, Nat.reduceAdd, Nat.reduceMul, Int.reduceLE, Int.reduceLT, Int.reduceNeg, Int.reduceAdd, Int.reduceToNat, E_csame_eq, gE1, gE2, Tryz.ntmps238, Tryz.results238, gTT]
  exact ⟨ha, hb⟩
def E_ohas1 : List V → Boxes → Toks → Name → Option Ent
  | [.c (.d (.list q_a)), .c (.lp n0 0)], [(m0, [.d (.list q_m)])], [], _ => some ⟨(ints q_a).length ≤ 1000000 ∧ (ints q_m).length ≤ 1000000 ∧ n0.lv ≤ 1 ∧ m0 = n0 ∧ q_a = LI .i64 (ints q_a) ∧ q_m = LI .i64 (ints q_m), vB (decide ((ints q_a) = (ints q_m))), [(n0, [.d (.list (LI .i64 (ints q_m)))])], []⟩
  | _, _, _, _ => none
def E_ohas1_eq := And.intro (@E_ohas1.eq_1) (@E_ohas1.eq_1)
theorem E_ohas1_ok : Snd Tryz.prog 238 E_ohas1 := by
  intro vs b k n e h hn hp
  unfold E_ohas1 at h
  split at h
  · cases h; obtain ⟨hp0, hp1, hl0, rfl, hq0, hq1⟩ := hp; obtain ⟨_, rfl⟩ := LI_ex hq0; obtain ⟨_, rfl⟩ := LI_ex hq1; simp only [ints_LI, bys_LB, blks_LK, lls_LL] at hp0 hp1 ⊢; exact Spec.ren1 (spec_ohas1 _ _ hp0 hp1) 0 (by simp [supOK, V.names, C.names, namesB, namesK, cvtC_eq]) hl0 
  · cases h
theorem spec_mpidx (mm : Lss) (m : List Int) (hm : mm = [] ∨ mm = [m]) (hb : m.length ≤ 1000000) : Spec Tryz.prog 0 256 [vL (LL .i64 mm), .c (.fn 238 [(⟨0, 0⟩, 0)])] [(⟨0, 0⟩, [.d (.list (LI .i64 m))])] [] (vI .i64 (if mm.isEmpty then -1 else 0)) [(⟨0, 0⟩, [.d (.list (LI .i64 m))])] [] := by
  refine spec_of_E (X := ⟨Tryz.prog, tt, Tryz.f256.ntmps, 1, fun _ => 0, (tab [(238, E_ohas1)])⟩) (M := []) (m := 66483) rfl rfl ⟨tt_ok, tab_ok (tabs_cons E_ohas1_ok tabs_nil) _ rfl rfl⟩ tt_mixed Tryz.func256 rfl (by decide) (by show (2 : Nat) ≤ _; exact Nat.le_of_ble_eq_true rfl) ⟨by simp [V.has, C.has, cvtC_eq], by simp [C.has], by simp⟩ ?_
  rcases hm with rfl | rfl
  · simp (maxSteps := 1000000) only [↓gPre, gPost, gCore, gDef, gSt, gS0, Nat.reduceShiftRight, Nat.reduceMod, ↓reduceIte, reduceCtorEq, Nat.reduceEqDiff, Nat.reduceLT, Nat.reduceLeDiff, Nat.reduceAdd, Nat.reduceMul, Int.reduceLE, Int.reduceLT, Int.reduceNeg, Int.reduceAdd, Int.reduceToNat, E_ohas1_eq, gE1, gE2, Int.natCast_zero, Int.natCast_one, Int.cast_ofNat_Int, Int.reduceSub, Tryz.ntmps256, Tryz.results256, gTT]
    refine ELoop_keep (fun g : Nat => ⟨[(8, vI .i64 (g : Nat))], [], []⟩) (fun g => g ≤ 0) (fun g => 1 - g) (· + 1) 0 (by decide) ?_ ?_
    · simp (maxSteps := 1000000) only [↓gPre, gPost, gCore, gDef, gSt, gS0, Nat.reduceShiftRight, Nat.reduceMod, ↓reduceIte, reduceCtorEq, Nat.reduceEqDiff, Nat.reduceLT, Nat.reduceLeDiff, Nat.reduceAdd, Nat.reduceMul, Int.reduceLE, Int.reduceLT, Int.reduceNeg, Int.reduceAdd, Int.reduceToNat, E_ohas1_eq, gE1, gE2, Int.natCast_zero, Int.natCast_one, Int.cast_ofNat_Int, Int.reduceSub, Tryz.ntmps256, Tryz.results256, gTT]
      all_goals rfl
    intro g hg
    obtain rfl : g = 0 := by omega
    simp (maxSteps := 1000000) only [↓gPre, gPost, gCore, gDef, gSt, gS0, Nat.reduceShiftRight, Nat.reduceMod, ↓reduceIte, reduceCtorEq, Nat.reduceEqDiff, Nat.reduceLT, Nat.reduceLeDiff, Nat.reduceAdd, Nat.reduceMul, Int.reduceLE, Int.reduceLT, Int.reduceNeg, Int.reduceAdd, Int.reduceToNat, E_ohas1_eq, gE1, gE2, Int.natCast_zero, Int.natCast_one, Int.cast_ofNat_Int, Int.reduceSub, Tryz.ntmps256, Tryz.results256, gTT]
    simp
  · simp (maxSteps := 1000000) only [↓gPre, gPost, gCore, gDef, gSt, gS0, Nat.reduceShiftRight, Nat.reduceMod, ↓reduceIte, reduceCtorEq, Nat.reduceEqDiff, Nat.reduceLT, Nat.reduceLeDiff, Nat.reduceAdd, Nat.reduceMul, Int.reduceLE, Int.reduceLT, Int.reduceNeg, Int.reduceAdd, Int.reduceToNat, E_ohas1_eq, gE1, gE2, Int.natCast_zero, Int.natCast_one, Int.cast_ofNat_Int, Int.reduceSub, Tryz.ntmps256, Tryz.results256, gTT]
    refine ELoop_keep (fun g : Nat => ⟨[(8, vI .i64 (g : Nat))], [], []⟩) (fun g => g ≤ 0) (fun g => 1 - g) (· + 1) 0 (by decide) ?_ ?_
    · simp (maxSteps := 1000000) only [↓gPre, gPost, gCore, gDef, gSt, gS0, Nat.reduceShiftRight, Nat.reduceMod, ↓reduceIte, reduceCtorEq, Nat.reduceEqDiff, Nat.reduceLT, Nat.reduceLeDiff, Nat.reduceAdd, Nat.reduceMul, Int.reduceLE, Int.reduceLT, Int.reduceNeg, Int.reduceAdd, Int.reduceToNat, E_ohas1_eq, gE1, gE2, Int.natCast_zero, Int.natCast_one, Int.cast_ofNat_Int, Int.reduceSub, Tryz.ntmps256, Tryz.results256, gTT]
      all_goals rfl
    intro g hg
    obtain rfl : g = 0 := by omega
    simp (maxSteps := 1000000) only [↓gPre, gPost, gCore, gDef, gSt, gS0, Nat.reduceShiftRight, Nat.reduceMod, ↓reduceIte, reduceCtorEq, Nat.reduceEqDiff, Nat.reduceLT, Nat.reduceLeDiff, Nat.reduceAdd, Nat.reduceMul, Int.reduceLE, Int.reduceLT, Int.reduceNeg, Int.reduceAdd, Int.reduceToNat, E_ohas1_eq, gE1, gE2, Int.natCast_zero, Int.natCast_one, Int.cast_ofNat_Int, Int.reduceSub, Tryz.ntmps256, Tryz.results256, gTT]
    exact ⟨hb, by simp⟩
def E_mpidx : List V → Boxes → Toks → Name → Option Ent
  | [.c (.d (.list q_mm)), .c (.fn 238 [(n0, 0)])], [(m0, [.d (.list q_m)])], [], _ => some ⟨((lls q_mm) = [] ∨ (lls q_mm) = [(ints q_m)]) ∧ (ints q_m).length ≤ 1000000 ∧ n0.lv ≤ 1 ∧ m0 = n0 ∧ q_mm = LL .i64 (lls q_mm) ∧ q_m = LI .i64 (ints q_m), vI .i64 (if (lls q_mm).isEmpty then -1 else 0), [(n0, [.d (.list (LI .i64 (ints q_m)))])], []⟩
  | _, _, _, _ => none
def E_mpidx_eq := And.intro (@E_mpidx.eq_1) (@E_mpidx.eq_1)
theorem E_mpidx_ok : Snd Tryz.prog 256 E_mpidx := by
  intro vs b k n e h hn hp
  unfold E_mpidx at h
  split at h
  · cases h; obtain ⟨hp0, hp1, hl0, rfl, hq0, hq1⟩ := hp; obtain ⟨_, rfl⟩ := LL_ex hq0; obtain ⟨_, rfl⟩ := LI_ex hq1; simp only [ints_LI, bys_LB, blks_LK, lls_LL] at hp0 hp1 ⊢; exact Spec.ren1 (spec_mpidx _ _ hp0 hp1) 0 (by simp [supOK, V.names, C.names, namesB, namesK, cvtC_eq]) hl0 
  · cases h
theorem spec_mpcont (mm : Lss) (m : List Int) (hm : mm = [] ∨ mm = [m]) (hb : m.length ≤ 1000000) : Spec Tryz.prog 0 237 [vL (LL .i64 mm), .c (.fn 238 [(⟨0, 0⟩, 0)])] [(⟨0, 0⟩, [.d (.list (LI .i64 m))])] [] (vB (!mm.isEmpty)) [(⟨0, 0⟩, [.d (.list (LI .i64 m))])] [] := by
  refine spec_of_E (X := ⟨Tryz.prog, tt, Tryz.f237.ntmps, 1, fun _ => 0, (tab [(256, E_mpidx)])⟩) (M := []) (m := 19) rfl rfl ⟨tt_ok, tab_ok (tabs_cons E_mpidx_ok tabs_nil) _ rfl rfl⟩ tt_mixed Tryz.func237 rfl (by decide) (by show (2 : Nat) ≤ _; exact Nat.le_of_ble_eq_true rfl) ⟨by simp [V.has, C.has, cvtC_eq], by simp [C.has], by simp⟩ ?_
  simp (maxSteps := 1000000) only [↓gPre, gPost, gCore, gDef, gSt, gS0, Nat.reduceShiftRight, Nat.reduceMod, ↓reduceIte, reduceCtorEq, Nat.reduceEqDiff, Nat.reduceLT, Nat.reduceLeDiff, Nat.reduceAdd, Nat.reduceMul, Int.reduceLE, Int.reduceLT, Int.reduceNeg, Int.reduceAdd, Int.reduceToNat, E_mpidx_eq, gE1, gE2, Tryz.ntmps237, Tryz.results237, gTT]
  refine ⟨⟨hm, hb⟩, ?_⟩
  cases mm <;> simp
def E_mpcont : List V → Boxes → Toks → Name → Option Ent
  | [.c (.d (.list q_mm)), .c (.fn 238 [(n0, 0)])], [(m0, [.d (.list q_m)])], [], _ => some ⟨((lls q_mm) = [] ∨ (lls q_mm) = [(ints q_m)]) ∧ (ints q_m).length ≤ 1000000 ∧ n0.lv ≤ 1 ∧ m0 = n0 ∧ q_mm = LL .i64 (lls q_mm) ∧ q_m = LI .i64 (ints q_m), vB (!(lls q_mm).isEmpty), [(n0, [.d (.list (LI .i64 (ints q_m)))])], []⟩
  | _, _, _, _ => none
def E_mpcont_eq := And.intro (@E_mpcont.eq_1) (@E_mpcont.eq_1)
theorem E_mpcont_ok : Snd Tryz.prog 237 E_mpcont := by
  intro vs b k n e h hn hp
  unfold E_mpcont at h
  split at h
  · cases h; obtain ⟨hp0, hp1, hl0, rfl, hq0, hq1⟩ := hp; obtain ⟨_, rfl⟩ := LL_ex hq0; obtain ⟨_, rfl⟩ := LI_ex hq1; simp only [ints_LI, bys_LB, blks_LK, lls_LL] at hp0 hp1 ⊢; exact Spec.ren1 (spec_mpcont _ _ hp0 hp1) 0 (by simp [supOK, V.names, C.names, namesB, namesK, cvtC_eq]) hl0 
  · cases h
theorem spec_ohas (mm : Lss) (m : List Int) (hm : mm = [] ∨ mm = [m]) (hb : m.length ≤ 1000000) : Spec Tryz.prog 0 186 [vL (LL .i64 mm), vL (LI .i64 m)] [] [] (vB (!mm.isEmpty)) [] [] := by
  refine sE (md := fun _ => 0) (L := [(237, E_mpcont)]) [] 27 (tabs_cons E_mpcont_ok tabs_nil) Tryz.func186 rfl rfl rfl ?_
  simp (maxSteps := 1000000) only [↓gPre, gPost, gCore, gDef, gSt, gS0, Nat.reduceShiftRight, Nat.reduceMod, ↓reduceIte, reduceCtorEq, Nat.reduceEqDiff, Nat.reduceLT, Nat.reduceLeDiff, Nat.reduceAdd, Nat.reduceMul, Int.reduceLE, Int.reduceLT, Int.reduceNeg, Int.reduceAdd, Int.reduceToNat, E_mpcont_eq, gE1, gE2, Tryz.ntmps186, Tryz.results186, gTT]
  exact ⟨hm, hb⟩
def E_ohas : List V → Boxes → Toks → Name → Option Ent
  | [.c (.d (.list q_mm)), .c (.d (.list q_m))], [], [], _ => some ⟨((lls q_mm) = [] ∨ (lls q_mm) = [(ints q_m)]) ∧ (ints q_m).length ≤ 1000000 ∧ q_mm = LL .i64 (lls q_mm) ∧ q_m = LI .i64 (ints q_m), vB (!(lls q_mm).isEmpty), [], []⟩
  | _, _, _, _ => none
def E_ohas_eq := And.intro (@E_ohas.eq_1) (@E_ohas.eq_1)
theorem E_ohas_ok : Snd Tryz.prog 186 E_ohas := by
  intro vs b k n e h hn hp
  unfold E_ohas at h
  split at h
  · cases h; obtain ⟨hp0, hp1, hq0, hq1⟩ := hp; obtain ⟨_, rfl⟩ := LL_ex hq0; obtain ⟨_, rfl⟩ := LI_ex hq1; simp only [ints_LI, bys_LB, blks_LK, lls_LL] at hp0 hp1 ⊢; exact (spec_ohas _ _ hp0 hp1).lift rfl _
  · cases h
theorem spec_obfine (bk : Int) (q1 : List D) (mm : Lss) (q2 : List D) (hk : bk = 4) (h1 : q1 = spanL) (h2 : q2 = spanL) (hm : mm = [mm.headD []]) (hc : chV (mm.headD []) = true) : Spec Tryz.prog 0 232 [.agg [.d (.int .i64 bk), .d (.list q1), .d (.list (LL .i64 mm)), .d (.list q2)]] [] [] (vB true) [] [] := by
  refine sE (md := fun _ => 0) (L := [(253, E_within), (80, E_cvalid), (186, E_ohas)]) [(1, [0, 0, 0, 0, 0, 17594266418463, 0, 0, 0, 0, 0, 17594266370079, 0, 0, 0, 0, 0, 17594263273503, 0, 0, 0])] 17594232864799 (tabs_cons E_within_ok (tabs_cons E_cvalid_ok (tabs_cons E_ohas_ok tabs_nil))) Tryz.func232 rfl rfl rfl ?_
  have kk : ((4 : Int) == 0 || IntKind.i64.wrap ((BitVec.ofInt IntKind.i64.bits 4 &&& ~~~BitVec.ofInt IntKind.i64.bits 254).toNat : Int) != 0) = false := by decide +kernel
  obtain ⟨m, rfl⟩ : ∃ m, mm = [m] := ⟨_, hm⟩
  replace hc : chV m = true := hc
  subst hk
  simp (maxSteps := 1000000) only [↓gPre, gPost, gCore, gDef, gSt, gS0, Nat.reduceShiftRight, Nat.reduceMod, ↓reduceIte, reduceCtorEq, Nat.reduceEqDiff, Nat.reduceLT, Nat.reduceLeDiff, Nat.reduceAdd, Nat.reduceMul, Int.reduceLE, Int.reduceLT, Int.reduceNeg, Int.reduceAdd, Int.reduceToNat, E_within_eq, E_cvalid_eq, E_ohas_eq, gE1, gE2, Int.natCast_zero, Int.natCast_one, Int.cast_ofNat_Int, Int.reduceSub, kk, Tryz.ntmps232, Tryz.results232, gTT]
  refine ⟨h1, h2, ?_⟩
  refine ELoop_keep (fun g : Nat => ⟨[(29, vI .i64 (g : Nat))], [], []⟩) (fun g => g ≤ 1) (fun g => 1 - g) (· + 1) 0 (by decide) ?_ ?_
  · simp (maxSteps := 1000000) only [↓gPre, gPost, gCore, gDef, gSt, gS0, Nat.reduceShiftRight, Nat.reduceMod, ↓reduceIte, reduceCtorEq, Nat.reduceEqDiff, Nat.reduceLT, Nat.reduceLeDiff, Nat.reduceAdd, Nat.reduceMul, Int.reduceLE, Int.reduceLT, Int.reduceNeg, Int.reduceAdd, Int.reduceToNat, E_within_eq, E_cvalid_eq, E_ohas_eq, gE1, gE2, Int.natCast_zero, Int.natCast_one, Int.cast_ofNat_Int, Int.reduceSub, kk, Tryz.ntmps232, Tryz.results232, gTT]
    all_goals rfl
  intro g hg
  rcases (by omega : g = 0 ∨ g = 1) with rfl | rfl
  · simp (maxSteps := 1000000) only [↓gPre, gPost, gCore, gDef, gSt, gS0, Nat.reduceShiftRight, Nat.reduceMod, ↓reduceIte, reduceCtorEq, Nat.reduceEqDiff, Nat.reduceLT, Nat.reduceLeDiff, Nat.reduceAdd, Nat.reduceMul, Int.reduceLE, Int.reduceLT, Int.reduceNeg, Int.reduceAdd, Int.reduceToNat, E_within_eq, E_cvalid_eq, E_ohas_eq, gE1, gE2, Int.natCast_zero, Int.natCast_one, Int.cast_ofNat_Int, Int.reduceSub, kk, Tryz.ntmps232, Tryz.results232, gTT]
    have hch := hc
    simp only [chV, Bool.and_eq_true, decide_eq_true_eq] at hch
    refine ⟨by omega, fun _ => ⟨.inl rfl, by omega⟩, fun h => ?_, fun _ => ⟨rfl, by decide⟩⟩
    rw [hc] at h
    simp at h
  · simp (maxSteps := 1000000) only [↓gPre, gPost, gCore, gDef, gSt, gS0, Nat.reduceShiftRight, Nat.reduceMod, ↓reduceIte, reduceCtorEq, Nat.reduceEqDiff, Nat.reduceLT, Nat.reduceLeDiff, Nat.reduceAdd, Nat.reduceMul, Int.reduceLE, Int.reduceLT, Int.reduceNeg, Int.reduceAdd, Int.reduceToNat, E_within_eq, E_cvalid_eq, E_ohas_eq, gE1, gE2, Int.natCast_zero, Int.natCast_one, Int.cast_ofNat_Int, Int.reduceSub, kk, Tryz.ntmps232, Tryz.results232, gTT]
    all_goals skip
def E_obfine : List V → Boxes → Toks → Name → Option Ent
  | [.agg [.d (.int .i64 bk), .d (.list q1), .d (.list q_mm), .d (.list q2)]], [], [], _ => some ⟨bk = 4 ∧ q1 = spanL ∧ q2 = spanL ∧ (lls q_mm) = [(lls q_mm).headD []] ∧ chV ((lls q_mm).headD []) = true ∧ q_mm = LL .i64 (lls q_mm), vB true, [], []⟩
  | _, _, _, _ => none
def E_obfine_eq := And.intro (@E_obfine.eq_1) (@E_obfine.eq_1)
theorem E_obfine_ok : Snd Tryz.prog 232 E_obfine := by
  intro vs b k n e h hn hp
  unfold E_obfine at h
  split at h
  · cases h; obtain ⟨hp0, hp1, hp2, hp3, hp4, hq0⟩ := hp; obtain ⟨_, rfl⟩ := LL_ex hq0; simp only [ints_LI, bys_LB, blks_LK, lls_LL] at hp0 hp1 hp2 hp3 hp4 ⊢; exact (spec_obfine _ _ _ _ hp0 hp1 hp2 hp3 hp4).lift rfl _
  · cases h
end Go.Vam
