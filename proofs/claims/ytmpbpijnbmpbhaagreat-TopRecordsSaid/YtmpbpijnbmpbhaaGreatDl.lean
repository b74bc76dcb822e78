/- A part of the proof. Conditions: none. -/
import Derived.Test.YtmpbpijnbmpbhaaGreatDk
set_option linter.unusedVariables false
set_option linter.defProp false
set_option linter.unusedSimpArgs false
set_option maxRecDepth 40000
set_option maxHeartbeats 4000000
namespace Go.Vam
open Go.Proofs
theorem spec_cposs (rn rd : Int) (hp : rn = 16 ∧ rd = 1) : Spec Tryz.prog 0 242 [.agg [.d (.int .i64 rn), .d (.int .i64 rd)]] [] [] (vB true) [] [] := by
  refine sE (md := fun _ => 0) (L := [(216, E_rtvalid)]) [(1, [0, 0, 0, 0, 0, 134217511, 0, 0, 0, 0, 0, 134210567, 0, 0, 0, 0, 0, 133431303, 0, 0, 0, 0, 0, 67108871, 0])] 7 (tabs_cons E_rtvalid_ok tabs_nil) Tryz.func242 rfl rfl rfl ?_
  obtain ⟨rfl, rfl⟩ := hp
  simp (maxSteps := 1000000) only [↓gPre, gPost, gCore, gDef, gSt, gS0, Nat.reduceShiftRight, Nat.reduceMod, ↓reduceIte, reduceCtorEq, Nat.reduceEqDiff, Nat.reduceLT, Nat.reduceLeDiff, Nat.reduceAdd, Nat.reduceMul, Int.reduceLE, Int.reduceLT, Int.reduceNeg, Int.reduceAdd, Int.reduceToNat, E_rtvalid_eq, gE1, gE2, Tryz.ntmps242, Tryz.results242, gTT]
  decide +kernel
def E_cposs : List V → Boxes → Toks → Name → Option Ent
  | [.agg [.d (.int .i64 rn), .d (.int .i64 rd)]], [], [], _ => some ⟨(rn = 16 ∧ rd = 1), vB true, [], []⟩
  | _, _, _, _ => none
def E_cposs_eq := And.intro (@E_cposs.eq_1) (@E_cposs.eq_1)
theorem E_cposs_ok : Snd Tryz.prog 242 E_cposs := by
  intro vs b k n e h hn hp
  unfold E_cposs at h
  split at h
  · cases h; have hp0 := hp; exact (spec_cposs _ _ hp0).lift rfl _
  · cases h
theorem spec_cdecl (rn rd dr ji : Int) (hp : rn = 16 ∧ rd = 1) (hd : dr = 0 ∧ ji = 1) : Spec Tryz.prog 0 190 [.agg [.d (.int .i64 rn), .d (.int .i64 rd)], vI .i64 dr, vI .i64 ji] [] [] (vB true) [] [] := by
  refine sE (md := fun _ => 0) (L := [(242, E_cposs)]) [(1, [0, 0, 0, 0, 0, 33550415, 0, 0, 0, 0, 0, 33423439, 0, 0, 0, 0, 0, 16777295, 0])] 79 (tabs_cons E_cposs_ok tabs_nil) Tryz.func190 rfl rfl rfl ?_
  obtain ⟨rfl, rfl⟩ := hd
  simp (maxSteps := 1000000) only [↓gPre, gPost, gCore, gDef, gSt, gS0, Nat.reduceShiftRight, Nat.reduceMod, ↓reduceIte, reduceCtorEq, Nat.reduceEqDiff, Nat.reduceLT, Nat.reduceLeDiff, Nat.reduceAdd, Nat.reduceMul, Int.reduceLE, Int.reduceLT, Int.reduceNeg, Int.reduceAdd, Int.reduceToNat, E_cposs_eq, gE1, gE2, Tryz.ntmps190, Tryz.results190, gTT]
  exact hp
def E_cdecl : List V → Boxes → Toks → Name → Option Ent
  | [.agg [.d (.int .i64 rn), .d (.int .i64 rd)], .c (.d (.int .i64 dr)), .c (.d (.int .i64 ji))], [], [], _ => some ⟨(rn = 16 ∧ rd = 1) ∧ (dr = 0 ∧ ji = 1), vB true, [], []⟩
  | _, _, _, _ => none
def E_cdecl_eq := And.intro (@E_cdecl.eq_1) (@E_cdecl.eq_1)
theorem E_cdecl_ok : Snd Tryz.prog 190 E_cdecl := by
  intro vs b k n e h hn hp
  unfold E_cdecl at h
  split at h
  · cases h; obtain ⟨hp0, hp1⟩ := hp; exact (spec_cdecl _ _ _ _ hp0 hp1).lift rfl _
  · cases h
theorem spec_cup (a b : Int) (ha : 0 ≤ a ∧ a ≤ 65536) (hb : 1 ≤ b ∧ b ≤ 65536) : Spec Tryz.prog 0 191 [vI .i64 a, vI .i64 b] [] [] (vI .i64 ((a + b - 1) / b)) [] [] := by
  refine sE (md := fun _ => 0) (L := []) [] 19 tabs_nil Tryz.func191 rfl rfl rfl ?_
  simp (maxSteps := 1000000) only [↓gPre, gPost, gCore, gDef, gSt, gS0, Nat.reduceShiftRight, Nat.reduceMod, ↓reduceIte, reduceCtorEq, Nat.reduceEqDiff, Nat.reduceLT, Nat.reduceLeDiff, Nat.reduceAdd, Nat.reduceMul, Int.reduceLE, Int.reduceLT, Int.reduceNeg, Int.reduceAdd, Int.reduceToNat, gE1, gE2, Tryz.ntmps191, Tryz.results191, gTT]
  have h1 : 0 ≤ (a + b - 1) / b := Int.ediv_nonneg (by omega) (by omega)
  have h2 := Int.ediv_le_self b (show 0 ≤ a + b - 1 by omega)
  refine ⟨by omega, ?_⟩
  rw [IntWalk.i64_in (a + b) (by omega), IntWalk.i64_in (a + b - 1) (by omega), Int.tdiv_eq_ediv_of_nonneg (by omega), IntWalk.i64_in _ (by omega)]
def E_cup : List V → Boxes → Toks → Name → Option Ent
  | [.c (.d (.int .i64 a)), .c (.d (.int .i64 b))], [], [], _ => some ⟨(0 ≤ a ∧ a ≤ 65536) ∧ (1 ≤ b ∧ b ≤ 65536), vI .i64 ((a + b - 1) / b), [], []⟩
  | _, _, _, _ => none
def E_cup_eq := And.intro (@E_cup.eq_1) (@E_cup.eq_1)
theorem E_cup_ok : Snd Tryz.prog 191 E_cup := by
  intro vs b k n e h hn hp
  unfold E_cup at h
  split at h
  · cases h; obtain ⟨hp0, hp1⟩ := hp; exact (spec_cup _ _ hp0 hp1).lift rfl _
  · cases h
theorem spec_cwob (rn rd n : Int) (hp : rn = 16 ∧ rd = 1) (hn : n = 0) : Spec Tryz.prog 0 192 [.agg [.d (.int .i64 rn), .d (.int .i64 rd)], vI .i64 n] [] [] (vI .i64 0) [] [] := by
  refine sE (md := fun _ => 0) (L := [(191, E_cup)]) [] 23 (tabs_cons E_cup_ok tabs_nil) Tryz.func192 rfl rfl rfl ?_
  obtain ⟨rfl, rfl⟩ := hp
  subst hn
  simp (maxSteps := 1000000) only [↓gPre, gPost, gCore, gDef, gSt, gS0, Nat.reduceShiftRight, Nat.reduceMod, ↓reduceIte, reduceCtorEq, Nat.reduceEqDiff, Nat.reduceLT, Nat.reduceLeDiff, Nat.reduceAdd, Nat.reduceMul, Int.reduceLE, Int.reduceLT, Int.reduceNeg, Int.reduceAdd, Int.reduceToNat, E_cup_eq, gE1, gE2, Tryz.ntmps192, Tryz.results192, gTT]
  exact ⟨by decide, by decide⟩
def E_cwob : List V → Boxes → Toks → Name → Option Ent
  | [.agg [.d (.int .i64 rn), .d (.int .i64 rd)], .c (.d (.int .i64 n))], [], [], _ => some ⟨(rn = 16 ∧ rd = 1) ∧ n = 0, vI .i64 0, [], []⟩
  | _, _, _, _ => none
def E_cwob_eq := And.intro (@E_cwob.eq_1) (@E_cwob.eq_1)
theorem E_cwob_ok : Snd Tryz.prog 192 E_cwob := by
  intro vs b k n e h hn hp
  unfold E_cwob at h
  split at h
  · cases h; obtain ⟨hp0, hp1⟩ := hp; exact (spec_cwob _ _ _ hp0 hp1).lift rfl _
  · cases h
theorem spec_cbound (ct cd cg cm : Int) (rn rd dr ji st : Int) (hc : ct = 0 ∧ cd = 4 ∧ cg = 16 ∧ cm = 0) (hp : rn = 16 ∧ rd = 1) (hd : dr = 0 ∧ ji = 1) (hs : st = 2 ∨ st = 0) : Spec Tryz.prog 0 193 [.agg [.d (.int .i64 ct), .d (.int .i64 cd), .d (.int .i64 cg), .d (.int .i64 cm)], .agg [.d (.int .i64 rn), .d (.int .i64 rd)], vI .i64 dr, vI .i64 ji, vI .i64 st] [] [] (.tup [.int .i64 8, .int .i64 0]) [] [] := by
  refine sE (md := fun _ => 0) (L := [(132, E_ctvalid), (190, E_cdecl), (191, E_cup), (192, E_cwob)]) [(8, [0, 0, 0, 0, 0, 36028608073964671, 0, 0, 0, 0, 0, 36020000959503487, 0, 0, 0, 0, 0, 34902897145683071, 0, 0, 0, 0, 0])] 33561727 (tabs_cons E_ctvalid_ok (tabs_cons E_cdecl_ok (tabs_cons E_cup_ok (tabs_cons E_cwob_ok tabs_nil)))) Tryz.func193 rfl rfl rfl ?_
  obtain ⟨rfl, rfl⟩ := hd
  obtain ⟨rfl, rfl, rfl, rfl⟩ := hc
  have hcv : ctV ⟨0, 4, 16, 0⟩ = true := by decide
  simp (maxSteps := 1000000) only [↓gPre, gPost, gCore, gDef, gSt, gS0, Nat.reduceShiftRight, Nat.reduceMod, ↓reduceIte, reduceCtorEq, Nat.reduceEqDiff, Nat.reduceLT, Nat.reduceLeDiff, Nat.reduceAdd, Nat.reduceMul, Int.reduceLE, Int.reduceLT, Int.reduceNeg, Int.reduceAdd, Int.reduceToNat, E_ctvalid_eq, E_cdecl_eq, E_cup_eq, E_cwob_eq, gE1, gE2, hcv, Tryz.ntmps193, Tryz.results193, gTT]
  rcases hs with rfl | rfl
  · exact ⟨hp, fun h => absurd h (by decide), fun _ => ⟨fun h => absurd h (by decide), fun _ => ⟨fun h => absurd h (by decide), fun _ => ⟨by kernel_rfl, ⟨hp, by decide⟩, rfl⟩⟩⟩⟩
  · exact ⟨hp, fun h => absurd h (by decide), fun _ => ⟨fun h => absurd h (by decide), fun _ => ⟨fun h => absurd h (by decide), fun _ => ⟨by kernel_rfl, ⟨hp, by decide⟩, rfl⟩⟩⟩⟩
def E_cbound : List V → Boxes → Toks → Name → Option Ent
  | [.agg [.d (.int .i64 ct), .d (.int .i64 cd), .d (.int .i64 cg), .d (.int .i64 cm)], .agg [.d (.int .i64 rn), .d (.int .i64 rd)], .c (.d (.int .i64 dr)), .c (.d (.int .i64 ji)), .c (.d (.int .i64 st))], [], [], _ => some ⟨(ct = 0 ∧ cd = 4 ∧ cg = 16 ∧ cm = 0) ∧ (rn = 16 ∧ rd = 1) ∧ (dr = 0 ∧ ji = 1) ∧ (st = 2 ∨ st = 0), .tup [.int .i64 8, .int .i64 0], [], []⟩
  | _, _, _, _ => none
def E_cbound_eq := And.intro (@E_cbound.eq_1) (@E_cbound.eq_1)
theorem E_cbound_ok : Snd Tryz.prog 193 E_cbound := by
  intro vs b k n e h hn hp
  unfold E_cbound at h
  split at h
  · cases h; obtain ⟨hp0, hp1, hp2, hp3⟩ := hp; exact (spec_cbound _ _ _ _ _ _ _ _ _ hp0 hp1 hp2 hp3).lift rfl _
  · cases h
theorem spec_cdemand (ct cd cg cm : Int) (rn rd dr ji : Int) (hc : ct = 0 ∧ cd = 4 ∧ cg = 16 ∧ cm = 0) (hp : rn = 16 ∧ rd = 1) (hd : dr = 0 ∧ ji = 1) : Spec Tryz.prog 0 194 [.agg [.d (.int .i64 ct), .d (.int .i64 cd), .d (.int .i64 cg), .d (.int .i64 cm)], .agg [.d (.int .i64 rn), .d (.int .i64 rd)], vI .i64 dr, vI .i64 ji] [] [] (.tup [.int .i64 21, .int .i64 0]) [] [] := by
  refine sE (md := fun _ => 0) (L := [(193, E_cbound), (191, E_cup), (192, E_cwob)]) [(4, [0, 0, 0, 0, 0, 549623696191, 0, 0, 0, 0, 0, 532578044735, 0, 0, 0, 0, 0, 0])] 2100031 (tabs_cons E_cbound_ok (tabs_cons E_cup_ok (tabs_cons E_cwob_ok tabs_nil))) Tryz.func194 rfl rfl rfl ?_
  obtain ⟨rfl, rfl⟩ := hd
  obtain ⟨rfl, rfl, rfl, rfl⟩ := hc
  have hcv : ctV ⟨0, 4, 16, 0⟩ = true := by decide
  simp (maxSteps := 1000000) only [↓gPre, gPost, gCore, gDef, gSt, gS0, Nat.reduceShiftRight, Nat.reduceMod, ↓reduceIte, reduceCtorEq, Nat.reduceEqDiff, Nat.reduceLT, Nat.reduceLeDiff, Nat.reduceAdd, Nat.reduceMul, Int.reduceLE, Int.reduceLT, Int.reduceNeg, Int.reduceAdd, Int.reduceToNat, E_cbound_eq, E_cup_eq, E_cwob_eq, gE1, gE2, hcv, Tryz.ntmps194, Tryz.results194, gTT]
  have hp2 := hp
  obtain ⟨rfl, rfl⟩ := hp2
  exact ⟨hp, by kernel_rfl, by decide, ⟨hp, by decide⟩, rfl⟩
def E_cdemand : List V → Boxes → Toks → Name → Option Ent
  | [.agg [.d (.int .i64 ct), .d (.int .i64 cd), .d (.int .i64 cg), .d (.int .i64 cm)], .agg [.d (.int .i64 rn), .d (.int .i64 rd)], .c (.d (.int .i64 dr)), .c (.d (.int .i64 ji))], [], [], _ => some ⟨(ct = 0 ∧ cd = 4 ∧ cg = 16 ∧ cm = 0) ∧ (rn = 16 ∧ rd = 1) ∧ (dr = 0 ∧ ji = 1), .tup [.int .i64 21, .int .i64 0], [], []⟩
  | _, _, _, _ => none
def E_cdemand_eq := And.intro (@E_cdemand.eq_1) (@E_cdemand.eq_1)
theorem E_cdemand_ok : Snd Tryz.prog 194 E_cdemand := by
  intro vs b k n e h hn hp
  unfold E_cdemand at h
  split at h
  · cases h; obtain ⟨hp0, hp1, hp2⟩ := hp; exact (spec_cdemand _ _ _ _ _ _ _ _ hp0 hp1 hp2).lift rfl _
  · cases h
theorem spec_cplan (rn rd dr ji de ga : Int) (hp : rn = 16 ∧ rd = 1) (hd : dr = 0 ∧ ji = 1) (hg : de = 4 ∧ ga = 16) : Spec Tryz.prog 0 116 [.agg [.d (.int .i64 rn), .d (.int .i64 rd)], vI .i64 dr, vI .i64 ji, vI .i64 de, vI .i64 ga] [] [] (.tup [.agg [.int .i64 29, .int .i64 4, .int .i64 16, .int .i64 0], .int .i64 37, .int .i64 0]) [] [] := by
  refine sE (md := fun _ => 0) (L := [(190, E_cdecl), (191, E_cup), (192, E_cwob), (193, E_cbound), (194, E_cdemand)]) [(1, [0, 0, 0, 0, 0, 4951760157143773998905556031, 0, 0, 0, 0, 0, 4951760157143773998117026879, 0, 0, 0, 0, 0, 4951760157143773930202856511, 0, 0, 0]), (10, [0, 0, 0, 0, 0, 9864834688057626415172418623, 0, 0, 0, 0, 0, 7505011488169870266145963071, 0])] 4951760157143773449166519359 (tabs_cons E_cdecl_ok (tabs_cons E_cup_ok (tabs_cons E_cwob_ok (tabs_cons E_cbound_ok (tabs_cons E_cdemand_ok tabs_nil))))) Tryz.func116 rfl rfl rfl ?_
  obtain ⟨rfl, rfl⟩ := hd
  obtain ⟨rfl, rfl⟩ := hg
  simp (maxSteps := 1000000) only [↓gPre, gPost, gCore, gDef, gSt, gS0, Nat.reduceShiftRight, Nat.reduceMod, ↓reduceIte, reduceCtorEq, Nat.reduceEqDiff, Nat.reduceLT, Nat.reduceLeDiff, Nat.reduceAdd, Nat.reduceMul, Int.reduceLE, Int.reduceLT, Int.reduceNeg, Int.reduceAdd, Int.reduceToNat, E_cdecl_eq, E_cup_eq, E_cwob_eq, E_cbound_eq, E_cdemand_eq, gE1, gE2, Tryz.ntmps116, Tryz.results116, gTT]
  have e : (IntKind.i64.wrap (65536 * 0) + IntKind.i64.wrap (65536 - 0) - 1) / IntKind.i64.wrap (65536 - 0) = 0 := by decide
  rw [e]
  exact ⟨hp, by decide, fun h => absurd h (by decide), fun _ => ⟨hp, ⟨rfl, hp, .inl (by decide)⟩, ⟨rfl, hp⟩, fun h => absurd h (by decide), fun _ => ⟨by kernel_rfl, rfl⟩⟩⟩
def E_cplan : List V → Boxes → Toks → Name → Option Ent
  | [.agg [.d (.int .i64 rn), .d (.int .i64 rd)], .c (.d (.int .i64 dr)), .c (.d (.int .i64 ji)), .c (.d (.int .i64 de)), .c (.d (.int .i64 ga))], [], [], _ => some ⟨(rn = 16 ∧ rd = 1) ∧ (dr = 0 ∧ ji = 1) ∧ (de = 4 ∧ ga = 16), .tup [.agg [.int .i64 29, .int .i64 4, .int .i64 16, .int .i64 0], .int .i64 37, .int .i64 0], [], []⟩
  | _, _, _, _ => none
def E_cplan_eq := And.intro (@E_cplan.eq_1) (@E_cplan.eq_1)
theorem E_cplan_ok : Snd Tryz.prog 116 E_cplan := by
  intro vs b k n e h hn hp
  unfold E_cplan at h
  split at h
  · cases h; obtain ⟨hp0, hp1, hp2⟩ := hp; exact (spec_cplan _ _ _ _ _ _ hp0 hp1 hp2).lift rfl _
  · cases h
end Go.Vam
