/- A part of the proof. Conditions: none. -/
import Derived.Test.YtmpbpijnbmpbhaaGreatDh
set_option linter.unusedVariables false
set_option linter.defProp false
set_option linter.unusedSimpArgs false
set_option maxRecDepth 40000
set_option maxHeartbeats 4000000
namespace Go.Vam
open Go.Proofs
def dsOK (s : ByteArray) (dd dm dl dt dj : Int) : Prop := s = dacS ∧ (dd = 1 ∨ dd = 2) ∧ dm = 0 ∧ dl = 0 ∧ dt = 0 ∧ dj = 0
def dvOK (bx : List D) (ck cr : Int) (mp : List Int) (cz ra pe : Int) (sg : List D) : Prop := bx = boxL mp ∧ chV mp = true ∧ ck = 2 ∧ cr = 48000 ∧ cz = 48000 ∧ ra = 48000 ∧ pe = 16 ∧ sg = segL
theorem chV_len {m : List Int} (h : chV m = true) : 1 ≤ m.length ∧ m.length ≤ 8 := by
  simp only [chV, Bool.and_eq_true, decide_eq_true_eq] at h
  exact h.1
theorem spec_dsvalid (di : Int) (s : ByteArray) (dd dm dl dt dj : Int) (bx : List D) (hs : dsOK s dd dm dl dt dj) (hx : boxOK bx) : Spec Tryz.prog 0 109 [.agg [.d (.int .u64 di), .d (.str s), .d (.int .i64 dd), .d (.int .i64 dm), .d (.int .i64 dl), .d (.int .i64 dt), .d (.int .i64 dj), .d (.list bx)]] [] [] (vB true) [] [] := by
  refine sE (md := fun _ => 0) (L := [(178, E_wname), (179, E_obvalid)]) [(12, [0, 0, 0, 0, 0, 36011204832919567, 0, 0, 0, 0, 0, 34902897112121359, 0, 0, 0, 0])] 15 (tabs_cons E_wname_ok (tabs_cons E_obvalid_ok tabs_nil)) Tryz.func109 rfl rfl rfl ?_
  obtain ⟨rfl, hd, rfl, rfl, rfl, rfl⟩ := hs
  obtain ⟨m, rfl, hc⟩ := hx
  simp (maxSteps := 1000000) only [↓gPre, gPost, gCore, gDef, gSt, gS0, Nat.reduceShiftRight, Nat.reduceMod, ↓reduceIte, reduceCtorEq, Nat.reduceEqDiff, Nat.reduceLT, Nat.reduceLeDiff, Nat.reduceAdd, Nat.reduceMul, Int.reduceLE, Int.reduceLT, Int.reduceNeg, Int.reduceAdd, Int.reduceToNat, E_wname_eq, E_obvalid_eq, gE1, gE2, Tryz.ntmps109, Tryz.results109, gTT]
  rcases hd with rfl | rfl
  · exact ⟨fun h => absurd h (by decide), fun _ => ⟨fun _ => ⟨m, rfl, hc⟩, rfl⟩⟩
  · exact ⟨fun _ => ⟨fun h => absurd h (by decide), fun _ => ⟨fun _ => ⟨m, rfl, hc⟩, rfl⟩⟩, fun _ => ⟨fun _ => ⟨m, rfl, hc⟩, rfl⟩⟩
def E_dsvalid : List V → Boxes → Toks → Name → Option Ent
  | [.agg [.d (.int .u64 di), .d (.str s), .d (.int .i64 dd), .d (.int .i64 dm), .d (.int .i64 dl), .d (.int .i64 dt), .d (.int .i64 dj), .d (.list bx)]], [], [], _ => some ⟨dsOK s dd dm dl dt dj ∧ boxOK bx, vB true, [], []⟩
  | _, _, _, _ => none
def E_dsvalid_eq := And.intro (@E_dsvalid.eq_1) (@E_dsvalid.eq_1)
theorem E_dsvalid_ok : Snd Tryz.prog 109 E_dsvalid := by
  intro vs b k n e h hn hp
  unfold E_dsvalid at h
  split at h
  · cases h; obtain ⟨hp0, hp1⟩ := hp; exact (spec_dsvalid _ _ _ _ _ _ _ _ hp0 hp1).lift rfl _
  · cases h
theorem spec_clkusual (rn rd : Int) (hr : rn = 1 ∧ rd = 1) : Spec Tryz.prog 0 180 [.agg [.d (.int .i64 rn), .d (.int .i64 rd)]] [] [] (vB true) [] [] := by
  refine sE (md := fun _ => 0) (L := [(216, E_rtvalid)]) [(1, [0, 0, 0, 0, 0, 2096935, 0, 0, 0, 0, 0, 2088967, 0, 0, 0, 0, 0, 1048583, 0])] 7 (tabs_cons E_rtvalid_ok tabs_nil) Tryz.func180 rfl rfl rfl ?_
  obtain ⟨rfl, rfl⟩ := hr
  simp (maxSteps := 1000000) only [↓gPre, gPost, gCore, gDef, gSt, gS0, Nat.reduceShiftRight, Nat.reduceMod, ↓reduceIte, reduceCtorEq, Nat.reduceEqDiff, Nat.reduceLT, Nat.reduceLeDiff, Nat.reduceAdd, Nat.reduceMul, Int.reduceLE, Int.reduceLT, Int.reduceNeg, Int.reduceAdd, Int.reduceToNat, E_rtvalid_eq, gE1, gE2, Tryz.ntmps180, Tryz.results180, gTT]
  decide +kernel
def E_clkusual : List V → Boxes → Toks → Name → Option Ent
  | [.agg [.d (.int .i64 rn), .d (.int .i64 rd)]], [], [], _ => some ⟨(rn = 1 ∧ rd = 1), vB true, [], []⟩
  | _, _, _, _ => none
def E_clkusual_eq := And.intro (@E_clkusual.eq_1) (@E_clkusual.eq_1)
theorem E_clkusual_ok : Snd Tryz.prog 180 E_clkusual := by
  intro vs b k n e h hn hp
  unfold E_clkusual at h
  split at h
  · cases h; have hp0 := hp; exact (spec_clkusual _ _ hp0).lift rfl _
  · cases h
theorem spec_clkvalid (sg : List D) (hq : sg = segL) : Spec Tryz.prog 0 110 [.agg [.d (.list sg)]] [] [] (vB true) [] [] := by
  refine sE (md := fun _ => 0) (L := [(180, E_clkusual)]) [(4, [0, 0, 0, 0, 0, 140737488225247, 0, 0, 0, 0, 0, 140737475773407, 0, 0, 0, 0, 0, 140736414614495, 0, 0, 0, 0, 0, 140688096232415, 0, 0, 0, 0, 0, 136427488674783, 0, 0, 0, 0])] 70368744178655 (tabs_cons E_clkusual_ok tabs_nil) Tryz.func110 rfl rfl rfl ?_
  subst hq
  unfold segL
  have wm : (IntKind.i64.wrap (-1)).toNat = 0 := by decide
  simp (maxSteps := 1000000) only [↓gPre, gPost, gCore, gDef, gSt, gS0, Nat.reduceShiftRight, Nat.reduceMod, ↓reduceIte, reduceCtorEq, Nat.reduceEqDiff, Nat.reduceLT, Nat.reduceLeDiff, Nat.reduceAdd, Nat.reduceMul, Int.reduceLE, Int.reduceLT, Int.reduceNeg, Int.reduceAdd, Int.reduceToNat, E_clkusual_eq, gE1, gE2, Int.natCast_zero, Int.natCast_one, Int.cast_ofNat_Int, Int.reduceSub, wm, List.getElem?_nil, Tryz.ntmps110, Tryz.results110, gTT]
  refine ELoop_keep (fun g : Nat => ⟨[(8, vI .i64 (g : Nat))], [], []⟩) (fun g => g ≤ 1) (fun g => 1 - g) (· + 1) 0 (by decide) ?_ ?_
  · simp (maxSteps := 1000000) only [↓gPre, gPost, gCore, gDef, gSt, gS0, Nat.reduceShiftRight, Nat.reduceMod, ↓reduceIte, reduceCtorEq, Nat.reduceEqDiff, Nat.reduceLT, Nat.reduceLeDiff, Nat.reduceAdd, Nat.reduceMul, Int.reduceLE, Int.reduceLT, Int.reduceNeg, Int.reduceAdd, Int.reduceToNat, E_clkusual_eq, gE1, gE2, Int.natCast_zero, Int.natCast_one, Int.cast_ofNat_Int, Int.reduceSub, wm, List.getElem?_nil, Tryz.ntmps110, Tryz.results110, gTT]
    all_goals rfl
  intro g hg
  rcases (by omega : g = 0 ∨ g = 1) with rfl | rfl
  · simp (maxSteps := 1000000) only [↓gPre, gPost, gCore, gDef, gSt, gS0, Nat.reduceShiftRight, Nat.reduceMod, ↓reduceIte, reduceCtorEq, Nat.reduceEqDiff, Nat.reduceLT, Nat.reduceLeDiff, Nat.reduceAdd, Nat.reduceMul, Int.reduceLE, Int.reduceLT, Int.reduceNeg, Int.reduceAdd, Int.reduceToNat, E_clkusual_eq, gE1, gE2, Int.natCast_zero, Int.natCast_one, Int.cast_ofNat_Int, Int.reduceSub, wm, List.getElem?_nil, Tryz.ntmps110, Tryz.results110, gTT]
    all_goals exact ⟨by kernel_rfl, by decide, by decide⟩
  · simp (maxSteps := 1000000) only [↓gPre, gPost, gCore, gDef, gSt, gS0, Nat.reduceShiftRight, Nat.reduceMod, ↓reduceIte, reduceCtorEq, Nat.reduceEqDiff, Nat.reduceLT, Nat.reduceLeDiff, Nat.reduceAdd, Nat.reduceMul, Int.reduceLE, Int.reduceLT, Int.reduceNeg, Int.reduceAdd, Int.reduceToNat, E_clkusual_eq, gE1, gE2, Int.natCast_zero, Int.natCast_one, Int.cast_ofNat_Int, Int.reduceSub, wm, List.getElem?_nil, Tryz.ntmps110, Tryz.results110, gTT]
    all_goals skip
def E_clkvalid : List V → Boxes → Toks → Name → Option Ent
  | [.agg [.d (.list sg)]], [], [], _ => some ⟨sg = segL, vB true, [], []⟩
  | _, _, _, _ => none
def E_clkvalid_eq := And.intro (@E_clkvalid.eq_1) (@E_clkvalid.eq_1)
theorem E_clkvalid_ok : Snd Tryz.prog 110 E_clkvalid := by
  intro vs b k n e h hn hp
  unfold E_clkvalid at h
  split at h
  · cases h; have hp0 := hp; exact (spec_clkvalid _ hp0).lift rfl _
  · cases h
theorem spec_clkbtw (sg : List D) (x y : Int) (hq : sg = segL) (hx : 0 ≤ x ∧ x ≤ y ∧ y ≤ 1099511627776) : Spec Tryz.prog 0 200 [.agg [.d (.list sg)], vI .i64 x, vI .i64 y] [] [] (.tup [.int .i64 (y - x), .int .i64 0]) [] [] := by
  refine sE (md := fun _ => 0) (L := [(110, E_clkvalid), (244, E_clkpos)]) [(3, [0, 0, 0, 0, 0, 16519631, 0, 0, 0, 0, 0, 0])] 4559 (tabs_cons E_clkvalid_ok (tabs_cons E_clkpos_ok tabs_nil)) Tryz.func200 rfl rfl rfl ?_
  simp (maxSteps := 1000000) only [↓gPre, gPost, gCore, gDef, gSt, gS0, Nat.reduceShiftRight, Nat.reduceMod, ↓reduceIte, reduceCtorEq, Nat.reduceEqDiff, Nat.reduceLT, Nat.reduceLeDiff, Nat.reduceAdd, Nat.reduceMul, Int.reduceLE, Int.reduceLT, Int.reduceNeg, Int.reduceAdd, Int.reduceToNat, E_clkvalid_eq, E_clkpos_eq, gE1, gE2, Tryz.ntmps200, Tryz.results200, gTT]
  refine ⟨hq, fun h => ?_, fun _ => ⟨by kernel_rfl, ⟨hq, by omega, by omega⟩, ⟨hq, by omega, by omega⟩, ?_⟩⟩
  · simp only [Bool.or_eq_true, decide_eq_true_eq] at h
    omega
  rw [IntWalk.i64_in (y - x) (by omega)]
def E_clkbtw : List V → Boxes → Toks → Name → Option Ent
  | [.agg [.d (.list sg)], .c (.d (.int .i64 x)), .c (.d (.int .i64 y))], [], [], _ => some ⟨sg = segL ∧ (0 ≤ x ∧ x ≤ y ∧ y ≤ 1099511627776), .tup [.int .i64 (y - x), .int .i64 0], [], []⟩
  | _, _, _, _ => none
def E_clkbtw_eq := And.intro (@E_clkbtw.eq_1) (@E_clkbtw.eq_1)
theorem E_clkbtw_ok : Snd Tryz.prog 200 E_clkbtw := by
  intro vs b k n e h hn hp
  unfold E_clkbtw at h
  split at h
  · cases h; obtain ⟨hp0, hp1⟩ := hp; exact (spec_clkbtw _ _ _ hp0 hp1).lift rfl _
  · cases h
theorem spec_uports (di : Int) (s : ByteArray) (dd dm dl dt dj : Int) (bx : List D) (ck cr : Int) (mp : List Int) (cz : Int) (ra pe : Int) (sg : List D) (ru : Bool) (si : Int) (q ct cd cg cm c n d a p f : Int) (l : List Int) (lo mi : Int) : Spec Tryz.prog 0 119 [.agg [.d (.int .u64 di), .d (.str s), .d (.int .i64 dd), .d (.int .i64 dm), .d (.int .i64 dl), .d (.int .i64 dt), .d (.int .i64 dj), .d (.list bx), .d (.int .i64 ck), .d (.int .i64 cr), .d (.list (LI .i64 mp)), .d (.int .i64 cz), .d (.int .i64 ra), .d (.int .i64 pe), .d (.list sg), .d (.bool ru), .d (.int .i64 si), .d (.int .i64 q), .d (.int .i64 ct), .d (.int .i64 cd), .d (.int .i64 cg), .d (.int .i64 cm), .d (.int .i64 c), .d (.int .i64 n), .d (.int .i64 d), .d (.int .i64 a), .d (.int .i64 p), .d (.int .i64 f), .d (.list (LI .i32 l)), .d (.int .i64 lo), .d (.int .i64 mi)]] [] [] (vI .i64 (mp.length : Nat)) [] [] := by
  refine spec_of_E (X := ⟨Tryz.prog, tt, Tryz.f119.ntmps, 1, fun _ => 0, (tab [])⟩) (M := []) (m := 7) rfl rfl ⟨tt_ok, tab_ok tabs_nil _ rfl rfl⟩ tt_mixed Tryz.func119 rfl (by decide) (by show (1 : Nat) ≤ _; exact Nat.le_of_ble_eq_true rfl) ⟨by simp [V.has, C.has, cvtC_eq], by simp [C.has], by simp⟩ ?_
  simp (maxSteps := 1000000) only [↓gPre, gPost, gCore, gDef, gSt, gS0, Nat.reduceShiftRight, Nat.reduceMod, ↓reduceIte, reduceCtorEq, Nat.reduceEqDiff, Nat.reduceLT, Nat.reduceLeDiff, Nat.reduceAdd, Nat.reduceMul, Int.reduceLE, Int.reduceLT, Int.reduceNeg, Int.reduceAdd, Int.reduceToNat, gE1, gE2, Tryz.ntmps119, Tryz.results119, gTT]
def E_uports : List V → Boxes → Toks → Name → Option Ent
  | [.agg [.d (.int .u64 di), .d (.str s), .d (.int .i64 dd), .d (.int .i64 dm), .d (.int .i64 dl), .d (.int .i64 dt), .d (.int .i64 dj), .d (.list bx), .d (.int .i64 ck), .d (.int .i64 cr), .d (.list q_mp), .d (.int .i64 cz), .d (.int .i64 ra), .d (.int .i64 pe), .d (.list sg), .d (.bool ru), .d (.int .i64 si), .d (.int .i64 q), .d (.int .i64 ct), .d (.int .i64 cd), .d (.int .i64 cg), .d (.int .i64 cm), .d (.int .i64 c), .d (.int .i64 n), .d (.int .i64 d), .d (.int .i64 a), .d (.int .i64 p), .d (.int .i64 f), .d (.list q_l), .d (.int .i64 lo), .d (.int .i64 mi)]], [], [], _ => some ⟨q_mp = LI .i64 (ints q_mp) ∧ q_l = LI .i32 (ints q_l), vI .i64 ((ints q_mp).length : Nat), [], []⟩
  | _, _, _, _ => none
def E_uports_eq := And.intro (@E_uports.eq_1) (@E_uports.eq_1)
theorem E_uports_ok : Snd Tryz.prog 119 E_uports := by
  intro vs b k n e h hn hp
  unfold E_uports at h
  split at h
  · cases h; obtain ⟨hq0, hq1⟩ := hp; obtain ⟨_, rfl⟩ := LI_ex hq0; obtain ⟨_, rfl⟩ := LI_ex hq1; simp only [ints_LI, bys_LB, blks_LK, lls_LL]; exact (spec_uports _ _ _ _ _ _ _ _ _ _ _ _ _ _ _ _ _ _ _ _ _ _ _ _ _ _ _ _ _ _ _).lift rfl _
  · cases h
theorem spec_uplay (di : Int) (s : ByteArray) (dd dm dl dt dj : Int) (bx : List D) (ck cr : Int) (mp : List Int) (cz : Int) (ra pe : Int) (sg : List D) (ru : Bool) (si : Int) (q ct cd cg cm c n d a p f : Int) (l : List Int) (lo mi : Int) : Spec Tryz.prog 0 187 [.agg [.d (.int .u64 di), .d (.str s), .d (.int .i64 dd), .d (.int .i64 dm), .d (.int .i64 dl), .d (.int .i64 dt), .d (.int .i64 dj), .d (.list bx), .d (.int .i64 ck), .d (.int .i64 cr), .d (.list (LI .i64 mp)), .d (.int .i64 cz), .d (.int .i64 ra), .d (.int .i64 pe), .d (.list sg), .d (.bool ru), .d (.int .i64 si), .d (.int .i64 q), .d (.int .i64 ct), .d (.int .i64 cd), .d (.int .i64 cg), .d (.int .i64 cm), .d (.int .i64 c), .d (.int .i64 n), .d (.int .i64 d), .d (.int .i64 a), .d (.int .i64 p), .d (.int .i64 f), .d (.list (LI .i32 l)), .d (.int .i64 lo), .d (.int .i64 mi)]] [] [] (vB (dd == 1)) [] [] := by
  refine sE (md := fun _ => 0) (L := []) [] 7 tabs_nil Tryz.func187 rfl rfl rfl ?_
  simp (maxSteps := 1000000) only [↓gPre, gPost, gCore, gDef, gSt, gS0, Nat.reduceShiftRight, Nat.reduceMod, ↓reduceIte, reduceCtorEq, Nat.reduceEqDiff, Nat.reduceLT, Nat.reduceLeDiff, Nat.reduceAdd, Nat.reduceMul, Int.reduceLE, Int.reduceLT, Int.reduceNeg, Int.reduceAdd, Int.reduceToNat, gE1, gE2, Tryz.ntmps187, Tryz.results187, gTT]
def E_uplay : List V → Boxes → Toks → Name → Option Ent
  | [.agg [.d (.int .u64 di), .d (.str s), .d (.int .i64 dd), .d (.int .i64 dm), .d (.int .i64 dl), .d (.int .i64 dt), .d (.int .i64 dj), .d (.list bx), .d (.int .i64 ck), .d (.int .i64 cr), .d (.list q_mp), .d (.int .i64 cz), .d (.int .i64 ra), .d (.int .i64 pe), .d (.list sg), .d (.bool ru), .d (.int .i64 si), .d (.int .i64 q), .d (.int .i64 ct), .d (.int .i64 cd), .d (.int .i64 cg), .d (.int .i64 cm), .d (.int .i64 c), .d (.int .i64 n), .d (.int .i64 d), .d (.int .i64 a), .d (.int .i64 p), .d (.int .i64 f), .d (.list q_l), .d (.int .i64 lo), .d (.int .i64 mi)]], [], [], _ => some ⟨q_mp = LI .i64 (ints q_mp) ∧ q_l = LI .i32 (ints q_l), vB (dd == 1), [], []⟩
  | _, _, _, _ => none
def E_uplay_eq := And.intro (@E_uplay.eq_1) (@E_uplay.eq_1)
theorem E_uplay_ok : Snd Tryz.prog 187 E_uplay := by
  intro vs b k n e h hn hp
  unfold E_uplay at h
  split at h
  · cases h; obtain ⟨hq0, hq1⟩ := hp; obtain ⟨_, rfl⟩ := LI_ex hq0; obtain ⟨_, rfl⟩ := LI_ex hq1; simp only [ints_LI, bys_LB, blks_LK, lls_LL]; exact (spec_uplay _ _ _ _ _ _ _ _ _ _ _ _ _ _ _ _ _ _ _ _ _ _ _ _ _ _ _ _ _ _ _).lift rfl _
  · cases h
theorem spec_unom (di : Int) (s : ByteArray) (dd dm dl dt dj : Int) (bx : List D) (ck cr : Int) (mp : List Int) (cz : Int) (ra pe : Int) (sg : List D) (ru : Bool) (si : Int) (q ct cd cg cm c n d a p f : Int) (l : List Int) (lo mi : Int) (hs : dsOK s dd dm dl dt dj) (hv : dvOK bx ck cr mp cz ra pe sg) : Spec Tryz.prog 0 113 [.agg [.d (.int .u64 di), .d (.str s), .d (.int .i64 dd), .d (.int .i64 dm), .d (.int .i64 dl), .d (.int .i64 dt), .d (.int .i64 dj), .d (.list bx), .d (.int .i64 ck), .d (.int .i64 cr), .d (.list (LI .i64 mp)), .d (.int .i64 cz), .d (.int .i64 ra), .d (.int .i64 pe), .d (.list sg), .d (.bool ru), .d (.int .i64 si), .d (.int .i64 q), .d (.int .i64 ct), .d (.int .i64 cd), .d (.int .i64 cg), .d (.int .i64 cm), .d (.int .i64 c), .d (.int .i64 n), .d (.int .i64 d), .d (.int .i64 a), .d (.int .i64 p), .d (.int .i64 f), .d (.list (LI .i32 l)), .d (.int .i64 lo), .d (.int .i64 mi)]] [] [] (.agg [.d (.int .i64 1), .d (.int .i64 1)]) [] [] := by
  refine sE (md := fun _ => 0) (L := [(108, E_ratmake)]) [(1, [0, 0, 0, 0, 0, 130095, 0, 0, 0, 0, 0, 98319, 0, 0, 0])] 15 (tabs_cons E_ratmake_ok tabs_nil) Tryz.func113 rfl rfl rfl ?_
  obtain ⟨rfl, hch, rfl, rfl, rfl, rfl, rfl, rfl⟩ := hv
  simp (maxSteps := 1000000) only [↓gPre, gPost, gCore, gDef, gSt, gS0, Nat.reduceShiftRight, Nat.reduceMod, ↓reduceIte, reduceCtorEq, Nat.reduceEqDiff, Nat.reduceLT, Nat.reduceLeDiff, Nat.reduceAdd, Nat.reduceMul, Int.reduceLE, Int.reduceLT, Int.reduceNeg, Int.reduceAdd, Int.reduceToNat, E_ratmake_eq, gE1, gE2, Tryz.ntmps113, Tryz.results113, gTT]
  decide
def E_unom : List V → Boxes → Toks → Name → Option Ent
  | [.agg [.d (.int .u64 di), .d (.str s), .d (.int .i64 dd), .d (.int .i64 dm), .d (.int .i64 dl), .d (.int .i64 dt), .d (.int .i64 dj), .d (.list bx), .d (.int .i64 ck), .d (.int .i64 cr), .d (.list q_mp), .d (.int .i64 cz), .d (.int .i64 ra), .d (.int .i64 pe), .d (.list sg), .d (.bool ru), .d (.int .i64 si), .d (.int .i64 q), .d (.int .i64 ct), .d (.int .i64 cd), .d (.int .i64 cg), .d (.int .i64 cm), .d (.int .i64 c), .d (.int .i64 n), .d (.int .i64 d), .d (.int .i64 a), .d (.int .i64 p), .d (.int .i64 f), .d (.list q_l), .d (.int .i64 lo), .d (.int .i64 mi)]], [], [], _ => some ⟨dsOK s dd dm dl dt dj ∧ dvOK bx ck cr (ints q_mp) cz ra pe sg ∧ q_mp = LI .i64 (ints q_mp) ∧ q_l = LI .i32 (ints q_l), .agg [.d (.int .i64 1), .d (.int .i64 1)], [], []⟩
  | _, _, _, _ => none
def E_unom_eq := And.intro (@E_unom.eq_1) (@E_unom.eq_1)
theorem E_unom_ok : Snd Tryz.prog 113 E_unom := by
  intro vs b k n e h hn hp
  unfold E_unom at h
  split at h
  · cases h; obtain ⟨hp0, hp1, hq0, hq1⟩ := hp; obtain ⟨_, rfl⟩ := LI_ex hq0; obtain ⟨_, rfl⟩ := LI_ex hq1; simp only [ints_LI, bys_LB, blks_LK, lls_LL] at hp0 hp1 ⊢; exact (spec_unom _ _ _ _ _ _ _ _ _ _ _ _ _ _ _ _ _ _ _ _ _ _ _ _ _ _ _ _ _ _ _ hp0 hp1).lift rfl _
  · cases h
theorem spec_ubase (di : Int) (s : ByteArray) (dd dm dl dt dj : Int) (bx : List D) (ck cr : Int) (mp : List Int) (cz : Int) (ra pe : Int) (sg : List D) (ru : Bool) (si : Int) (q ct cd cg cm c n d a p f : Int) (l : List Int) (lo mi : Int) (hs : dsOK s dd dm dl dt dj) (hv : dvOK bx ck cr mp cz ra pe sg) : Spec Tryz.prog 0 120 [.agg [.d (.int .u64 di), .d (.str s), .d (.int .i64 dd), .d (.int .i64 dm), .d (.int .i64 dl), .d (.int .i64 dt), .d (.int .i64 dj), .d (.list bx), .d (.int .i64 ck), .d (.int .i64 cr), .d (.list (LI .i64 mp)), .d (.int .i64 cz), .d (.int .i64 ra), .d (.int .i64 pe), .d (.list sg), .d (.bool ru), .d (.int .i64 si), .d (.int .i64 q), .d (.int .i64 ct), .d (.int .i64 cd), .d (.int .i64 cg), .d (.int .i64 cm), .d (.int .i64 c), .d (.int .i64 n), .d (.int .i64 d), .d (.int .i64 a), .d (.int .i64 p), .d (.int .i64 f), .d (.list (LI .i32 l)), .d (.int .i64 lo), .d (.int .i64 mi)]] [] [] (.agg [.d (.int .i64 1), .d (.int .i64 1)]) [] [] := by
  refine sE (md := fun _ => 0) (L := [(187, E_uplay), (113, E_unom), (195, E_ratinv)]) [] 143 (tabs_cons E_uplay_ok (tabs_cons E_unom_ok (tabs_cons E_ratinv_ok tabs_nil))) Tryz.func120 rfl rfl rfl ?_
  simp (maxSteps := 1000000) only [↓gPre, gPost, gCore, gDef, gSt, gS0, Nat.reduceShiftRight, Nat.reduceMod, ↓reduceIte, reduceCtorEq, Nat.reduceEqDiff, Nat.reduceLT, Nat.reduceLeDiff, Nat.reduceAdd, Nat.reduceMul, Int.reduceLE, Int.reduceLT, Int.reduceNeg, Int.reduceAdd, Int.reduceToNat, E_uplay_eq, E_unom_eq, E_ratinv_eq, gE1, gE2, Tryz.ntmps120, Tryz.results120, gTT]
  exact ⟨fun _ => ⟨hs, hv⟩, fun _ => ⟨hs, hv⟩⟩
def E_ubase : List V → Boxes → Toks → Name → Option Ent
  | [.agg [.d (.int .u64 di), .d (.str s), .d (.int .i64 dd), .d (.int .i64 dm), .d (.int .i64 dl), .d (.int .i64 dt), .d (.int .i64 dj), .d (.list bx), .d (.int .i64 ck), .d (.int .i64 cr), .d (.list q_mp), .d (.int .i64 cz), .d (.int .i64 ra), .d (.int .i64 pe), .d (.list sg), .d (.bool ru), .d (.int .i64 si), .d (.int .i64 q), .d (.int .i64 ct), .d (.int .i64 cd), .d (.int .i64 cg), .d (.int .i64 cm), .d (.int .i64 c), .d (.int .i64 n), .d (.int .i64 d), .d (.int .i64 a), .d (.int .i64 p), .d (.int .i64 f), .d (.list q_l), .d (.int .i64 lo), .d (.int .i64 mi)]], [], [], _ => some ⟨dsOK s dd dm dl dt dj ∧ dvOK bx ck cr (ints q_mp) cz ra pe sg ∧ q_mp = LI .i64 (ints q_mp) ∧ q_l = LI .i32 (ints q_l), .agg [.d (.int .i64 1), .d (.int .i64 1)], [], []⟩
  | _, _, _, _ => none
def E_ubase_eq := And.intro (@E_ubase.eq_1) (@E_ubase.eq_1)
theorem E_ubase_ok : Snd Tryz.prog 120 E_ubase := by
  intro vs b k n e h hn hp
  unfold E_ubase at h
  split at h
  · cases h; obtain ⟨hp0, hp1, hq0, hq1⟩ := hp; obtain ⟨_, rfl⟩ := LI_ex hq0; obtain ⟨_, rfl⟩ := LI_ex hq1; simp only [ints_LI, bys_LB, blks_LK, lls_LL] at hp0 hp1 ⊢; exact (spec_ubase _ _ _ _ _ _ _ _ _ _ _ _ _ _ _ _ _ _ _ _ _ _ _ _ _ _ _ _ _ _ _ hp0 hp1).lift rfl _
  · cases h
theorem spec_uins (di : Int) (s : ByteArray) (dd dm dl dt dj : Int) (bx : List D) (ck cr : Int) (mp : List Int) (cz : Int) (ra pe : Int) (sg : List D) (ru : Bool) (si : Int) (q ct cd cg cm c n d a p f : Int) (l : List Int) (lo mi : Int) (hs : dsOK s dd dm dl dt dj) (hv : dvOK bx ck cr mp cz ra pe sg) : Spec Tryz.prog 0 114 [.agg [.d (.int .u64 di), .d (.str s), .d (.int .i64 dd), .d (.int .i64 dm), .d (.int .i64 dl), .d (.int .i64 dt), .d (.int .i64 dj), .d (.list bx), .d (.int .i64 ck), .d (.int .i64 cr), .d (.list (LI .i64 mp)), .d (.int .i64 cz), .d (.int .i64 ra), .d (.int .i64 pe), .d (.list sg), .d (.bool ru), .d (.int .i64 si), .d (.int .i64 q), .d (.int .i64 ct), .d (.int .i64 cd), .d (.int .i64 cg), .d (.int .i64 cm), .d (.int .i64 c), .d (.int .i64 n), .d (.int .i64 d), .d (.int .i64 a), .d (.int .i64 p), .d (.int .i64 f), .d (.list (LI .i32 l)), .d (.int .i64 lo), .d (.int .i64 mi)]] [] [] (.agg [.d (.int .i64 16), .d (.int .i64 1)]) [] [] := by
  refine sE (md := fun _ => 0) (L := [(187, E_uplay), (108, E_ratmake)]) [(3, [0, 0, 0, 0, 0, 134105167, 0, 0, 0, 0, 0, 126879823, 0, 0, 0, 0, 0, 67108943, 0])] 79 (tabs_cons E_uplay_ok (tabs_cons E_ratmake_ok tabs_nil)) Tryz.func114 rfl rfl rfl ?_
  obtain ⟨rfl, hch, rfl, rfl, rfl, rfl, rfl, rfl⟩ := hv
  simp (maxSteps := 1000000) only [↓gPre, gPost, gCore, gDef, gSt, gS0, Nat.reduceShiftRight, Nat.reduceMod, ↓reduceIte, reduceCtorEq, Nat.reduceEqDiff, Nat.reduceLT, Nat.reduceLeDiff, Nat.reduceAdd, Nat.reduceMul, Int.reduceLE, Int.reduceLT, Int.reduceNeg, Int.reduceAdd, Int.reduceToNat, E_uplay_eq, E_ratmake_eq, gE1, gE2, Tryz.ntmps114, Tryz.results114, gTT]
  exact fun _ => ⟨.inr (by decide), by decide⟩
def E_uins : List V → Boxes → Toks → Name → Option Ent
  | [.agg [.d (.int .u64 di), .d (.str s), .d (.int .i64 dd), .d (.int .i64 dm), .d (.int .i64 dl), .d (.int .i64 dt), .d (.int .i64 dj), .d (.list bx), .d (.int .i64 ck), .d (.int .i64 cr), .d (.list q_mp), .d (.int .i64 cz), .d (.int .i64 ra), .d (.int .i64 pe), .d (.list sg), .d (.bool ru), .d (.int .i64 si), .d (.int .i64 q), .d (.int .i64 ct), .d (.int .i64 cd), .d (.int .i64 cg), .d (.int .i64 cm), .d (.int .i64 c), .d (.int .i64 n), .d (.int .i64 d), .d (.int .i64 a), .d (.int .i64 p), .d (.int .i64 f), .d (.list q_l), .d (.int .i64 lo), .d (.int .i64 mi)]], [], [], _ => some ⟨dsOK s dd dm dl dt dj ∧ dvOK bx ck cr (ints q_mp) cz ra pe sg ∧ q_mp = LI .i64 (ints q_mp) ∧ q_l = LI .i32 (ints q_l), .agg [.d (.int .i64 16), .d (.int .i64 1)], [], []⟩
  | _, _, _, _ => none
def E_uins_eq := And.intro (@E_uins.eq_1) (@E_uins.eq_1)
theorem E_uins_ok : Snd Tryz.prog 114 E_uins := by
  intro vs b k n e h hn hp
  unfold E_uins at h
  split at h
  · cases h; obtain ⟨hp0, hp1, hq0, hq1⟩ := hp; obtain ⟨_, rfl⟩ := LI_ex hq0; obtain ⟨_, rfl⟩ := LI_ex hq1; simp only [ints_LI, bys_LB, blks_LK, lls_LL] at hp0 hp1 ⊢; exact (spec_uins _ _ _ _ _ _ _ _ _ _ _ _ _ _ _ _ _ _ _ _ _ _ _ _ _ _ _ _ _ _ _ hp0 hp1).lift rfl _
  · cases h
theorem spec_ujit (di : Int) (s : ByteArray) (dd dm dl dt dj : Int) (bx : List D) (ck cr : Int) (mp : List Int) (cz : Int) (ra pe : Int) (sg : List D) (ru : Bool) (si : Int) (q ct cd cg cm c n d a p f : Int) (l : List Int) (lo mi : Int) (hs : dsOK s dd dm dl dt dj) (hv : dvOK bx ck cr mp cz ra pe sg) : Spec Tryz.prog 0 117 [.agg [.d (.int .u64 di), .d (.str s), .d (.int .i64 dd), .d (.int .i64 dm), .d (.int .i64 dl), .d (.int .i64 dt), .d (.int .i64 dj), .d (.list bx), .d (.int .i64 ck), .d (.int .i64 cr), .d (.list (LI .i64 mp)), .d (.int .i64 cz), .d (.int .i64 ra), .d (.int .i64 pe), .d (.list sg), .d (.bool ru), .d (.int .i64 si), .d (.int .i64 q), .d (.int .i64 ct), .d (.int .i64 cd), .d (.int .i64 cg), .d (.int .i64 cm), .d (.int .i64 c), .d (.int .i64 n), .d (.int .i64 d), .d (.int .i64 a), .d (.int .i64 p), .d (.int .i64 f), .d (.list (LI .i32 l)), .d (.int .i64 lo), .d (.int .i64 mi)]] [] [] (vI .i64 1) [] [] := by
  refine sE (md := fun _ => 0) (L := [(187, E_uplay), (120, E_ubase), (115, E_ratceil)]) [(3, [0, 0, 0, 0, 0, 8003727, 0, 0, 0, 0, 0, 0])] 143 (tabs_cons E_uplay_ok (tabs_cons E_ubase_ok (tabs_cons E_ratceil_ok tabs_nil))) Tryz.func117 rfl rfl rfl ?_
  simp (maxSteps := 1000000) only [↓gPre, gPost, gCore, gDef, gSt, gS0, Nat.reduceShiftRight, Nat.reduceMod, ↓reduceIte, reduceCtorEq, Nat.reduceEqDiff, Nat.reduceLT, Nat.reduceLeDiff, Nat.reduceAdd, Nat.reduceMul, Int.reduceLE, Int.reduceLT, Int.reduceNeg, Int.reduceAdd, Int.reduceToNat, E_uplay_eq, E_ubase_eq, E_ratceil_eq, gE1, gE2, Tryz.ntmps117, Tryz.results117, gTT]
  have h := hs
  obtain ⟨_, _, _, _, _, h0⟩ := h
  subst h0
  exact ⟨fun _ => by decide, fun _ => ⟨by kernel_rfl, ⟨hs, hv⟩, ⟨by decide, by decide⟩, by decide⟩⟩
def E_ujit : List V → Boxes → Toks → Name → Option Ent
  | [.agg [.d (.int .u64 di), .d (.str s), .d (.int .i64 dd), .d (.int .i64 dm), .d (.int .i64 dl), .d (.int .i64 dt), .d (.int .i64 dj), .d (.list bx), .d (.int .i64 ck), .d (.int .i64 cr), .d (.list q_mp), .d (.int .i64 cz), .d (.int .i64 ra), .d (.int .i64 pe), .d (.list sg), .d (.bool ru), .d (.int .i64 si), .d (.int .i64 q), .d (.int .i64 ct), .d (.int .i64 cd), .d (.int .i64 cg), .d (.int .i64 cm), .d (.int .i64 c), .d (.int .i64 n), .d (.int .i64 d), .d (.int .i64 a), .d (.int .i64 p), .d (.int .i64 f), .d (.list q_l), .d (.int .i64 lo), .d (.int .i64 mi)]], [], [], _ => some ⟨dsOK s dd dm dl dt dj ∧ dvOK bx ck cr (ints q_mp) cz ra pe sg ∧ q_mp = LI .i64 (ints q_mp) ∧ q_l = LI .i32 (ints q_l), vI .i64 1, [], []⟩
  | _, _, _, _ => none
def E_ujit_eq := And.intro (@E_ujit.eq_1) (@E_ujit.eq_1)
theorem E_ujit_ok : Snd Tryz.prog 117 E_ujit := by
  intro vs b k n e h hn hp
  unfold E_ujit at h
  split at h
  · cases h; obtain ⟨hp0, hp1, hq0, hq1⟩ := hp; obtain ⟨_, rfl⟩ := LI_ex hq0; obtain ⟨_, rfl⟩ := LI_ex hq1; simp only [ints_LI, bys_LB, blks_LK, lls_LL] at hp0 hp1 ⊢; exact (spec_ujit _ _ _ _ _ _ _ _ _ _ _ _ _ _ _ _ _ _ _ _ _ _ _ _ _ _ _ _ _ _ _ hp0 hp1).lift rfl _
  · cases h
theorem spec_uset (di : Int) (s : ByteArray) (dd dm dl dt dj : Int) (bx : List D) (ck cr : Int) (mp : List Int) (cz : Int) (ra pe : Int) (sg : List D) (ru : Bool) (si : Int) (q ct cd cg cm c n d a p f : Int) (l : List Int) (lo mi : Int) (hs : dsOK s dd dm dl dt dj) (hv : dvOK bx ck cr mp cz ra pe sg) : Spec Tryz.prog 0 111 [.agg [.d (.int .u64 di), .d (.str s), .d (.int .i64 dd), .d (.int .i64 dm), .d (.int .i64 dl), .d (.int .i64 dt), .d (.int .i64 dj), .d (.list bx), .d (.int .i64 ck), .d (.int .i64 cr), .d (.list (LI .i64 mp)), .d (.int .i64 cz), .d (.int .i64 ra), .d (.int .i64 pe), .d (.list sg), .d (.bool ru), .d (.int .i64 si), .d (.int .i64 q), .d (.int .i64 ct), .d (.int .i64 cd), .d (.int .i64 cg), .d (.int .i64 cm), .d (.int .i64 c), .d (.int .i64 n), .d (.int .i64 d), .d (.int .i64 a), .d (.int .i64 p), .d (.int .i64 f), .d (.list (LI .i32 l)), .d (.int .i64 lo), .d (.int .i64 mi)]] [] [] (vB true) [] [] := by
  refine sE (md := fun _ => 0) (L := []) [(1, [0, 0, 0, 0, 0, 33554311, 0, 0, 0, 0, 0, 33546247, 0, 0, 0, 0, 0, 33030151, 0, 0, 0, 0, 0])] 7 tabs_nil Tryz.func111 rfl rfl rfl ?_
  obtain ⟨rfl, hch, rfl, rfl, rfl, rfl, rfl, rfl⟩ := hv
  simp (maxSteps := 1000000) only [↓gPre, gPost, gCore, gDef, gSt, gS0, Nat.reduceShiftRight, Nat.reduceMod, ↓reduceIte, reduceCtorEq, Nat.reduceEqDiff, Nat.reduceLT, Nat.reduceLeDiff, Nat.reduceAdd, Nat.reduceMul, Int.reduceLE, Int.reduceLT, Int.reduceNeg, Int.reduceAdd, Int.reduceToNat, gE1, gE2, Tryz.ntmps111, Tryz.results111, gTT]
def E_uset : List V → Boxes → Toks → Name → Option Ent
  | [.agg [.d (.int .u64 di), .d (.str s), .d (.int .i64 dd), .d (.int .i64 dm), .d (.int .i64 dl), .d (.int .i64 dt), .d (.int .i64 dj), .d (.list bx), .d (.int .i64 ck), .d (.int .i64 cr), .d (.list q_mp), .d (.int .i64 cz), .d (.int .i64 ra), .d (.int .i64 pe), .d (.list sg), .d (.bool ru), .d (.int .i64 si), .d (.int .i64 q), .d (.int .i64 ct), .d (.int .i64 cd), .d (.int .i64 cg), .d (.int .i64 cm), .d (.int .i64 c), .d (.int .i64 n), .d (.int .i64 d), .d (.int .i64 a), .d (.int .i64 p), .d (.int .i64 f), .d (.list q_l), .d (.int .i64 lo), .d (.int .i64 mi)]], [], [], _ => some ⟨dsOK s dd dm dl dt dj ∧ dvOK bx ck cr (ints q_mp) cz ra pe sg ∧ q_mp = LI .i64 (ints q_mp) ∧ q_l = LI .i32 (ints q_l), vB true, [], []⟩
  | _, _, _, _ => none
def E_uset_eq := And.intro (@E_uset.eq_1) (@E_uset.eq_1)
theorem E_uset_ok : Snd Tryz.prog 111 E_uset := by
  intro vs b k n e h hn hp
  unfold E_uset at h
  split at h
  · cases h; obtain ⟨hp0, hp1, hq0, hq1⟩ := hp; obtain ⟨_, rfl⟩ := LI_ex hq0; obtain ⟨_, rfl⟩ := LI_ex hq1; simp only [ints_LI, bys_LB, blks_LK, lls_LL] at hp0 hp1 ⊢; exact (spec_uset _ _ _ _ _ _ _ _ _ _ _ _ _ _ _ _ _ _ _ _ _ _ _ _ _ _ _ _ _ _ _ hp0 hp1).lift rfl _
  · cases h
theorem spec_uvalid (di : Int) (s : ByteArray) (dd dm dl dt dj : Int) (bx : List D) (ck cr : Int) (mp : List Int) (cz : Int) (ra pe : Int) (sg : List D) (ru : Bool) (si : Int) (q ct cd cg cm c n d a p f : Int) (l : List Int) (lo mi : Int) (hs : dsOK s dd dm dl dt dj) (hv : dvOK bx ck cr mp cz ra pe sg) (hb : brV ⟨q, ⟨ct, cd, cg, cm⟩, ⟨c, ⟨n, d, a, p, f⟩, l⟩, lo, mi⟩ = true) (hl : l.length ≤ 1000000) (hc : c = mp.length ∧ n = 1 ∧ d = 1) (hsi : 0 ≤ si ∧ si ≤ 1099511627776) : Spec Tryz.prog 0 133 [.agg [.d (.int .u64 di), .d (.str s), .d (.int .i64 dd), .d (.int .i64 dm), .d (.int .i64 dl), .d (.int .i64 dt), .d (.int .i64 dj), .d (.list bx), .d (.int .i64 ck), .d (.int .i64 cr), .d (.list (LI .i64 mp)), .d (.int .i64 cz), .d (.int .i64 ra), .d (.int .i64 pe), .d (.list sg), .d (.bool ru), .d (.int .i64 si), .d (.int .i64 q), .d (.int .i64 ct), .d (.int .i64 cd), .d (.int .i64 cg), .d (.int .i64 cm), .d (.int .i64 c), .d (.int .i64 n), .d (.int .i64 d), .d (.int .i64 a), .d (.int .i64 p), .d (.int .i64 f), .d (.list (LI .i32 l)), .d (.int .i64 lo), .d (.int .i64 mi)]] [] [] (vB true) [] [] := by
  refine sE (md := fun _ => 0) (L := [(109, E_dsvalid), (112, E_ofhas), (111, E_uset), (110, E_clkvalid), (54, E_brvalid), (119, E_uports), (120, E_ubase)]) [(1, [0, 0, 0, 0, 0, 73786976294838206343, 0, 0, 0, 0, 0, 73786976294838192263, 0, 0, 0, 0, 0, 73786976294837157895, 0, 0, 0, 0, 0, 73786976294771097607, 0, 0, 0, 0, 0, 73786976290543239175, 0, 0, 0, 0, 0, 73786976019960299527, 0, 0, 0, 0, 0, 73786958702652162055, 0, 0, 0, 0, 0, 73785885579303452679, 0, 0, 0, 0, 0, 73750947497819242503, 0, 0, 0, 0, 0, 71517162082643476487, 0, 0, 0, 0])] 7 (tabs_cons E_dsvalid_ok (tabs_cons E_ofhas_ok (tabs_cons E_uset_ok (tabs_cons E_clkvalid_ok (tabs_cons E_brvalid_ok (tabs_cons E_uports_ok (tabs_cons E_ubase_ok tabs_nil))))))) Tryz.func133 rfl rfl rfl ?_
  simp (maxSteps := 1000000) only [↓gPre, gPost, gCore, gDef, gSt, gS0, Nat.reduceShiftRight, Nat.reduceMod, ↓reduceIte, reduceCtorEq, Nat.reduceEqDiff, Nat.reduceLT, Nat.reduceLeDiff, Nat.reduceAdd, Nat.reduceMul, Int.reduceLE, Int.reduceLT, Int.reduceNeg, Int.reduceAdd, Int.reduceToNat, E_dsvalid_eq, E_ofhas_eq, E_uset_eq, E_clkvalid_eq, E_brvalid_eq, E_uports_eq, E_ubase_eq, gE1, gE2, Tryz.ntmps133, Tryz.results133, gTT]
  have h := hv
  obtain ⟨h1, h2, h3, h4, h5, h6, h7, h8⟩ := h
  refine ⟨by kernel_rfl, ⟨hs, mp, h1, h2⟩, ⟨h1, h2, h3, h4, h5⟩, ⟨hs, hv⟩, h8, fun _ => hl, fun _ => ⟨hs, hv⟩, ?_⟩
  rw [hb, decide_eq_true hsi.1, decide_eq_true hsi.2, hc.1, hc.2.1, hc.2.2]
  simp
def E_uvalid : List V → Boxes → Toks → Name → Option Ent
  | [.agg [.d (.int .u64 di), .d (.str s), .d (.int .i64 dd), .d (.int .i64 dm), .d (.int .i64 dl), .d (.int .i64 dt), .d (.int .i64 dj), .d (.list bx), .d (.int .i64 ck), .d (.int .i64 cr), .d (.list q_mp), .d (.int .i64 cz), .d (.int .i64 ra), .d (.int .i64 pe), .d (.list sg), .d (.bool ru), .d (.int .i64 si), .d (.int .i64 q), .d (.int .i64 ct), .d (.int .i64 cd), .d (.int .i64 cg), .d (.int .i64 cm), .d (.int .i64 c), .d (.int .i64 n), .d (.int .i64 d), .d (.int .i64 a), .d (.int .i64 p), .d (.int .i64 f), .d (.list q_l), .d (.int .i64 lo), .d (.int .i64 mi)]], [], [], _ => some ⟨dsOK s dd dm dl dt dj ∧ dvOK bx ck cr (ints q_mp) cz ra pe sg ∧ brV ⟨q, ⟨ct, cd, cg, cm⟩, ⟨c, ⟨n, d, a, p, f⟩, (ints q_l)⟩, lo, mi⟩ = true ∧ (ints q_l).length ≤ 1000000 ∧ (c = (ints q_mp).length ∧ n = 1 ∧ d = 1) ∧ (0 ≤ si ∧ si ≤ 1099511627776) ∧ q_mp = LI .i64 (ints q_mp) ∧ q_l = LI .i32 (ints q_l), vB true, [], []⟩
  | _, _, _, _ => none
def E_uvalid_eq := And.intro (@E_uvalid.eq_1) (@E_uvalid.eq_1)
theorem E_uvalid_ok : Snd Tryz.prog 133 E_uvalid := by
  intro vs b k n e h hn hp
  unfold E_uvalid at h
  split at h
  · cases h; obtain ⟨hp0, hp1, hp2, hp3, hp4, hp5, hq0, hq1⟩ := hp; obtain ⟨_, rfl⟩ := LI_ex hq0; obtain ⟨_, rfl⟩ := LI_ex hq1; simp only [ints_LI, bys_LB, blks_LK, lls_LL] at hp0 hp1 hp2 hp3 hp4 hp5 ⊢; exact (spec_uvalid _ _ _ _ _ _ _ _ _ _ _ _ _ _ _ _ _ _ _ _ _ _ _ _ _ _ _ _ _ _ _ hp0 hp1 hp2 hp3 hp4 hp5).lift rfl _
  · cases h
theorem spec_dvvalid (di : Int) (s : ByteArray) (dd dm dl dt dj : Int) (bx : List D) (ck cr : Int) (mp : List Int) (cz : Int) (ra pe : Int) (sg : List D) (ru : Bool) (si : Int) (q ct cd cg cm c n d a p f : Int) (l : List Int) (lo mi : Int) (hs : dsOK s dd dm dl dt dj) (hv : dvOK bx ck cr mp cz ra pe sg) (hb : brV ⟨q, ⟨ct, cd, cg, cm⟩, ⟨c, ⟨n, d, a, p, f⟩, l⟩, lo, mi⟩ = true) (hl : l.length ≤ 1000000) (hc : c = mp.length ∧ n = 1 ∧ d = 1) (hsi : 0 ≤ si ∧ si ≤ 1099511627776) : Spec Tryz.prog 0 121 [.agg [.d (.int .u64 di), .d (.str s), .d (.int .i64 dd), .d (.int .i64 dm), .d (.int .i64 dl), .d (.int .i64 dt), .d (.int .i64 dj), .d (.list bx), .d (.int .i64 ck), .d (.int .i64 cr), .d (.list (LI .i64 mp)), .d (.int .i64 cz), .d (.int .i64 ra), .d (.int .i64 pe), .d (.list sg), .d (.bool ru), .d (.int .i64 si), .d (.int .i64 q), .d (.int .i64 ct), .d (.int .i64 cd), .d (.int .i64 cg), .d (.int .i64 cm), .d (.int .i64 c), .d (.int .i64 n), .d (.int .i64 d), .d (.int .i64 a), .d (.int .i64 p), .d (.int .i64 f), .d (.list (LI .i32 l)), .d (.int .i64 lo), .d (.int .i64 mi)]] [] [] (vB true) [] [] := by
  refine sE (md := fun _ => 0) (L := [(133, E_uvalid)]) [] 7 (tabs_cons E_uvalid_ok tabs_nil) Tryz.func121 rfl rfl rfl ?_
  simp (maxSteps := 1000000) only [↓gPre, gPost, gCore, gDef, gSt, gS0, Nat.reduceShiftRight, Nat.reduceMod, ↓reduceIte, reduceCtorEq, Nat.reduceEqDiff, Nat.reduceLT, Nat.reduceLeDiff, Nat.reduceAdd, Nat.reduceMul, Int.reduceLE, Int.reduceLT, Int.reduceNeg, Int.reduceAdd, Int.reduceToNat, E_uvalid_eq, gE1, gE2, Tryz.ntmps121, Tryz.results121, gTT]
  exact ⟨hs, hv, hb, hl, hc, hsi⟩
def E_dvvalid : List V → Boxes → Toks → Name → Option Ent
  | [.agg [.d (.int .u64 di), .d (.str s), .d (.int .i64 dd), .d (.int .i64 dm), .d (.int .i64 dl), .d (.int .i64 dt), .d (.int .i64 dj), .d (.list bx), .d (.int .i64 ck), .d (.int .i64 cr), .d (.list q_mp), .d (.int .i64 cz), .d (.int .i64 ra), .d (.int .i64 pe), .d (.list sg), .d (.bool ru), .d (.int .i64 si), .d (.int .i64 q), .d (.int .i64 ct), .d (.int .i64 cd), .d (.int .i64 cg), .d (.int .i64 cm), .d (.int .i64 c), .d (.int .i64 n), .d (.int .i64 d), .d (.int .i64 a), .d (.int .i64 p), .d (.int .i64 f), .d (.list q_l), .d (.int .i64 lo), .d (.int .i64 mi)]], [], [], _ => some ⟨dsOK s dd dm dl dt dj ∧ dvOK bx ck cr (ints q_mp) cz ra pe sg ∧ brV ⟨q, ⟨ct, cd, cg, cm⟩, ⟨c, ⟨n, d, a, p, f⟩, (ints q_l)⟩, lo, mi⟩ = true ∧ (ints q_l).length ≤ 1000000 ∧ (c = (ints q_mp).length ∧ n = 1 ∧ d = 1) ∧ (0 ≤ si ∧ si ≤ 1099511627776) ∧ q_mp = LI .i64 (ints q_mp) ∧ q_l = LI .i32 (ints q_l), vB true, [], []⟩
  | _, _, _, _ => none
def E_dvvalid_eq := And.intro (@E_dvvalid.eq_1) (@E_dvvalid.eq_1)
theorem E_dvvalid_ok : Snd Tryz.prog 121 E_dvvalid := by
  intro vs b k n e h hn hp
  unfold E_dvvalid at h
  split at h
  · cases h; obtain ⟨hp0, hp1, hp2, hp3, hp4, hp5, hq0, hq1⟩ := hp; obtain ⟨_, rfl⟩ := LI_ex hq0; obtain ⟨_, rfl⟩ := LI_ex hq1; simp only [ints_LI, bys_LB, blks_LK, lls_LL] at hp0 hp1 hp2 hp3 hp4 hp5 ⊢; exact (spec_dvvalid _ _ _ _ _ _ _ _ _ _ _ _ _ _ _ _ _ _ _ _ _ _ _ _ _ _ _ _ _ _ _ hp0 hp1 hp2 hp3 hp4 hp5).lift rfl _
  · cases h
end Go.Vam
