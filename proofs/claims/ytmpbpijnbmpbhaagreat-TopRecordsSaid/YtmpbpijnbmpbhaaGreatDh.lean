/- A part of the proof. Conditions: none. -/
import Derived.Test.YtmpbpijnbmpbhaaGreatDg
set_option linter.unusedVariables false
set_option linter.defProp false
set_option linter.unusedSimpArgs false
set_option maxRecDepth 40000
set_option maxHeartbeats 4000000
namespace Go.Vam
open Go.Proofs
theorem spec_obvalid1 (bk : Int) (q1 : List D) (mm : Lss) (q2 : List D) (hk : bk = 4) (h1 : q1 = spanL) (h2 : q2 = spanL) (hm : mm = [mm.headD []]) (hc : chV (mm.headD []) = true) : Spec Tryz.prog 0 231 [.agg [.d (.int .i64 bk), .d (.list q1), .d (.list (LL .i64 mm)), .d (.list q2)]] [] [] (vB false) [] [] := by
  refine sE (md := fun _ => 0) (L := [(232, E_obfine)]) [] 7 (tabs_cons E_obfine_ok tabs_nil) Tryz.func231 rfl rfl rfl ?_
  simp (maxSteps := 1000000) only [↓gPre, gPost, gCore, gDef, gSt, gS0, Nat.reduceShiftRight, Nat.reduceMod, ↓reduceIte, reduceCtorEq, Nat.reduceEqDiff, Nat.reduceLT, Nat.reduceLeDiff, Nat.reduceAdd, Nat.reduceMul, Int.reduceLE, Int.reduceLT, Int.reduceNeg, Int.reduceAdd, Int.reduceToNat, E_obfine_eq, gE1, gE2, Tryz.ntmps231, Tryz.results231, gTT]
  exact ⟨hk, h1, h2, hm, hc⟩
def E_obvalid1 : List V → Boxes → Toks → Name → Option Ent
  | [.agg [.d (.int .i64 bk), .d (.list q1), .d (.list q_mm), .d (.list q2)]], [], [], _ => some ⟨bk = 4 ∧ q1 = spanL ∧ q2 = spanL ∧ (lls q_mm) = [(lls q_mm).headD []] ∧ chV ((lls q_mm).headD []) = true ∧ q_mm = LL .i64 (lls q_mm), vB false, [], []⟩
  | _, _, _, _ => none
def E_obvalid1_eq := And.intro (@E_obvalid1.eq_1) (@E_obvalid1.eq_1)
theorem E_obvalid1_ok : Snd Tryz.prog 231 E_obvalid1 := by
  intro vs b k n e h hn hp
  unfold E_obvalid1 at h
  split at h
  · cases h; obtain ⟨hp0, hp1, hp2, hp3, hp4, hq0⟩ := hp; obtain ⟨_, rfl⟩ := LL_ex hq0; simp only [ints_LI, bys_LB, blks_LK, lls_LL] at hp0 hp1 hp2 hp3 hp4 ⊢; exact (spec_obvalid1 _ _ _ _ hp0 hp1 hp2 hp3 hp4).lift rfl _
  · cases h
theorem spec_bxidxV (bx : List D) (hx : boxOK bx) : Spec Tryz.prog 0 233 [vL bx, .c (.fn 231 [])] [] [] (vI .i64 (-1)) [] [] := by
  refine sE (md := fun _ => 0) (L := [(231, E_obvalid1)]) [] 66483 (tabs_cons E_obvalid1_ok tabs_nil) Tryz.func233 rfl rfl rfl ?_
  obtain ⟨m, rfl, hc⟩ := hx
  unfold boxL boxD
  simp (maxSteps := 1000000) only [↓gPre, gPost, gCore, gDef, gSt, gS0, Nat.reduceShiftRight, Nat.reduceMod, ↓reduceIte, reduceCtorEq, Nat.reduceEqDiff, Nat.reduceLT, Nat.reduceLeDiff, Nat.reduceAdd, Nat.reduceMul, Int.reduceLE, Int.reduceLT, Int.reduceNeg, Int.reduceAdd, Int.reduceToNat, E_obvalid1_eq, gE1, gE2, Int.natCast_zero, Int.natCast_one, Int.cast_ofNat_Int, Int.reduceSub, Tryz.ntmps233, Tryz.results233, gTT]
  refine ELoop_keep (fun g : Nat => ⟨[(8, vI .i64 (g : Nat))], [], []⟩) (fun g => g ≤ 1) (fun g => 1 - g) (· + 1) 0 (by decide) ?_ ?_
  · simp (maxSteps := 1000000) only [↓gPre, gPost, gCore, gDef, gSt, gS0, Nat.reduceShiftRight, Nat.reduceMod, ↓reduceIte, reduceCtorEq, Nat.reduceEqDiff, Nat.reduceLT, Nat.reduceLeDiff, Nat.reduceAdd, Nat.reduceMul, Int.reduceLE, Int.reduceLT, Int.reduceNeg, Int.reduceAdd, Int.reduceToNat, E_obvalid1_eq, gE1, gE2, Int.natCast_zero, Int.natCast_one, Int.cast_ofNat_Int, Int.reduceSub, Tryz.ntmps233, Tryz.results233, gTT]
    all_goals rfl
  intro g hg
  rcases (by omega : g = 0 ∨ g = 1) with rfl | rfl
  · simp (maxSteps := 1000000) only [↓gPre, gPost, gCore, gDef, gSt, gS0, Nat.reduceShiftRight, Nat.reduceMod, ↓reduceIte, reduceCtorEq, Nat.reduceEqDiff, Nat.reduceLT, Nat.reduceLeDiff, Nat.reduceAdd, Nat.reduceMul, Int.reduceLE, Int.reduceLT, Int.reduceNeg, Int.reduceAdd, Int.reduceToNat, E_obvalid1_eq, gE1, gE2, Int.natCast_zero, Int.natCast_one, Int.cast_ofNat_Int, Int.reduceSub, Tryz.ntmps233, Tryz.results233, gTT]
    exact ⟨⟨rfl, hc⟩, rfl, by decide⟩
  · simp (maxSteps := 1000000) only [↓gPre, gPost, gCore, gDef, gSt, gS0, Nat.reduceShiftRight, Nat.reduceMod, ↓reduceIte, reduceCtorEq, Nat.reduceEqDiff, Nat.reduceLT, Nat.reduceLeDiff, Nat.reduceAdd, Nat.reduceMul, Int.reduceLE, Int.reduceLT, Int.reduceNeg, Int.reduceAdd, Int.reduceToNat, E_obvalid1_eq, gE1, gE2, Int.natCast_zero, Int.natCast_one, Int.cast_ofNat_Int, Int.reduceSub, Tryz.ntmps233, Tryz.results233, gTT]
    all_goals skip
def E_bxidxV : List V → Boxes → Toks → Name → Option Ent
  | [.c (.d (.list bx)), .c (.fn 231 [])], [], [], _ => some ⟨boxOK bx, vI .i64 (-1), [], []⟩
  | _, _, _, _ => none
def E_bxidxV_eq := And.intro (@E_bxidxV.eq_1) (@E_bxidxV.eq_1)
theorem E_bxidxV_ok : Snd Tryz.prog 233 E_bxidxV := by
  intro vs b k n e h hn hp
  unfold E_bxidxV at h
  split at h
  · cases h; have hp0 := hp; exact (spec_bxidxV _ hp0).lift rfl _
  · cases h
theorem spec_bxcontV (bx : List D) (hx : boxOK bx) : Spec Tryz.prog 0 181 [vL bx, .c (.fn 231 [])] [] [] (vB false) [] [] := by
  refine sE (md := fun _ => 0) (L := [(233, E_bxidxV)]) [] 19 (tabs_cons E_bxidxV_ok tabs_nil) Tryz.func181 rfl rfl rfl ?_
  simp (maxSteps := 1000000) only [↓gPre, gPost, gCore, gDef, gSt, gS0, Nat.reduceShiftRight, Nat.reduceMod, ↓reduceIte, reduceCtorEq, Nat.reduceEqDiff, Nat.reduceLT, Nat.reduceLeDiff, Nat.reduceAdd, Nat.reduceMul, Int.reduceLE, Int.reduceLT, Int.reduceNeg, Int.reduceAdd, Int.reduceToNat, E_bxidxV_eq, gE1, gE2, Tryz.ntmps181, Tryz.results181, gTT]
  exact hx
def E_bxcontV : List V → Boxes → Toks → Name → Option Ent
  | [.c (.d (.list bx)), .c (.fn 231 [])], [], [], _ => some ⟨boxOK bx, vB false, [], []⟩
  | _, _, _, _ => none
def E_bxcontV_eq := And.intro (@E_bxcontV.eq_1) (@E_bxcontV.eq_1)
theorem E_bxcontV_ok : Snd Tryz.prog 181 E_bxcontV := by
  intro vs b k n e h hn hp
  unfold E_bxcontV at h
  split at h
  · cases h; have hp0 := hp; exact (spec_bxcontV _ hp0).lift rfl _
  · cases h
theorem spec_obvalid (bx : List D) (hx : boxOK bx) : Spec Tryz.prog 0 179 [vL bx] [] [] (vB true) [] [] := by
  refine sE (md := fun _ => 0) (L := [(181, E_bxcontV)]) [] 5 (tabs_cons E_bxcontV_ok tabs_nil) Tryz.func179 rfl rfl rfl ?_
  simp (maxSteps := 1000000) only [↓gPre, gPost, gCore, gDef, gSt, gS0, Nat.reduceShiftRight, Nat.reduceMod, ↓reduceIte, reduceCtorEq, Nat.reduceEqDiff, Nat.reduceLT, Nat.reduceLeDiff, Nat.reduceAdd, Nat.reduceMul, Int.reduceLE, Int.reduceLT, Int.reduceNeg, Int.reduceAdd, Int.reduceToNat, E_bxcontV_eq, gE1, gE2, Tryz.ntmps179, Tryz.results179, gTT]
  obtain ⟨m, rfl, hc⟩ := hx
  exact ⟨fun _ => ⟨m, rfl, hc⟩, rfl⟩
def E_obvalid : List V → Boxes → Toks → Name → Option Ent
  | [.c (.d (.list bx))], [], [], _ => some ⟨boxOK bx, vB true, [], []⟩
  | _, _, _, _ => none
def E_obvalid_eq := And.intro (@E_obvalid.eq_1) (@E_obvalid.eq_1)
theorem E_obvalid_ok : Snd Tryz.prog 179 E_obvalid := by
  intro vs b k n e h hn hp
  unfold E_obvalid at h
  split at h
  · cases h; have hp0 := hp; exact (spec_obvalid _ hp0).lift rfl _
  · cases h
theorem spec_oboxes (bx : List D) (hx : boxOK bx) : Spec Tryz.prog 0 182 [vL bx] [] [] (vL bx) [] [] := by
  refine sE (md := fun _ => 0) (L := [(179, E_obvalid)]) [] 37 (tabs_cons E_obvalid_ok tabs_nil) Tryz.func182 rfl rfl rfl ?_
  simp (maxSteps := 1000000) only [↓gPre, gPost, gCore, gDef, gSt, gS0, Nat.reduceShiftRight, Nat.reduceMod, ↓reduceIte, reduceCtorEq, Nat.reduceEqDiff, Nat.reduceLT, Nat.reduceLeDiff, Nat.reduceAdd, Nat.reduceMul, Int.reduceLE, Int.reduceLT, Int.reduceNeg, Int.reduceAdd, Int.reduceToNat, E_obvalid_eq, gE1, gE2, Tryz.ntmps182, Tryz.results182, gTT]
  exact hx
def E_oboxes : List V → Boxes → Toks → Name → Option Ent
  | [.c (.d (.list bx))], [], [], _ => some ⟨boxOK bx, vL bx, [], []⟩
  | _, _, _, _ => none
def E_oboxes_eq := And.intro (@E_oboxes.eq_1) (@E_oboxes.eq_1)
theorem E_oboxes_ok : Snd Tryz.prog 182 E_oboxes := by
  intro vs b k n e h hn hp
  unfold E_oboxes at h
  split at h
  · cases h; have hp0 := hp; exact (spec_oboxes _ hp0).lift rfl _
  · cases h
theorem spec_okind (bk : Int) (q1 : List D) (mm : Lss) (q2 : List D) (x : Int) (hk : bk = 4) (hx : x = 2) : Spec Tryz.prog 0 184 [.agg [.d (.int .i64 bk), .d (.list q1), .d (.list (LL .i64 mm)), .d (.list q2)], vI .i64 x] [] [] (vB true) [] [] := by
  refine sE (md := fun _ => 0) (L := []) [(1, [0, 0, 0, 0, 0, 523287, 0, 0, 0, 0, 0, 460823, 0, 0, 0])] 23 tabs_nil Tryz.func184 rfl rfl rfl ?_
  subst hk hx
  simp (maxSteps := 1000000) only [↓gPre, gPost, gCore, gDef, gSt, gS0, Nat.reduceShiftRight, Nat.reduceMod, ↓reduceIte, reduceCtorEq, Nat.reduceEqDiff, Nat.reduceLT, Nat.reduceLeDiff, Nat.reduceAdd, Nat.reduceMul, Int.reduceLE, Int.reduceLT, Int.reduceNeg, Int.reduceAdd, Int.reduceToNat, gE1, gE2, Tryz.ntmps184, Tryz.results184, gTT]
  decide +kernel
def E_okind : List V → Boxes → Toks → Name → Option Ent
  | [.agg [.d (.int .i64 bk), .d (.list q1), .d (.list q_mm), .d (.list q2)], .c (.d (.int .i64 x))], [], [], _ => some ⟨bk = 4 ∧ x = 2 ∧ q_mm = LL .i64 (lls q_mm), vB true, [], []⟩
  | _, _, _, _ => none
def E_okind_eq := And.intro (@E_okind.eq_1) (@E_okind.eq_1)
theorem E_okind_ok : Snd Tryz.prog 184 E_okind := by
  intro vs b k n e h hn hp
  unfold E_okind at h
  split at h
  · cases h; obtain ⟨hp0, hp1, hq0⟩ := hp; obtain ⟨_, rfl⟩ := LL_ex hq0; simp only [ints_LI, bys_LB, blks_LK, lls_LL] at hp0 hp1 ⊢; exact (spec_okind _ _ _ _ _ hp0 hp1).lift rfl _
  · cases h
theorem spec_ohs1 (bk : Int) (q1 : List D) (mm : Lss) (q2 : List D) (ck cr : Int) (mp : List Int) (cz : Int) (hk : bk = 4) (h1 : q1 = spanL) (h2 : q2 = spanL) (hck : ck = 2) (hcr : cr = 48000) (hcz : cz = 48000) (hmp : mm = [mp]) (hl : mp.length ≤ 1000000) : Spec Tryz.prog 0 183 [.agg [.d (.int .i64 bk), .d (.list q1), .d (.list (LL .i64 mm)), .d (.list q2)], .c (.lp ⟨0, 0⟩ 0)] [(⟨0, 0⟩, [.d (.int .i64 ck), .d (.int .i64 cr), .d (.list (LI .i64 mp)), .d (.int .i64 cz)])] [] (vB true) [(⟨0, 0⟩, [.d (.int .i64 ck), .d (.int .i64 cr), .d (.list (LI .i64 mp)), .d (.int .i64 cz)])] [] := by
  refine spec_of_E (X := ⟨Tryz.prog, tt, Tryz.f183.ntmps, 1, fun _ => 0, (tab [(184, E_okind), (185, E_ishas), (186, E_ohas)])⟩) (M := [(1, [0, 0, 0, 0, 0, 4294966799, 0, 0, 0, 0, 0, 4294935055, 0, 0, 0, 0, 0, 4293525519, 0, 0, 0, 0, 0, 4194304015, 0, 0, 0, 0, 0])]) (m := 15) rfl rfl ⟨tt_ok, tab_ok (tabs_cons E_okind_ok (tabs_cons E_ishas_ok (tabs_cons E_ohas_ok tabs_nil))) _ rfl rfl⟩ tt_mixed Tryz.func183 rfl (by decide) (by show (2 : Nat) ≤ _; exact Nat.le_of_ble_eq_true rfl) ⟨by simp [V.has, C.has, cvtC_eq], by simp [C.has], by simp⟩ ?_
  simp (maxSteps := 1000000) only [↓gPre, gPost, gCore, gDef, gSt, gS0, Nat.reduceShiftRight, Nat.reduceMod, ↓reduceIte, reduceCtorEq, Nat.reduceEqDiff, Nat.reduceLT, Nat.reduceLeDiff, Nat.reduceAdd, Nat.reduceMul, Int.reduceLE, Int.reduceLT, Int.reduceNeg, Int.reduceAdd, Int.reduceToNat, E_okind_eq, E_ishas_eq, E_ohas_eq, gE1, gE2, Tryz.ntmps183, Tryz.results183, gTT]
  exact ⟨⟨hk, hck⟩, ⟨h1, hcr⟩, ⟨.inr hmp, hl⟩, fun _ => ⟨h2, hcz⟩, by rw [hmp]; rfl⟩
def E_ohs1 : List V → Boxes → Toks → Name → Option Ent
  | [.agg [.d (.int .i64 bk), .d (.list q1), .d (.list q_mm), .d (.list q2)], .c (.lp n0 0)], [(m0, [.d (.int .i64 ck), .d (.int .i64 cr), .d (.list q_mp), .d (.int .i64 cz)])], [], _ => some ⟨bk = 4 ∧ q1 = spanL ∧ q2 = spanL ∧ ck = 2 ∧ cr = 48000 ∧ cz = 48000 ∧ (lls q_mm) = [(ints q_mp)] ∧ (ints q_mp).length ≤ 1000000 ∧ n0.lv ≤ 1 ∧ m0 = n0 ∧ q_mm = LL .i64 (lls q_mm) ∧ q_mp = LI .i64 (ints q_mp), vB true, [(n0, [.d (.int .i64 ck), .d (.int .i64 cr), .d (.list (LI .i64 (ints q_mp))), .d (.int .i64 cz)])], []⟩
  | _, _, _, _ => none
def E_ohs1_eq := And.intro (@E_ohs1.eq_1) (@E_ohs1.eq_1)
theorem E_ohs1_ok : Snd Tryz.prog 183 E_ohs1 := by
  intro vs b k n e h hn hp
  unfold E_ohs1 at h
  split at h
  · cases h; obtain ⟨hp0, hp1, hp2, hp3, hp4, hp5, hp6, hp7, hl0, rfl, hq0, hq1⟩ := hp; obtain ⟨_, rfl⟩ := LL_ex hq0; obtain ⟨_, rfl⟩ := LI_ex hq1; simp only [ints_LI, bys_LB, blks_LK, lls_LL] at hp0 hp1 hp2 hp3 hp4 hp5 hp6 hp7 ⊢; exact Spec.ren1 (spec_ohs1 _ _ _ _ _ _ _ _ hp0 hp1 hp2 hp3 hp4 hp5 hp6 hp7) 0 (by simp [supOK, V.names, C.names, namesB, namesK, cvtC_eq]) hl0 
  · cases h
theorem spec_bxidxH (bx : List D) (ck cr : Int) (mp : List Int) (cz : Int) (hx : bx = boxL mp) (hl : mp.length ≤ 1000000) (hck : ck = 2) (hcr : cr = 48000) (hcz : cz = 48000) : Spec Tryz.prog 0 233 [vL bx, .c (.fn 183 [(⟨0, 0⟩, 0)])] [(⟨0, 0⟩, [.d (.int .i64 ck), .d (.int .i64 cr), .d (.list (LI .i64 mp)), .d (.int .i64 cz)])] [] (vI .i64 0) [(⟨0, 0⟩, [.d (.int .i64 ck), .d (.int .i64 cr), .d (.list (LI .i64 mp)), .d (.int .i64 cz)])] [] := by
  refine spec_of_E (X := ⟨Tryz.prog, tt, Tryz.f233.ntmps, 1, fun _ => 0, (tab [(183, E_ohs1)])⟩) (M := []) (m := 66483) rfl rfl ⟨tt_ok, tab_ok (tabs_cons E_ohs1_ok tabs_nil) _ rfl rfl⟩ tt_mixed Tryz.func233 rfl (by decide) (by show (2 : Nat) ≤ _; exact Nat.le_of_ble_eq_true rfl) ⟨by simp [V.has, C.has, cvtC_eq], by simp [C.has], by simp⟩ ?_
  subst hx
  unfold boxL boxD
  simp (maxSteps := 1000000) only [↓gPre, gPost, gCore, gDef, gSt, gS0, Nat.reduceShiftRight, Nat.reduceMod, ↓reduceIte, reduceCtorEq, Nat.reduceEqDiff, Nat.reduceLT, Nat.reduceLeDiff, Nat.reduceAdd, Nat.reduceMul, Int.reduceLE, Int.reduceLT, Int.reduceNeg, Int.reduceAdd, Int.reduceToNat, E_ohs1_eq, gE1, gE2, Int.natCast_zero, Int.natCast_one, Int.cast_ofNat_Int, Int.reduceSub, Tryz.ntmps233, Tryz.results233, gTT]
  refine ELoop_keep (fun g : Nat => ⟨[(8, vI .i64 (g : Nat))], [], []⟩) (fun g => g ≤ 0) (fun g => 1 - g) (· + 1) 0 (by decide) ?_ ?_
  · simp (maxSteps := 1000000) only [↓gPre, gPost, gCore, gDef, gSt, gS0, Nat.reduceShiftRight, Nat.reduceMod, ↓reduceIte, reduceCtorEq, Nat.reduceEqDiff, Nat.reduceLT, Nat.reduceLeDiff, Nat.reduceAdd, Nat.reduceMul, Int.reduceLE, Int.reduceLT, Int.reduceNeg, Int.reduceAdd, Int.reduceToNat, E_ohs1_eq, gE1, gE2, Int.natCast_zero, Int.natCast_one, Int.cast_ofNat_Int, Int.reduceSub, Tryz.ntmps233, Tryz.results233, gTT]
    all_goals rfl
  intro g hg
  obtain rfl : g = 0 := by omega
  simp (maxSteps := 1000000) only [↓gPre, gPost, gCore, gDef, gSt, gS0, Nat.reduceShiftRight, Nat.reduceMod, ↓reduceIte, reduceCtorEq, Nat.reduceEqDiff, Nat.reduceLT, Nat.reduceLeDiff, Nat.reduceAdd, Nat.reduceMul, Int.reduceLE, Int.reduceLT, Int.reduceNeg, Int.reduceAdd, Int.reduceToNat, E_ohs1_eq, gE1, gE2, Int.natCast_zero, Int.natCast_one, Int.cast_ofNat_Int, Int.reduceSub, Tryz.ntmps233, Tryz.results233, gTT]
  exact ⟨hck, hcr, hcz, hl⟩
def E_bxidxH : List V → Boxes → Toks → Name → Option Ent
  | [.c (.d (.list bx)), .c (.fn 183 [(n0, 0)])], [(m0, [.d (.int .i64 ck), .d (.int .i64 cr), .d (.list q_mp), .d (.int .i64 cz)])], [], _ => some ⟨bx = boxL (ints q_mp) ∧ (ints q_mp).length ≤ 1000000 ∧ ck = 2 ∧ cr = 48000 ∧ cz = 48000 ∧ n0.lv ≤ 1 ∧ m0 = n0 ∧ q_mp = LI .i64 (ints q_mp), vI .i64 0, [(n0, [.d (.int .i64 ck), .d (.int .i64 cr), .d (.list (LI .i64 (ints q_mp))), .d (.int .i64 cz)])], []⟩
  | _, _, _, _ => none
def E_bxidxH_eq := And.intro (@E_bxidxH.eq_1) (@E_bxidxH.eq_1)
theorem E_bxidxH_ok : Snd Tryz.prog 233 E_bxidxH := by
  intro vs b k n e h hn hp
  unfold E_bxidxH at h
  split at h
  · cases h; obtain ⟨hp0, hp1, hp2, hp3, hp4, hl0, rfl, hq0⟩ := hp; obtain ⟨_, rfl⟩ := LI_ex hq0; simp only [ints_LI, bys_LB, blks_LK, lls_LL] at hp0 hp1 hp2 hp3 hp4 ⊢; exact Spec.ren1 (spec_bxidxH _ _ _ _ _ hp0 hp1 hp2 hp3 hp4) 0 (by simp [supOK, V.names, C.names, namesB, namesK, cvtC_eq]) hl0 
  · cases h
theorem spec_bxcontH (bx : List D) (ck cr : Int) (mp : List Int) (cz : Int) (hx : bx = boxL mp) (hl : mp.length ≤ 1000000) (hck : ck = 2) (hcr : cr = 48000) (hcz : cz = 48000) : Spec Tryz.prog 0 181 [vL bx, .c (.fn 183 [(⟨0, 0⟩, 0)])] [(⟨0, 0⟩, [.d (.int .i64 ck), .d (.int .i64 cr), .d (.list (LI .i64 mp)), .d (.int .i64 cz)])] [] (vB true) [(⟨0, 0⟩, [.d (.int .i64 ck), .d (.int .i64 cr), .d (.list (LI .i64 mp)), .d (.int .i64 cz)])] [] := by
  refine spec_of_E (X := ⟨Tryz.prog, tt, Tryz.f181.ntmps, 1, fun _ => 0, (tab [(233, E_bxidxH)])⟩) (M := []) (m := 19) rfl rfl ⟨tt_ok, tab_ok (tabs_cons E_bxidxH_ok tabs_nil) _ rfl rfl⟩ tt_mixed Tryz.func181 rfl (by decide) (by show (2 : Nat) ≤ _; exact Nat.le_of_ble_eq_true rfl) ⟨by simp [V.has, C.has, cvtC_eq], by simp [C.has], by simp⟩ ?_
  simp (maxSteps := 1000000) only [↓gPre, gPost, gCore, gDef, gSt, gS0, Nat.reduceShiftRight, Nat.reduceMod, ↓reduceIte, reduceCtorEq, Nat.reduceEqDiff, Nat.reduceLT, Nat.reduceLeDiff, Nat.reduceAdd, Nat.reduceMul, Int.reduceLE, Int.reduceLT, Int.reduceNeg, Int.reduceAdd, Int.reduceToNat, E_bxidxH_eq, gE1, gE2, Tryz.ntmps181, Tryz.results181, gTT]
  exact ⟨hx, hl, hck, hcr, hcz⟩
def E_bxcontH : List V → Boxes → Toks → Name → Option Ent
  | [.c (.d (.list bx)), .c (.fn 183 [(n0, 0)])], [(m0, [.d (.int .i64 ck), .d (.int .i64 cr), .d (.list q_mp), .d (.int .i64 cz)])], [], _ => some ⟨bx = boxL (ints q_mp) ∧ (ints q_mp).length ≤ 1000000 ∧ ck = 2 ∧ cr = 48000 ∧ cz = 48000 ∧ n0.lv ≤ 1 ∧ m0 = n0 ∧ q_mp = LI .i64 (ints q_mp), vB true, [(n0, [.d (.int .i64 ck), .d (.int .i64 cr), .d (.list (LI .i64 (ints q_mp))), .d (.int .i64 cz)])], []⟩
  | _, _, _, _ => none
def E_bxcontH_eq := And.intro (@E_bxcontH.eq_1) (@E_bxcontH.eq_1)
theorem E_bxcontH_ok : Snd Tryz.prog 181 E_bxcontH := by
  intro vs b k n e h hn hp
  unfold E_bxcontH at h
  split at h
  · cases h; obtain ⟨hp0, hp1, hp2, hp3, hp4, hl0, rfl, hq0⟩ := hp; obtain ⟨_, rfl⟩ := LI_ex hq0; simp only [ints_LI, bys_LB, blks_LK, lls_LL] at hp0 hp1 hp2 hp3 hp4 ⊢; exact Spec.ren1 (spec_bxcontH _ _ _ _ _ hp0 hp1 hp2 hp3 hp4) 0 (by simp [supOK, V.names, C.names, namesB, namesK, cvtC_eq]) hl0 
  · cases h
theorem spec_ofhas (bx : List D) (ck cr : Int) (mp : List Int) (cz : Int) (hx : bx = boxL mp) (hc : chV mp = true) (hck : ck = 2) (hcr : cr = 48000) (hcz : cz = 48000) : Spec Tryz.prog 0 112 [vL bx, .agg [.d (.int .i64 ck), .d (.int .i64 cr), .d (.list (LI .i64 mp)), .d (.int .i64 cz)]] [] [] (vB true) [] [] := by
  refine sE (md := fun _ => 0) (L := [(182, E_oboxes), (181, E_bxcontH)]) [] 27 (tabs_cons E_oboxes_ok (tabs_cons E_bxcontH_ok tabs_nil)) Tryz.func112 rfl rfl rfl ?_
  simp (maxSteps := 1000000) only [↓gPre, gPost, gCore, gDef, gSt, gS0, Nat.reduceShiftRight, Nat.reduceMod, ↓reduceIte, reduceCtorEq, Nat.reduceEqDiff, Nat.reduceLT, Nat.reduceLeDiff, Nat.reduceAdd, Nat.reduceMul, Int.reduceLE, Int.reduceLT, Int.reduceNeg, Int.reduceAdd, Int.reduceToNat, E_oboxes_eq, E_bxcontH_eq, gE1, gE2, Tryz.ntmps112, Tryz.results112, gTT]
  refine ⟨⟨mp, hx, hc⟩, hx, ?_, hck, hcr, hcz⟩
  simp only [chV, Bool.and_eq_true, decide_eq_true_eq] at hc
  omega
def E_ofhas : List V → Boxes → Toks → Name → Option Ent
  | [.c (.d (.list bx)), .agg [.d (.int .i64 ck), .d (.int .i64 cr), .d (.list q_mp), .d (.int .i64 cz)]], [], [], _ => some ⟨bx = boxL (ints q_mp) ∧ chV (ints q_mp) = true ∧ ck = 2 ∧ cr = 48000 ∧ cz = 48000 ∧ q_mp = LI .i64 (ints q_mp), vB true, [], []⟩
  | _, _, _, _ => none
def E_ofhas_eq := And.intro (@E_ofhas.eq_1) (@E_ofhas.eq_1)
theorem E_ofhas_ok : Snd Tryz.prog 112 E_ofhas := by
  intro vs b k n e h hn hp
  unfold E_ofhas at h
  split at h
  · cases h; obtain ⟨hp0, hp1, hp2, hp3, hp4, hq0⟩ := hp; obtain ⟨_, rfl⟩ := LI_ex hq0; simp only [ints_LI, bys_LB, blks_LK, lls_LL] at hp0 hp1 hp2 hp3 hp4 ⊢; exact (spec_ofhas _ _ _ _ _ hp0 hp1 hp2 hp3 hp4).lift rfl _
  · cases h
end Go.Vam
