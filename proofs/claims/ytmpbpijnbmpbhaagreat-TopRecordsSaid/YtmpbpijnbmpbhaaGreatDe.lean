/- A part of the proof. Conditions: none. -/
import Derived.Test.YtmpbpijnbmpbhaaGreatDd
set_option linter.unusedVariables false
set_option linter.defProp false
set_option linter.unusedSimpArgs false
set_option maxRecDepth 40000
set_option maxHeartbeats 4000000
namespace Go.Vam
open Go.Proofs
theorem spec_sequal (a b : List Int) (ha : a.length ≤ 1000000000) : Spec Tryz.prog 0 257 [vL (LI .i64 a), vL (LI .i64 b)] [] [] (vB (a == b)) [] [] := by
  refine sE (md := fun _ => 0) (L := []) [] 16806963 tabs_nil Tryz.func257 rfl rfl rfl ?_
  simp (maxSteps := 1000000) only [↓gPre, gPost, gCore, gDef, gSt, gS0, Nat.reduceShiftRight, Nat.reduceMod, ↓reduceIte, reduceCtorEq, Nat.reduceEqDiff, Nat.reduceLT, Nat.reduceLeDiff, Nat.reduceAdd, Nat.reduceMul, Int.reduceLE, Int.reduceLT, Int.reduceNeg, Int.reduceAdd, Int.reduceToNat, gE1, Tryz.ntmps257, Tryz.results257, gTT]
  refine ⟨fun h => ?_, fun h => ?_⟩
  · rw [beq_eq_false_iff_ne]
    intro e
    subst e
    simp at h
  have hlen : a.length = b.length := by
    have : (a.length : Int) = b.length := by simpa using h
    omega
  refine ELoop_keep (fun n => ⟨[(13, vI .i64 (n : Nat))], [], []⟩) (fun n => n ≤ a.length ∧ a.take n = b.take n) (fun n => a.length - n) (· + 1) 0 ⟨Nat.zero_le _, rfl⟩ ?_ ?_
  · simp (maxSteps := 1000000) only [↓gPre, gPost, gCore, gDef, gSt, gS0, Nat.reduceShiftRight, Nat.reduceMod, ↓reduceIte, reduceCtorEq, Nat.reduceEqDiff, Nat.reduceLT, Nat.reduceLeDiff, Nat.reduceAdd, Nat.reduceMul, Int.reduceLE, Int.reduceLT, Int.reduceNeg, Int.reduceAdd, Int.reduceToNat, gE1, Tryz.ntmps257, Tryz.results257, gTT]
    rfl
  rintro n ⟨hn, heq⟩
  simp (maxSteps := 1000000) only [↓gPre, gPost, gCore, gDef, gSt, gS0, Nat.reduceShiftRight, Nat.reduceMod, ↓reduceIte, reduceCtorEq, Nat.reduceEqDiff, Nat.reduceLT, Nat.reduceLeDiff, Nat.reduceAdd, Nat.reduceMul, Int.reduceLE, Int.reduceLT, Int.reduceNeg, Int.reduceAdd, Int.reduceToNat, gE1, Tryz.ntmps257, Tryz.results257, gTT]
  refine ⟨fun h1 => ?_, fun h1 => ?_⟩
  · have hlt : n < a.length := by have := of_decide_eq_true h1; omega
    have hlt2 : n < b.length := by omega
    have g1 : a[n]?.getD 0 = a[n] := by rw [List.getElem?_eq_getElem hlt]; rfl
    have g2 : b[n]?.getD 0 = b[n] := by rw [List.getElem?_eq_getElem hlt2]; rfl
    rw [g1, g2]
    refine ⟨by kernel_rfl, by omega, by omega, fun h2 => ?_, fun h2 => ?_⟩
    · rw [beq_eq_false_iff_ne]
      intro e
      subst e
      simp at h2
    · have e : a[n] = b[n] := by simpa using h2
      refine ⟨(wrapN _ (by omega)).symm, ⟨by omega, ?_⟩, by omega⟩
      rw [List.take_add_one, List.take_add_one, heq, List.getElem?_eq_getElem hlt, List.getElem?_eq_getElem hlt2, e]
  · have hnl : n = a.length := by have := of_decide_eq_false h1; omega
    rw [hnl, List.take_length, hlen, List.take_length] at heq
    rw [heq, beq_self_eq_true]
def E_sequal : List V → Boxes → Toks → Name → Option Ent
  | [.c (.d (.list q_a)), .c (.d (.list q_b))], [], [], _ => some ⟨(ints q_a).length ≤ 1000000000 ∧ q_a = LI .i64 (ints q_a) ∧ q_b = LI .i64 (ints q_b), vB ((ints q_a) == (ints q_b)), [], []⟩
  | _, _, _, _ => none
def E_sequal_eq := And.intro (@E_sequal.eq_1) (@E_sequal.eq_1)
theorem E_sequal_ok : Snd Tryz.prog 257 E_sequal := by
  intro vs b k n e h hn hp
  unfold E_sequal at h
  split at h
  · cases h; obtain ⟨hp0, hq0, hq1⟩ := hp; obtain ⟨_, rfl⟩ := LI_ex hq0; obtain ⟨_, rfl⟩ := LI_ex hq1; simp only [ints_LI, bys_LB, blks_LK, lls_LL] at hp0 ⊢; exact (spec_sequal _ _ hp0).lift rfl _
  · cases h
def mapsL : List (List Int) := [[3], [1, 2], [1, 2, 3, 4, 5, 6], [2, 1], [1, 2, 7, 8], [4], [1, 3]]
def mapV (l : List UInt8) : List Int := mapsL[(dN l 7).toNat]?.getD []
theorem spec_maps  : Spec Tryz.prog 0 43 [] [] [] (vL (LL .i64 mapsL)) [] [] := by
  refine sE (md := fun _ => 0) (L := []) [] 1 tabs_nil Tryz.func43 rfl rfl rfl ?_
  simp (maxSteps := 1000000) only [↓gPre, gPost, gCore, gDef, gSt, gS0, Nat.reduceShiftRight, Nat.reduceMod, ↓reduceIte, reduceCtorEq, Nat.reduceEqDiff, Nat.reduceLT, Nat.reduceLeDiff, Nat.reduceAdd, Nat.reduceMul, Int.reduceLE, Int.reduceLT, Int.reduceNeg, Int.reduceAdd, Int.reduceToNat, gE1, Tryz.ntmps43, Tryz.results43, gTT]
  rfl
def E_maps : List V → Boxes → Toks → Name → Option Ent
  | [], [], [], _ => some ⟨True, vL (LL .i64 mapsL), [], []⟩
  | _, _, _, _ => none
def E_maps_eq := And.intro (@E_maps.eq_1) (@E_maps.eq_1)
theorem E_maps_ok : Snd Tryz.prog 43 E_maps := by
  intro vs b k n e h hn hp
  unfold E_maps at h
  split at h
  · cases h; exact (spec_maps ).lift rfl _
  · cases h
theorem spec_mmap (l : List UInt8) : Spec Tryz.prog 0 8 [.c (.lp ⟨0, 0⟩ 0)] [(⟨0, 0⟩, [.d (.list (LB l))])] [] (vL (LI .i64 (mapV l))) [(⟨0, 0⟩, [.d (.list (LB (dT l 7)))])] [] := by
  refine spec_of_E (X := ⟨Tryz.prog, tt, Tryz.f8.ntmps, 1, fun _ => 0, (tab [(43, E_maps), (21, E_next)])⟩) (M := []) (m := 5) rfl rfl ⟨tt_ok, tab_ok (tabs_cons E_maps_ok (tabs_cons E_next_ok tabs_nil)) _ rfl rfl⟩ tt_mixed Tryz.func8 rfl (by decide) (by show (1 : Nat) ≤ _; exact Nat.le_of_ble_eq_true rfl) ⟨by simp [V.has, C.has, smC_eq], by simp [C.has], by simp⟩ ?_
  simp (maxSteps := 1000000) only [↓gPre, gPost, gCore, gDef, gSt, gS0, Nat.reduceShiftRight, Nat.reduceMod, ↓reduceIte, reduceCtorEq, Nat.reduceEqDiff, Nat.reduceLT, Nat.reduceLeDiff, Nat.reduceAdd, Nat.reduceMul, Int.reduceLE, Int.reduceLT, Int.reduceNeg, Int.reduceAdd, Int.reduceToNat, E_maps_eq, E_next_eq, gE1, Tryz.ntmps8, Tryz.results8, gTT]
  exact ⟨⟨dN_ge _ _, dN_lt _ _ (by decide)⟩, rfl⟩
def E_mmap : List V → Boxes → Toks → Name → Option Ent
  | [.c (.lp n0 0)], [(m0, [.d (.list q_l)])], [], _ => some ⟨n0.lv ≤ 1 ∧ m0 = n0 ∧ q_l = LB (bys q_l), vL (LI .i64 (mapV (bys q_l))), [(n0, [.d (.list (LB (dT (bys q_l) 7)))])], []⟩
  | _, _, _, _ => none
def E_mmap_eq := And.intro (@E_mmap.eq_1) (@E_mmap.eq_1)
theorem E_mmap_ok : Snd Tryz.prog 8 E_mmap := by
  intro vs b k n e h hn hp
  unfold E_mmap at h
  split at h
  · cases h; obtain ⟨hl0, rfl, hq0⟩ := hp; obtain ⟨_, rfl⟩ := LB_ex hq0; simp only [ints_LI, bys_LB, blks_LK, lls_LL]; exact Spec.ren1 (spec_mmap _) 0 (by simp [supOK, V.names, C.names, namesB, namesK, smC_eq]) hl0 
  · cases h
theorem spec_rmake (n d : Int) (hn : n ≤ 1000000000000) (hd : d ≤ 1000000000000) : Spec Tryz.prog 0 108 [vI .i64 n, vI .i64 d] [] [] (.tup [.agg [.int .i64 (mqN n d), .int .i64 (mqD n d)], .int .i64 (mqE n d)]) [] [] := by
  refine spec_of_E (X := ⟨Tryz.prog, tt, Tryz.f108.ntmps, 1, fun _ => 0, (tab [(177, E_gcd)])⟩) (M := []) (m := 268439667) rfl rfl ⟨tt_ok, tab_ok (tabs_cons E_gcd_ok tabs_nil) _ rfl rfl⟩ tt_mixed Tryz.func108 rfl (by decide) (by show (2 : Nat) ≤ _; exact Nat.le_of_ble_eq_true rfl) ⟨by simp [V.has, C.has, smC_eq], by simp [C.has], by simp⟩ ?_
  simp (maxSteps := 1000000) only [↓gPre, gPost, gCore, gDef, gSt, gS0, Nat.reduceShiftRight, Nat.reduceMod, ↓reduceIte, reduceCtorEq, Nat.reduceEqDiff, Nat.reduceLT, Nat.reduceLeDiff, Nat.reduceAdd, Nat.reduceMul, Int.reduceLE, Int.reduceLT, Int.reduceNeg, Int.reduceAdd, Int.reduceToNat, E_gcd_eq, gE1, Tryz.ntmps108, Tryz.results108, gTT]
  refine ⟨fun h => ?_, fun h => ?_⟩
  · have e : mqE n d = 1 := by unfold mqE; rw [if_pos h]
    simp [mqN, mqD, e]
  have hb : 1 ≤ n ∧ 1 ≤ d := by simp only [Bool.or_eq_false_iff, decide_eq_false_iff_not] at h; omega
  have hg := gcdI_pos (d := d) hb.1
  have h1 : 0 ≤ n / gcdI n d ∧ n / gcdI n d ≤ n := ⟨Int.ediv_nonneg (by omega) (by omega), Int.ediv_le_self _ (by omega)⟩
  have h2 : 0 ≤ d / gcdI n d ∧ d / gcdI n d ≤ d := ⟨Int.ediv_nonneg (by omega) (by omega), Int.ediv_le_self _ (by omega)⟩
  refine ⟨by omega, by kernel_rfl, by omega, by omega, ?_⟩
  rw [Int.tdiv_eq_ediv_of_nonneg (by omega), Int.tdiv_eq_ediv_of_nonneg (by omega), IntWalk.i64_in (n / gcdI n d) (by omega), IntWalk.i64_in (d / gcdI n d) (by omega)]
  refine ⟨fun h3 => ?_, fun h3 => ?_⟩
  · have e : mqE n d = 2 := by unfold mqE; rw [if_neg (by rw [h]; decide), if_pos h3]
    simp [mqN, mqD, e]
  · have e : mqE n d = 0 := by unfold mqE; rw [if_neg (by rw [h]; decide), if_neg (by rw [h3]; decide)]
    simp [mqN, mqD, e]
def E_rmake : List V → Boxes → Toks → Name → Option Ent
  | [.c (.d (.int .i64 n)), .c (.d (.int .i64 d))], [], [], _ => some ⟨n ≤ 1000000000000 ∧ d ≤ 1000000000000, .tup [.agg [.int .i64 (mqN n d), .int .i64 (mqD n d)], .int .i64 (mqE n d)], [], []⟩
  | _, _, _, _ => none
def E_rmake_eq := And.intro (@E_rmake.eq_1) (@E_rmake.eq_1)
theorem E_rmake_ok : Snd Tryz.prog 108 E_rmake := by
  intro vs b k n e h hn hp
  unfold E_rmake at h
  split at h
  · cases h; obtain ⟨hp0, hp1⟩ := hp; exact (spec_rmake _ _ hp0 hp1).lift rfl _
  · cases h
structure Fm where
  k : Int
  r : Int
  m : List Int
structure Cv where
  f : Fm
  t : Fm
  mi : Int
  mo : Int
  mc : List Int
  r : Rs
def cv0 : Cv := ⟨⟨0, 0, []⟩, ⟨0, 0, []⟩, 0, 0, [], rs0⟩
theorem fm_eta (x : Fm) : (⟨x.k, x.r, x.m⟩ : Fm) = x := rfl
theorem cv_eta (x : Cv) : (⟨x.f, x.t, x.mi, x.mo, x.mc, x.r⟩ : Cv) = x := rfl
def cvtD (x : Cv) : List D := [.int .i64 (x).f.k, .int .i64 (x).f.r, .list (LI .i64 (x).f.m), .int .i64 (x).t.k, .int .i64 (x).t.r, .list (LI .i64 (x).t.m), .int .i64 (x).mi, .int .i64 (x).mo, .list (LI .i64 (x).mc), .int .i64 (x).r.c, .int .i64 (x).r.p.n, .int .i64 (x).r.p.d, .int .i64 (x).r.p.a, .int .i64 (x).r.p.p, .int .i64 (x).r.p.f, .list (LI .i32 (x).r.l)]
theorem cvtD_eq (x : Cv) : cvtD x = [.int .i64 (x).f.k, .int .i64 (x).f.r, .list (LI .i64 (x).f.m), .int .i64 (x).t.k, .int .i64 (x).t.r, .list (LI .i64 (x).t.m), .int .i64 (x).mi, .int .i64 (x).mo, .list (LI .i64 (x).mc), .int .i64 (x).r.c, .int .i64 (x).r.p.n, .int .i64 (x).r.p.d, .int .i64 (x).r.p.a, .int .i64 (x).r.p.p, .int .i64 (x).r.p.f, .list (LI .i32 (x).r.l)] := Eq.trans rfl rfl
def cvtC (x : Cv) : List C := [.d (.int .i64 (x).f.k), .d (.int .i64 (x).f.r), .d (.list (LI .i64 (x).f.m)), .d (.int .i64 (x).t.k), .d (.int .i64 (x).t.r), .d (.list (LI .i64 (x).t.m)), .d (.int .i64 (x).mi), .d (.int .i64 (x).mo), .d (.list (LI .i64 (x).mc)), .d (.int .i64 (x).r.c), .d (.int .i64 (x).r.p.n), .d (.int .i64 (x).r.p.d), .d (.int .i64 (x).r.p.a), .d (.int .i64 (x).r.p.p), .d (.int .i64 (x).r.p.f), .d (.list (LI .i32 (x).r.l))]
theorem cvtC_eq (x : Cv) : cvtC x = [.d (.int .i64 (x).f.k), .d (.int .i64 (x).f.r), .d (.list (LI .i64 (x).f.m)), .d (.int .i64 (x).t.k), .d (.int .i64 (x).t.r), .d (.list (LI .i64 (x).t.m)), .d (.int .i64 (x).mi), .d (.int .i64 (x).mo), .d (.list (LI .i64 (x).mc)), .d (.int .i64 (x).r.c), .d (.int .i64 (x).r.p.n), .d (.int .i64 (x).r.p.d), .d (.int .i64 (x).r.p.a), .d (.int .i64 (x).r.p.p), .d (.int .i64 (x).r.p.f), .d (.list (LI .i32 (x).r.l))] := Eq.trans rfl rfl
def fmV (x : Fm) : Bool := decide (0 < szK x.k) && decide (1000 ≤ x.r) && decide (x.r ≤ 768000) && chV x.m
theorem fm_in {x : Fm} (h : fmV x = true) : (1 ≤ szK x.k ∧ szK x.k ≤ 4) ∧ (1000 ≤ x.r ∧ x.r ≤ 768000) ∧ chV x.m = true ∧ 1 ≤ x.m.length ∧ x.m.length ≤ 8 := by
  simp only [fmV, Bool.and_eq_true, decide_eq_true_eq] at h
  obtain ⟨⟨⟨h1, h2⟩, h3⟩, h4⟩ := h
  have h5 := h4
  simp only [chV, Bool.and_eq_true, decide_eq_true_eq] at h5
  refine ⟨⟨by omega, ?_⟩, ⟨h2, h3⟩, h4, h5.1.1, h5.1.2⟩
  unfold szK
  repeat' split
  all_goals omega
def cnE (x y : Fm) : Int := if (fmV x && fmV y) = true then 0 else 1
def cnR (x y : Fm) : Cv := if cnE x y = 0 then ⟨x, y, dfN x.m y.m x.m, dfN x.m y.m y.m, dfO x.m y.m, nwR y.m.length (mqN x.r y.r) (mqD x.r y.r)⟩ else cv0
theorem spec_fits (fk fr : Int) (fm : List Int) (hm : fm.length ≤ 1000000) : Spec Tryz.prog 0 106 [.agg [.d (.int .i64 fk), .d (.int .i64 fr), .d (.list (LI .i64 fm))]] [] [] (vB (fmV ⟨fk, fr, fm⟩)) [] [] := by
  refine sE (md := fun _ => 0) (L := [(176, E_size), (80, E_cvalid)]) [(1, [0, 0, 0, 0, 0, 4194183, 0, 0, 0, 0, 0, 4182023, 0, 0, 0, 0, 0, 3276807, 0, 0])] 7 (tabs_cons E_size_ok (tabs_cons E_cvalid_ok tabs_nil)) Tryz.func106 rfl rfl rfl ?_
  simp (maxSteps := 1000000) only [↓gPre, gPost, gCore, gDef, gSt, gS0, Nat.reduceShiftRight, Nat.reduceMod, ↓reduceIte, reduceCtorEq, Nat.reduceEqDiff, Nat.reduceLT, Nat.reduceLeDiff, Nat.reduceAdd, Nat.reduceMul, Int.reduceLE, Int.reduceLT, Int.reduceNeg, Int.reduceAdd, Int.reduceToNat, E_size_eq, E_cvalid_eq, gE1, fm_eta, cv_eta, cvtD_eq, cvtC_eq, Tryz.ntmps106, Tryz.results106, gTT]
  exact ⟨fun _ => hm, rfl⟩
def E_fits : List V → Boxes → Toks → Name → Option Ent
  | [.agg [.d (.int .i64 fk), .d (.int .i64 fr), .d (.list q_fm)]], [], [], _ => some ⟨(ints q_fm).length ≤ 1000000 ∧ q_fm = LI .i64 (ints q_fm), vB (fmV ⟨fk, fr, (ints q_fm)⟩), [], []⟩
  | _, _, _, _ => none
def E_fits_eq := And.intro (@E_fits.eq_1) (@E_fits.eq_1)
theorem E_fits_ok : Snd Tryz.prog 106 E_fits := by
  intro vs b k n e h hn hp
  unfold E_fits at h
  split at h
  · cases h; obtain ⟨hp0, hq0⟩ := hp; obtain ⟨_, rfl⟩ := LI_ex hq0; simp only [ints_LI, bys_LB, blks_LK, lls_LL] at hp0 ⊢; exact (spec_fits _ _ _ hp0).lift rfl _
  · cases h
theorem spec_cown (fk fr : Int) (fm : List Int) (hm : fm.length ≤ 1000000) : Spec Tryz.prog 0 107 [.agg [.d (.int .i64 fk), .d (.int .i64 fr), .d (.list (LI .i64 fm))]] [] [] (.agg [.d (.int .i64 fk), .d (.int .i64 fr), .d (.list (LI .i64 fm))]) [] [] := by
  refine sE (md := fun _ => 0) (L := [(138, E_clone64)]) [] 7 (tabs_cons E_clone64_ok tabs_nil) Tryz.func107 rfl rfl rfl ?_
  simp (maxSteps := 1000000) only [↓gPre, gPost, gCore, gDef, gSt, gS0, Nat.reduceShiftRight, Nat.reduceMod, ↓reduceIte, reduceCtorEq, Nat.reduceEqDiff, Nat.reduceLT, Nat.reduceLeDiff, Nat.reduceAdd, Nat.reduceMul, Int.reduceLE, Int.reduceLT, Int.reduceNeg, Int.reduceAdd, Int.reduceToNat, E_clone64_eq, gE1, fm_eta, cv_eta, cvtD_eq, cvtC_eq, Tryz.ntmps107, Tryz.results107, gTT]
  omega
def E_cown : List V → Boxes → Toks → Name → Option Ent
  | [.agg [.d (.int .i64 fk), .d (.int .i64 fr), .d (.list q_fm)]], [], [], _ => some ⟨(ints q_fm).length ≤ 1000000 ∧ q_fm = LI .i64 (ints q_fm), .agg [.d (.int .i64 fk), .d (.int .i64 fr), .d (.list (LI .i64 (ints q_fm)))], [], []⟩
  | _, _, _, _ => none
def E_cown_eq := And.intro (@E_cown.eq_1) (@E_cown.eq_1)
theorem E_cown_ok : Snd Tryz.prog 107 E_cown := by
  intro vs b k n e h hn hp
  unfold E_cown at h
  split at h
  · cases h; obtain ⟨hp0, hq0⟩ := hp; obtain ⟨_, rfl⟩ := LI_ex hq0; simp only [ints_LI, bys_LB, blks_LK, lls_LL] at hp0 ⊢; exact (spec_cown _ _ _ hp0).lift rfl _
  · cases h
theorem spec_cnew (fk fr : Int) (fm : List Int) (tk tr : Int) (tm : List Int) (hm : fm.length ≤ 1000000) (ht : tm.length ≤ 1000000) : Spec Tryz.prog 0 42 [.agg [.d (.int .i64 fk), .d (.int .i64 fr), .d (.list (LI .i64 fm))], .agg [.d (.int .i64 tk), .d (.int .i64 tr), .d (.list (LI .i64 tm))]] [] [] (.tup [.agg (cvtD (cnR ⟨fk, fr, fm⟩ ⟨tk, tr, tm⟩)), .int .i64 (cnE ⟨fk, fr, fm⟩ ⟨tk, tr, tm⟩)]) [] [] := by
  refine sE (md := fun _ => 0) (L := [(106, E_fits), (107, E_cown), (29, E_dflt), (108, E_rmake), (47, E_rsnew)]) [] 65791 (tabs_cons E_fits_ok (tabs_cons E_cown_ok (tabs_cons E_dflt_ok (tabs_cons E_rmake_ok (tabs_cons E_rsnew_ok tabs_nil))))) Tryz.func42 rfl rfl rfl ?_
  simp (maxSteps := 1000000) only [↓gPre, gPost, gCore, gDef, gSt, gS0, Nat.reduceShiftRight, Nat.reduceMod, ↓reduceIte, reduceCtorEq, Nat.reduceEqDiff, Nat.reduceLT, Nat.reduceLeDiff, Nat.reduceAdd, Nat.reduceMul, Int.reduceLE, Int.reduceLT, Int.reduceNeg, Int.reduceAdd, Int.reduceToNat, E_fits_eq, E_cown_eq, E_dflt_eq, E_rmake_eq, E_rsnew_eq, gE1, fm_eta, cv_eta, cvtD_eq, cvtC_eq, Tryz.ntmps42, Tryz.results42, gTT]
  refine ⟨hm, fun _ => ht, fun h => ?_, fun h => ⟨by kernel_rfl, hm, ht, ⟨hm, ht⟩, ⟨?_, ?_⟩, ?_⟩⟩
  · have e : cnE ⟨fk, fr, fm⟩ ⟨tk, tr, tm⟩ = 1 := by
      unfold cnE
      rw [if_neg]
      intro h2
      rw [Bool.and_eq_true] at h2
      rw [h2.1, h2.2] at h
      exact absurd h (by decide)
    simp [cnR, e, cv0, rs0, LI_nil]
  all_goals
    simp only [Bool.or_eq_false_iff, Bool.not_eq_false'] at h
    have hf := fm_in h.1
    have hg := fm_in h.2
    simp only at hf hg
  · omega
  · omega
  have e : cnE ⟨fk, fr, fm⟩ ⟨tk, tr, tm⟩ = 0 := by unfold cnE; rw [h.1, h.2]; rfl
  simp [cnR, e]
def E_cnew : List V → Boxes → Toks → Name → Option Ent
  | [.agg [.d (.int .i64 fk), .d (.int .i64 fr), .d (.list q_fm)], .agg [.d (.int .i64 tk), .d (.int .i64 tr), .d (.list q_tm)]], [], [], _ => some ⟨(ints q_fm).length ≤ 1000000 ∧ (ints q_tm).length ≤ 1000000 ∧ q_fm = LI .i64 (ints q_fm) ∧ q_tm = LI .i64 (ints q_tm), .tup [.agg (cvtD (cnR ⟨fk, fr, (ints q_fm)⟩ ⟨tk, tr, (ints q_tm)⟩)), .int .i64 (cnE ⟨fk, fr, (ints q_fm)⟩ ⟨tk, tr, (ints q_tm)⟩)], [], []⟩
  | _, _, _, _ => none
def E_cnew_eq := And.intro (@E_cnew.eq_1) (@E_cnew.eq_1)
theorem E_cnew_ok : Snd Tryz.prog 42 E_cnew := by
  intro vs b k n e h hn hp
  unfold E_cnew at h
  split at h
  · cases h; obtain ⟨hp0, hp1, hq0, hq1⟩ := hp; obtain ⟨_, rfl⟩ := LI_ex hq0; obtain ⟨_, rfl⟩ := LI_ex hq1; simp only [ints_LI, bys_LB, blks_LK, lls_LL] at hp0 hp1 ⊢; exact (spec_cnew _ _ _ _ _ _ hp0 hp1).lift rfl _
  · cases h
end Go.Vam
