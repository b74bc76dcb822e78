/- Formats and converters: Fits, FrameSize, New, Valid. Conditions: none. -/
import Derived.Test.YtjciocipdoophaaGreatCvJ
set_option linter.unusedVariables false
set_option linter.defProp false
set_option linter.unusedSimpArgs false
set_option maxRecDepth 40000
set_option maxHeartbeats 4000000
namespace Go.Vam
open Go.Proofs

theorem spec_sequal (a b : List Int) (ha : a.length ≤ 1000000000) : Spec Tryz.prog 0 45 [vL (LI .i64 a), vL (LI .i64 b)] [] [] (vB (a == b)) [] [] := by
  refine spec_of_E (X := ⟨Tryz.prog, tt, Tryz.f45.ntmps, 1, fun _ => 0, (tab [])⟩) (M := []) (m := 16806963) rfl rfl ⟨tt_ok, tab_ok tabs_nil _ rfl rfl⟩ tt_mixed Tryz.func45 rfl (by decide) (by show (2 : Nat) ≤ _; exact Nat.le_of_ble_eq_true rfl) ⟨fun m hm => (V.bare_has rfl m hm).elim, by simp, by simp⟩ ?_
  simp only [↓gPre, gPost, gCore, gDef, Nat.reduceShiftRight, Nat.reduceMod, if_true, if_false, ↓reduceIte, reduceCtorEq, Nat.reduceEqDiff, Nat.reduceLT, Nat.reduceLeDiff, implies_true, forall_const, eq_self, ne_eq, not_true_eq_false, not_false_eq_true, imp_self, Nat.reduceAdd, Nat.reduceMul, Int.reduceLE, Int.reduceLT, Int.reduceNeg, Int.reduceAdd, Int.reduceToNat, Tryz.ntmps45, Tryz.results45, gTT]
  refine ⟨fun h => ?_, fun h => ?_⟩
  · rw [beq_eq_false_iff_ne]
    intro e
    subst e
    simp at h
  have hlen : a.length = b.length := by
    have : (a.length : Int) = b.length := by simpa using h
    omega
  refine ELoop_keep (fun n => ⟨[(13, vI .i64 (n : Nat))], [], []⟩) (fun n => n ≤ a.length ∧ a.take n = b.take n) (fun n => a.length - n) (· + 1) 0 ⟨Nat.zero_le _, rfl⟩ ?_ ?_
  · simp only [↓gPre, gPost, gCore, gDef, Nat.reduceShiftRight, Nat.reduceMod, if_true, if_false, ↓reduceIte, reduceCtorEq, Nat.reduceEqDiff, Nat.reduceLT, Nat.reduceLeDiff, implies_true, forall_const, eq_self, ne_eq, not_true_eq_false, not_false_eq_true, imp_self, Nat.reduceAdd, Nat.reduceMul, Int.reduceLE, Int.reduceLT, Int.reduceNeg, Int.reduceAdd, Int.reduceToNat, Tryz.ntmps45, Tryz.results45, gTT]
    rfl
  rintro n ⟨hn, heq⟩
  simp only [↓gPre, gPost, gCore, gDef, Nat.reduceShiftRight, Nat.reduceMod, if_true, if_false, ↓reduceIte, reduceCtorEq, Nat.reduceEqDiff, Nat.reduceLT, Nat.reduceLeDiff, implies_true, forall_const, eq_self, ne_eq, not_true_eq_false, not_false_eq_true, imp_self, Nat.reduceAdd, Nat.reduceMul, Int.reduceLE, Int.reduceLT, Int.reduceNeg, Int.reduceAdd, Int.reduceToNat, Tryz.ntmps45, Tryz.results45, gTT]
  refine ⟨fun h1 => ?_, fun h1 => ?_⟩
  · have hlt : n < a.length := by have := of_decide_eq_true h1; omega
    have hlt2 : n < b.length := by omega
    have g1 : a[n]?.getD 0 = a[n] := by rw [List.getElem?_eq_getElem hlt]; rfl
    have g2 : b[n]?.getD 0 = b[n] := by rw [List.getElem?_eq_getElem hlt2]; rfl
    rw [g1, g2]
    refine ⟨by kernel_rfl, by omega, by omega, fun h2 => ?_, fun h2 => ?_⟩
    · rw [beq_eq_false_iff_ne]
      intro e
      subst e
      simp at h2
    · have e : a[n] = b[n] := by simpa using h2
      refine ⟨(wrapN _ (by omega)).symm, ⟨by omega, ?_⟩, by omega⟩
      rw [List.take_add_one, List.take_add_one, heq, List.getElem?_eq_getElem hlt, List.getElem?_eq_getElem hlt2, e]
  · have hnl : n = a.length := by have := of_decide_eq_false h1; omega
    rw [hnl, List.take_length, hlen, List.take_length] at heq
    rw [heq, beq_self_eq_true]
def E_sequal : List V → Boxes → Toks → Name → Option Ent
  | [.c (.d (.list q_a)), .c (.d (.list q_b))], [], [], _ => some ⟨(ints q_a).length ≤ 1000000000 ∧ q_a = LI .i64 (ints q_a) ∧ q_b = LI .i64 (ints q_b), vB ((ints q_a) == (ints q_b)), [], []⟩
  | _, _, _, _ => none
def E_sequal_eq := And.intro (@E_sequal.eq_1) (@E_sequal.eq_1)
theorem E_sequal_ok : Snd Tryz.prog 45 E_sequal := by
  intro vs b k n e h hn hp
  unfold E_sequal at h
  split at h
  · cases h; obtain ⟨hp0, hq0, hq1⟩ := hp; obtain ⟨_, rfl⟩ := LI_ex hq0; obtain ⟨_, rfl⟩ := LI_ex hq1; simp only [ints_LI, bys_LB, blks_LK, lls_LL] at hp0 ⊢; exact (spec_sequal _ _ hp0).lift rfl _
  · cases h

def mkC (l : List UInt8) : Int := ([0, 32768, 23170, -32768, 131072, -131072, 1, dN l 256 * 128] : List Int)[(dN (dT l 256) 8).toNat]?.getD 0
def mkR (l : List UInt8) : Nat → List UInt8
  | 0 => l
  | n + 1 => dT (dT (mkR l n) 256) 8
def mkL (l : List UInt8) (n : Nat) : List Int := (List.range n).map fun i => mkC (mkR l i)
theorem mkL_succ (l : List UInt8) (n : Nat) : mkL l (n + 1) = mkL l n ++ [mkC (mkR l n)] := by simp [mkL, List.range_succ]
theorem mkL_len (l : List UInt8) (n : Nat) : (mkL l n).length = n := by simp [mkL]
def mapsL : List (List Int) := [[3], [1, 2], [1, 2, 3, 4, 5, 6], [2, 1], [1, 2, 7, 8], [4], [1, 3]]
def mapV (l : List UInt8) : List Int := mapsL[(dN l 7).toNat]?.getD []

theorem spec_same06 (a b : List Int) (ha : a.length ≤ 1000000000) : Spec Tryz.prog 0 78 [vL (LI .i64 a), vL (LI .i64 b)] [] [] (vB (a == b)) [] [] := by
  refine spec_of_E (X := ⟨Tryz.prog, tt, Tryz.f78.ntmps, 1, fun _ => 0, (tab [])⟩) (M := []) (m := 16806963) rfl rfl ⟨tt_ok, tab_ok tabs_nil _ rfl rfl⟩ tt_mixed Tryz.func78 rfl (by decide) (by show (2 : Nat) ≤ _; exact Nat.le_of_ble_eq_true rfl) ⟨fun m hm => (V.bare_has rfl m hm).elim, by simp, by simp⟩ ?_
  simp only [↓gPre, gPost, gCore, gDef, Nat.reduceShiftRight, Nat.reduceMod, if_true, if_false, ↓reduceIte, reduceCtorEq, Nat.reduceEqDiff, Nat.reduceLT, Nat.reduceLeDiff, implies_true, forall_const, eq_self, ne_eq, not_true_eq_false, not_false_eq_true, imp_self, Nat.reduceAdd, Nat.reduceMul, Int.reduceLE, Int.reduceLT, Int.reduceNeg, Int.reduceAdd, Int.reduceToNat, Tryz.ntmps78, Tryz.results78, gTT]
  refine ⟨fun h => ?_, fun h => ?_⟩
  · rw [beq_eq_false_iff_ne]
    intro e
    subst e
    simp at h
  have hlen : a.length = b.length := by
    have : (a.length : Int) = b.length := by simpa using h
    omega
  refine ELoop_keep (fun n => ⟨[(13, vI .i64 (n : Nat))], [], []⟩) (fun n => n ≤ a.length ∧ a.take n = b.take n) (fun n => a.length - n) (· + 1) 0 ⟨Nat.zero_le _, rfl⟩ ?_ ?_
  · simp only [↓gPre, gPost, gCore, gDef, Nat.reduceShiftRight, Nat.reduceMod, if_true, if_false, ↓reduceIte, reduceCtorEq, Nat.reduceEqDiff, Nat.reduceLT, Nat.reduceLeDiff, implies_true, forall_const, eq_self, ne_eq, not_true_eq_false, not_false_eq_true, imp_self, Nat.reduceAdd, Nat.reduceMul, Int.reduceLE, Int.reduceLT, Int.reduceNeg, Int.reduceAdd, Int.reduceToNat, Tryz.ntmps78, Tryz.results78, gTT]
    rfl
  rintro n ⟨hn, heq⟩
  simp only [↓gPre, gPost, gCore, gDef, Nat.reduceShiftRight, Nat.reduceMod, if_true, if_false, ↓reduceIte, reduceCtorEq, Nat.reduceEqDiff, Nat.reduceLT, Nat.reduceLeDiff, implies_true, forall_const, eq_self, ne_eq, not_true_eq_false, not_false_eq_true, imp_self, Nat.reduceAdd, Nat.reduceMul, Int.reduceLE, Int.reduceLT, Int.reduceNeg, Int.reduceAdd, Int.reduceToNat, Tryz.ntmps78, Tryz.results78, gTT]
  refine ⟨fun h1 => ?_, fun h1 => ?_⟩
  · have hlt : n < a.length := by have := of_decide_eq_true h1; omega
    have hlt2 : n < b.length := by omega
    have g1 : a[n]?.getD 0 = a[n] := by rw [List.getElem?_eq_getElem hlt]; rfl
    have g2 : b[n]?.getD 0 = b[n] := by rw [List.getElem?_eq_getElem hlt2]; rfl
    rw [g1, g2]
    refine ⟨by kernel_rfl, by omega, by omega, fun h2 => ?_, fun h2 => ?_⟩
    · rw [beq_eq_false_iff_ne]
      intro e
      subst e
      simp at h2
    · have e : a[n] = b[n] := by simpa using h2
      refine ⟨(wrapN _ (by omega)).symm, ⟨by omega, ?_⟩, by omega⟩
      rw [List.take_add_one, List.take_add_one, heq, List.getElem?_eq_getElem hlt, List.getElem?_eq_getElem hlt2, e]
  · have hnl : n = a.length := by have := of_decide_eq_false h1; omega
    rw [hnl, List.take_length, hlen, List.take_length] at heq
    rw [heq, beq_self_eq_true]
def E_same06 : List V → Boxes → Toks → Name → Option Ent
  | [.c (.d (.list q_a)), .c (.d (.list q_b))], [], [], _ => some ⟨(ints q_a).length ≤ 1000000000 ∧ q_a = LI .i64 (ints q_a) ∧ q_b = LI .i64 (ints q_b), vB ((ints q_a) == (ints q_b)), [], []⟩
  | _, _, _, _ => none
def E_same06_eq := And.intro (@E_same06.eq_1) (@E_same06.eq_1)
theorem E_same06_ok : Snd Tryz.prog 78 E_same06 := by
  intro vs b k n e h hn hp
  unfold E_same06 at h
  split at h
  · cases h; obtain ⟨hp0, hq0, hq1⟩ := hp; obtain ⟨_, rfl⟩ := LI_ex hq0; obtain ⟨_, rfl⟩ := LI_ex hq1; simp only [ints_LI, bys_LB, blks_LK, lls_LL] at hp0 ⊢; exact (spec_same06 _ _ hp0).lift rfl _
  · cases h

theorem spec_same07 (a b c d : Int) (l m : List Int) (hl : l.length ≤ 1000000000) : Spec Tryz.prog 0 40 [.agg [.d (.int .i64 a), .d (.int .i64 b), .d (.list (LI .i64 l))], .agg [.d (.int .i64 c), .d (.int .i64 d), .d (.list (LI .i64 m))]] [] [] (vB (a == c && b == d && l == m)) [] [] := by
  refine spec_of_E (X := ⟨Tryz.prog, tt, Tryz.f40.ntmps, 1, fun _ => 0, (tab [(78, E_same06)])⟩) (M := [(1, [0, 0, 0, 0, 0, 16776223, 0, 0, 0, 0, 0, 16711711, 0, 0, 0, 0, 0, 12714015, 0, 0])]) (m := 31) rfl rfl ⟨tt_ok, tab_ok (tabs_cons E_same06_ok tabs_nil) _ rfl rfl⟩ tt_mixed Tryz.func40 rfl (by decide) (by show (2 : Nat) ≤ _; exact Nat.le_of_ble_eq_true rfl) ⟨fun m hm => (V.bare_has rfl m hm).elim, by simp, by simp⟩ ?_
  simp only [↓gPre, gPost, gCore, gDef, Nat.reduceShiftRight, Nat.reduceMod, if_true, if_false, ↓reduceIte, reduceCtorEq, Nat.reduceEqDiff, Nat.reduceLT, Nat.reduceLeDiff, implies_true, forall_const, eq_self, ne_eq, not_true_eq_false, not_false_eq_true, imp_self, Nat.reduceAdd, Nat.reduceMul, Int.reduceLE, Int.reduceLT, Int.reduceNeg, Int.reduceAdd, Int.reduceToNat, E_same06_eq, Tryz.ntmps40, Tryz.results40, gTT]
  exact fun _ => hl
def E_same07 : List V → Boxes → Toks → Name → Option Ent
  | [.agg [.d (.int .i64 a), .d (.int .i64 b), .d (.list q_l)], .agg [.d (.int .i64 c), .d (.int .i64 d), .d (.list q_m)]], [], [], _ => some ⟨(ints q_l).length ≤ 1000000000 ∧ q_l = LI .i64 (ints q_l) ∧ q_m = LI .i64 (ints q_m), vB (a == c && b == d && (ints q_l) == (ints q_m)), [], []⟩
  | _, _, _, _ => none
def E_same07_eq := And.intro (@E_same07.eq_1) (@E_same07.eq_1)
theorem E_same07_ok : Snd Tryz.prog 40 E_same07 := by
  intro vs b k n e h hn hp
  unfold E_same07 at h
  split at h
  · cases h; obtain ⟨hp0, hq0, hq1⟩ := hp; obtain ⟨_, rfl⟩ := LI_ex hq0; obtain ⟨_, rfl⟩ := LI_ex hq1; simp only [ints_LI, bys_LB, blks_LK, lls_LL] at hp0 ⊢; exact (spec_same07 _ _ _ _ _ _ hp0).lift rfl _
  · cases h

theorem spec_maps  : Spec Tryz.prog 0 48 [] [] [] (vL (LL .i64 mapsL)) [] [] := by
  refine spec_of_E (X := ⟨Tryz.prog, tt, Tryz.f48.ntmps, 1, fun _ => 0, (tab [])⟩) (M := []) (m := 1) rfl rfl ⟨tt_ok, tab_ok tabs_nil _ rfl rfl⟩ tt_mixed Tryz.func48 rfl (by decide) (by show (0 : Nat) ≤ _; exact Nat.le_of_ble_eq_true rfl) ⟨fun m hm => (V.bare_has rfl m hm).elim, by simp, by simp⟩ ?_
  simp only [↓gPre, gPost, gCore, gDef, Nat.reduceShiftRight, Nat.reduceMod, if_true, if_false, ↓reduceIte, reduceCtorEq, Nat.reduceEqDiff, Nat.reduceLT, Nat.reduceLeDiff, implies_true, forall_const, eq_self, ne_eq, not_true_eq_false, not_false_eq_true, imp_self, Nat.reduceAdd, Nat.reduceMul, Int.reduceLE, Int.reduceLT, Int.reduceNeg, Int.reduceAdd, Int.reduceToNat, Tryz.ntmps48, Tryz.results48, gTT]
  rfl
def E_maps : List V → Boxes → Toks → Name → Option Ent
  | [], [], [], _ => some ⟨True, vL (LL .i64 mapsL), [], []⟩
  | _, _, _, _ => none
def E_maps_eq := And.intro (@E_maps.eq_1) (@E_maps.eq_1)
theorem E_maps_ok : Snd Tryz.prog 48 E_maps := by
  intro vs b k n e h hn hp
  unfold E_maps at h
  split at h
  · cases h; exact (spec_maps ).lift rfl _
  · cases h

theorem spec_mmap (l : List UInt8) : Spec Tryz.prog 0 18 [.c (.lp ⟨0, 0⟩ 0)] [(⟨0, 0⟩, [.d (.list (LB l))])] [] (vL (LI .i64 (mapV l))) [(⟨0, 0⟩, [.d (.list (LB (dT l 7)))])] [] := by
  refine spec_of_E (X := ⟨Tryz.prog, tt, Tryz.f18.ntmps, 1, fun _ => 0, (tab [(48, E_maps), (17, E_next)])⟩) (M := []) (m := 5) rfl rfl ⟨tt_ok, tab_ok (tabs_cons E_maps_ok (tabs_cons E_next_ok tabs_nil)) _ rfl rfl⟩ tt_mixed Tryz.func18 rfl (by decide) (by show (1 : Nat) ≤ _; exact Nat.le_of_ble_eq_true rfl) ⟨by simp [V.has, C.has], by simp [C.has], by simp⟩ ?_
  simp only [↓gPre, gPost, gCore, gDef, Nat.reduceShiftRight, Nat.reduceMod, if_true, if_false, ↓reduceIte, reduceCtorEq, Nat.reduceEqDiff, Nat.reduceLT, Nat.reduceLeDiff, implies_true, forall_const, eq_self, ne_eq, not_true_eq_false, not_false_eq_true, imp_self, Nat.reduceAdd, Nat.reduceMul, Int.reduceLE, Int.reduceLT, Int.reduceNeg, Int.reduceAdd, Int.reduceToNat, E_maps_eq, E_next_eq, Tryz.ntmps18, Tryz.results18, gTT]
  exact ⟨⟨dN_ge _ _, dN_lt _ _ (by decide)⟩, rfl⟩
def E_mmap : List V → Boxes → Toks → Name → Option Ent
  | [.c (.lp n0 0)], [(m0, [.d (.list q_l)])], [], _ => some ⟨n0.lv ≤ 1 ∧ m0 = n0 ∧ q_l = LB (bys q_l), vL (LI .i64 (mapV (bys q_l))), [(n0, [.d (.list (LB (dT (bys q_l) 7)))])], []⟩
  | _, _, _, _ => none
def E_mmap_eq := And.intro (@E_mmap.eq_1) (@E_mmap.eq_1)
theorem E_mmap_ok : Snd Tryz.prog 18 E_mmap := by
  intro vs b k n e h hn hp
  unfold E_mmap at h
  split at h
  · cases h; obtain ⟨hl0, rfl, hq0⟩ := hp; obtain ⟨_, rfl⟩ := LB_ex hq0; simp only [ints_LI, bys_LB, blks_LK, lls_LL]; exact Spec.ren1 (spec_mmap _) 0 (by simp [supOK, V.names, C.names, namesB, namesK]) hl0 
  · cases h

theorem spec_rmake (n d : Int) (hn : n ≤ 1000000000000) (hd : d ≤ 1000000000000) : Spec Tryz.prog 0 22 [vI .i64 n, vI .i64 d] [] [] (.tup [.agg [.int .i64 (mqN n d), .int .i64 (mqD n d)], .int .i64 (mqE n d)]) [] [] := by
  refine spec_of_E (X := ⟨Tryz.prog, tt, Tryz.f22.ntmps, 1, fun _ => 0, (tab [(55, E_gcd)])⟩) (M := []) (m := 268439667) rfl rfl ⟨tt_ok, tab_ok (tabs_cons E_gcd_ok tabs_nil) _ rfl rfl⟩ tt_mixed Tryz.func22 rfl (by decide) (by show (2 : Nat) ≤ _; exact Nat.le_of_ble_eq_true rfl) ⟨by simp [V.has, C.has], by simp [C.has], by simp⟩ ?_
  simp only [↓gPre, gPost, gCore, gDef, Nat.reduceShiftRight, Nat.reduceMod, if_true, if_false, ↓reduceIte, reduceCtorEq, Nat.reduceEqDiff, Nat.reduceLT, Nat.reduceLeDiff, implies_true, forall_const, eq_self, ne_eq, not_true_eq_false, not_false_eq_true, imp_self, Nat.reduceAdd, Nat.reduceMul, Int.reduceLE, Int.reduceLT, Int.reduceNeg, Int.reduceAdd, Int.reduceToNat, E_gcd_eq, Tryz.ntmps22, Tryz.results22, gTT]
  refine ⟨fun h => ?_, fun h => ?_⟩
  · have e : mqE n d = 1 := by unfold mqE; rw [if_pos h]
    simp [mqN, mqD, e]
  have hb : 1 ≤ n ∧ 1 ≤ d := by simp only [Bool.or_eq_false_iff, decide_eq_false_iff_not] at h; omega
  have hg := gcdI_pos (d := d) hb.1
  have h1 : 0 ≤ n / gcdI n d ∧ n / gcdI n d ≤ n := ⟨Int.ediv_nonneg (by omega) (by omega), Int.ediv_le_self _ (by omega)⟩
  have h2 : 0 ≤ d / gcdI n d ∧ d / gcdI n d ≤ d := ⟨Int.ediv_nonneg (by omega) (by omega), Int.ediv_le_self _ (by omega)⟩
  refine ⟨by omega, by kernel_rfl, by omega, by omega, ?_⟩
  rw [Int.tdiv_eq_ediv_of_nonneg (by omega), Int.tdiv_eq_ediv_of_nonneg (by omega), IntWalk.i64_in (n / gcdI n d) (by omega), IntWalk.i64_in (d / gcdI n d) (by omega)]
  refine ⟨fun h3 => ?_, fun h3 => ?_⟩
  · have e : mqE n d = 2 := by unfold mqE; rw [if_neg (by rw [h]; decide), if_pos h3]
    simp [mqN, mqD, e]
  · have e : mqE n d = 0 := by unfold mqE; rw [if_neg (by rw [h]; decide), if_neg (by rw [h3]; decide)]
    simp [mqN, mqD, e]
def E_rmake : List V → Boxes → Toks → Name → Option Ent
  | [.c (.d (.int .i64 n)), .c (.d (.int .i64 d))], [], [], _ => some ⟨n ≤ 1000000000000 ∧ d ≤ 1000000000000, .tup [.agg [.int .i64 (mqN n d), .int .i64 (mqD n d)], .int .i64 (mqE n d)], [], []⟩
  | _, _, _, _ => none
def E_rmake_eq := And.intro (@E_rmake.eq_1) (@E_rmake.eq_1)
theorem E_rmake_ok : Snd Tryz.prog 22 E_rmake := by
  intro vs b k n e h hn hp
  unfold E_rmake at h
  split at h
  · cases h; obtain ⟨hp0, hp1⟩ := hp; exact (spec_rmake _ _ hp0 hp1).lift rfl _
  · cases h

/-- A format. -/
structure Fm where
  k : Int
  r : Int
  m : List Int
/-- A converter. -/
structure Cv where
  f : Fm
  t : Fm
  mi : Int
  mo : Int
  mc : List Int
  r : Rs
def cv0 : Cv := ⟨⟨0, 0, []⟩, ⟨0, 0, []⟩, 0, 0, [], rs0⟩
theorem ph_eta (x : Ph) : (⟨x.n, x.d, x.a, x.p, x.f⟩ : Ph) = x := rfl
theorem rs_eta (x : Rs) : (⟨x.c, x.p, x.l⟩ : Rs) = x := rfl
theorem fm_eta (x : Fm) : (⟨x.k, x.r, x.m⟩ : Fm) = x := rfl
theorem cv_eta (x : Cv) : (⟨x.f, x.t, x.mi, x.mo, x.mc, x.r⟩ : Cv) = x := rfl
def cvtD (x : Cv) : List D := [.int .i64 (x).f.k, .int .i64 (x).f.r, .list (LI .i64 (x).f.m), .int .i64 (x).t.k, .int .i64 (x).t.r, .list (LI .i64 (x).t.m), .int .i64 (x).mi, .int .i64 (x).mo, .list (LI .i64 (x).mc), .int .i64 (x).r.c, .int .i64 (x).r.p.n, .int .i64 (x).r.p.d, .int .i64 (x).r.p.a, .int .i64 (x).r.p.p, .int .i64 (x).r.p.f, .list (LI .i32 (x).r.l)]
theorem cvtD_eq (x : Cv) : cvtD x = [.int .i64 (x).f.k, .int .i64 (x).f.r, .list (LI .i64 (x).f.m), .int .i64 (x).t.k, .int .i64 (x).t.r, .list (LI .i64 (x).t.m), .int .i64 (x).mi, .int .i64 (x).mo, .list (LI .i64 (x).mc), .int .i64 (x).r.c, .int .i64 (x).r.p.n, .int .i64 (x).r.p.d, .int .i64 (x).r.p.a, .int .i64 (x).r.p.p, .int .i64 (x).r.p.f, .list (LI .i32 (x).r.l)] := Eq.trans rfl rfl
def cvtC (x : Cv) : List C := [.d (.int .i64 (x).f.k), .d (.int .i64 (x).f.r), .d (.list (LI .i64 (x).f.m)), .d (.int .i64 (x).t.k), .d (.int .i64 (x).t.r), .d (.list (LI .i64 (x).t.m)), .d (.int .i64 (x).mi), .d (.int .i64 (x).mo), .d (.list (LI .i64 (x).mc)), .d (.int .i64 (x).r.c), .d (.int .i64 (x).r.p.n), .d (.int .i64 (x).r.p.d), .d (.int .i64 (x).r.p.a), .d (.int .i64 (x).r.p.p), .d (.int .i64 (x).r.p.f), .d (.list (LI .i32 (x).r.l))]
theorem cvtC_eq (x : Cv) : cvtC x = [.d (.int .i64 (x).f.k), .d (.int .i64 (x).f.r), .d (.list (LI .i64 (x).f.m)), .d (.int .i64 (x).t.k), .d (.int .i64 (x).t.r), .d (.list (LI .i64 (x).t.m)), .d (.int .i64 (x).mi), .d (.int .i64 (x).mo), .d (.list (LI .i64 (x).mc)), .d (.int .i64 (x).r.c), .d (.int .i64 (x).r.p.n), .d (.int .i64 (x).r.p.d), .d (.int .i64 (x).r.p.a), .d (.int .i64 (x).r.p.p), .d (.int .i64 (x).r.p.f), .d (.list (LI .i32 (x).r.l))] := Eq.trans rfl rfl
def fmV (x : Fm) : Bool := decide (0 < szK x.k) && decide (1000 ≤ x.r) && decide (x.r ≤ 768000) && chV x.m
theorem fm_in {x : Fm} (h : fmV x = true) : (1 ≤ szK x.k ∧ szK x.k ≤ 4) ∧ (1000 ≤ x.r ∧ x.r ≤ 768000) ∧ chV x.m = true ∧ 1 ≤ x.m.length ∧ x.m.length ≤ 8 := by
  simp only [fmV, Bool.and_eq_true, decide_eq_true_eq] at h
  obtain ⟨⟨⟨h1, h2⟩, h3⟩, h4⟩ := h
  have h5 := h4
  simp only [chV, Bool.and_eq_true, decide_eq_true_eq] at h5
  refine ⟨⟨by omega, ?_⟩, ⟨h2, h3⟩, h4, h5.1.1, h5.1.2⟩
  unfold szK
  repeat' split
  all_goals omega
theorem fm_big {x : Fm} (h : fmV x = true) : 1 ≤ szK x.k * (x.m.length : Int) ∧ szK x.k * (x.m.length : Int) ≤ 32 := by
  obtain ⟨h1, _, _, h3⟩ := fm_in h
  have e1 : 1 * 1 ≤ szK x.k * (x.m.length : Int) := Int.mul_le_mul h1.1 (by omega) (by decide) (by omega)
  have e2 : szK x.k * (x.m.length : Int) ≤ 4 * 8 := Int.mul_le_mul h1.2 (by omega) (by omega) (by decide)
  omega
def fmZ (x : Fm) : Int := if fmV x = true then szK x.k * x.m.length else 0
def cnE (x y : Fm) : Int := if (fmV x && fmV y) = true then 0 else 1
def cnR (x y : Fm) : Cv := if cnE x y = 0 then ⟨x, y, dfN x.m y.m x.m, dfN x.m y.m y.m, dfO x.m y.m, nwR y.m.length (mqN x.r y.r) (mqD x.r y.r)⟩ else cv0
def cvV (x : Cv) : Bool := (cnE x.f x.t == 0) && (x.mi == (cnR x.f x.t).mi) && (x.mo == (cnR x.f x.t).mo) && (x.mc == (cnR x.f x.t).mc) && rsV x.r && (x.r.c == (cnR x.f x.t).r.c) && ((x.r.p.n == (cnR x.f x.t).r.p.n) && (x.r.p.d == (cnR x.f x.t).r.p.d))


theorem spec_fits (fk fr : Int) (fm : List Int) (hm : fm.length ≤ 1000000) : Spec Tryz.prog 0 19 [.agg [.d (.int .i64 fk), .d (.int .i64 fr), .d (.list (LI .i64 fm))]] [] [] (vB (fmV ⟨fk, fr, fm⟩)) [] [] := by
  refine spec_of_E (X := ⟨Tryz.prog, tt, Tryz.f19.ntmps, 1, fun _ => 0, (tab [(47, E_size), (49, E_cvalid)])⟩) (M := [(1, [0, 0, 0, 0, 0, 4194183, 0, 0, 0, 0, 0, 4182023, 0, 0, 0, 0, 0, 3276807, 0, 0])]) (m := 7) rfl rfl ⟨tt_ok, tab_ok (tabs_cons E_size_ok (tabs_cons E_cvalid_ok tabs_nil)) _ rfl rfl⟩ tt_mixed Tryz.func19 rfl (by decide) (by show (1 : Nat) ≤ _; exact Nat.le_of_ble_eq_true rfl) ⟨fun m hm => (V.bare_has rfl m hm).elim, by simp, by simp⟩ ?_
  simp only [↓gPre, gPost, gCore, gDef, Nat.reduceShiftRight, Nat.reduceMod, if_true, if_false, ↓reduceIte, reduceCtorEq, Nat.reduceEqDiff, Nat.reduceLT, Nat.reduceLeDiff, implies_true, forall_const, eq_self, ne_eq, not_true_eq_false, not_false_eq_true, imp_self, Nat.reduceAdd, Nat.reduceMul, Int.reduceLE, Int.reduceLT, Int.reduceNeg, Int.reduceAdd, Int.reduceToNat, E_size_eq, E_cvalid_eq, ph_eta, rs_eta, fm_eta, cv_eta, cvtD_eq, cvtC_eq, Tryz.ntmps19, Tryz.results19, gTT]
  exact ⟨fun _ => hm, rfl⟩
def E_fits : List V → Boxes → Toks → Name → Option Ent
  | [.agg [.d (.int .i64 fk), .d (.int .i64 fr), .d (.list q_fm)]], [], [], _ => some ⟨(ints q_fm).length ≤ 1000000 ∧ q_fm = LI .i64 (ints q_fm), vB (fmV ⟨fk, fr, (ints q_fm)⟩), [], []⟩
  | _, _, _, _ => none
def E_fits_eq := And.intro (@E_fits.eq_1) (@E_fits.eq_1)
theorem E_fits_ok : Snd Tryz.prog 19 E_fits := by
  intro vs b k n e h hn hp
  unfold E_fits at h
  split at h
  · cases h; obtain ⟨hp0, hq0⟩ := hp; obtain ⟨_, rfl⟩ := LI_ex hq0; simp only [ints_LI, bys_LB, blks_LK, lls_LL] at hp0 ⊢; exact (spec_fits _ _ _ hp0).lift rfl _
  · cases h

theorem spec_rfits (fk fr : Int) (fm : List Int) (hm : fm.length ≤ 1000000) : Spec Tryz.prog 0 24 [.agg [.d (.int .i64 fk), .d (.int .i64 fr), .d (.list (LI .i64 fm))]] [] [] (vB (fmV ⟨fk, fr, fm⟩)) [] [] := by
  refine spec_of_E (X := ⟨Tryz.prog, tt, Tryz.f24.ntmps, 1, fun _ => 0, (tab [(57, E_rsize), (58, E_rcvalid)])⟩) (M := [(1, [0, 0, 0, 0, 0, 4194183, 0, 0, 0, 0, 0, 4182023, 0, 0, 0, 0, 0, 3276807, 0, 0])]) (m := 7) rfl rfl ⟨tt_ok, tab_ok (tabs_cons E_rsize_ok (tabs_cons E_rcvalid_ok tabs_nil)) _ rfl rfl⟩ tt_mixed Tryz.func24 rfl (by decide) (by show (1 : Nat) ≤ _; exact Nat.le_of_ble_eq_true rfl) ⟨fun m hm => (V.bare_has rfl m hm).elim, by simp, by simp⟩ ?_
  simp only [↓gPre, gPost, gCore, gDef, Nat.reduceShiftRight, Nat.reduceMod, if_true, if_false, ↓reduceIte, reduceCtorEq, Nat.reduceEqDiff, Nat.reduceLT, Nat.reduceLeDiff, implies_true, forall_const, eq_self, ne_eq, not_true_eq_false, not_false_eq_true, imp_self, Nat.reduceAdd, Nat.reduceMul, Int.reduceLE, Int.reduceLT, Int.reduceNeg, Int.reduceAdd, Int.reduceToNat, E_rsize_eq, E_rcvalid_eq, ph_eta, rs_eta, fm_eta, cv_eta, cvtD_eq, cvtC_eq, Tryz.ntmps24, Tryz.results24, gTT]
  exact ⟨fun _ => hm, rfl⟩
def E_rfits : List V → Boxes → Toks → Name → Option Ent
  | [.agg [.d (.int .i64 fk), .d (.int .i64 fr), .d (.list q_fm)]], [], [], _ => some ⟨(ints q_fm).length ≤ 1000000 ∧ q_fm = LI .i64 (ints q_fm), vB (fmV ⟨fk, fr, (ints q_fm)⟩), [], []⟩
  | _, _, _, _ => none
def E_rfits_eq := And.intro (@E_rfits.eq_1) (@E_rfits.eq_1)
theorem E_rfits_ok : Snd Tryz.prog 24 E_rfits := by
  intro vs b k n e h hn hp
  unfold E_rfits at h
  split at h
  · cases h; obtain ⟨hp0, hq0⟩ := hp; obtain ⟨_, rfl⟩ := LI_ex hq0; simp only [ints_LI, bys_LB, blks_LK, lls_LL] at hp0 ⊢; exact (spec_rfits _ _ _ hp0).lift rfl _
  · cases h

theorem spec_fsize (fk fr : Int) (fm : List Int) (hm : fm.length ≤ 1000000) : Spec Tryz.prog 0 16 [.agg [.d (.int .i64 fk), .d (.int .i64 fr), .d (.list (LI .i64 fm))]] [] [] (vI .i64 (fmZ ⟨fk, fr, fm⟩)) [] [] := by
  refine spec_of_E (X := ⟨Tryz.prog, tt, Tryz.f16.ntmps, 1, fun _ => 0, (tab [(19, E_fits), (47, E_size)])⟩) (M := []) (m := 39) rfl rfl ⟨tt_ok, tab_ok (tabs_cons E_fits_ok (tabs_cons E_size_ok tabs_nil)) _ rfl rfl⟩ tt_mixed Tryz.func16 rfl (by decide) (by show (1 : Nat) ≤ _; exact Nat.le_of_ble_eq_true rfl) ⟨fun m hm => (V.bare_has rfl m hm).elim, by simp, by simp⟩ ?_
  simp only [↓gPre, gPost, gCore, gDef, Nat.reduceShiftRight, Nat.reduceMod, if_true, if_false, ↓reduceIte, reduceCtorEq, Nat.reduceEqDiff, Nat.reduceLT, Nat.reduceLeDiff, implies_true, forall_const, eq_self, ne_eq, not_true_eq_false, not_false_eq_true, imp_self, Nat.reduceAdd, Nat.reduceMul, Int.reduceLE, Int.reduceLT, Int.reduceNeg, Int.reduceAdd, Int.reduceToNat, E_fits_eq, E_size_eq, ph_eta, rs_eta, fm_eta, cv_eta, cvtD_eq, cvtC_eq, Tryz.ntmps16, Tryz.results16, gTT]
  refine ⟨hm, fun h => by simp [fmZ, h], fun h => ⟨by kernel_rfl, ?_⟩⟩
  have hv : fmV ⟨fk, fr, fm⟩ = true := by simpa using h
  have hb := fm_big hv
  simp only at hb
  rw [IntWalk.i64_in _ (by omega)]
  exact if_pos hv
def E_fsize : List V → Boxes → Toks → Name → Option Ent
  | [.agg [.d (.int .i64 fk), .d (.int .i64 fr), .d (.list q_fm)]], [], [], _ => some ⟨(ints q_fm).length ≤ 1000000 ∧ q_fm = LI .i64 (ints q_fm), vI .i64 (fmZ ⟨fk, fr, (ints q_fm)⟩), [], []⟩
  | _, _, _, _ => none
def E_fsize_eq := And.intro (@E_fsize.eq_1) (@E_fsize.eq_1)
theorem E_fsize_ok : Snd Tryz.prog 16 E_fsize := by
  intro vs b k n e h hn hp
  unfold E_fsize at h
  split at h
  · cases h; obtain ⟨hp0, hq0⟩ := hp; obtain ⟨_, rfl⟩ := LI_ex hq0; simp only [ints_LI, bys_LB, blks_LK, lls_LL] at hp0 ⊢; exact (spec_fsize _ _ _ hp0).lift rfl _
  · cases h

theorem spec_rfsize (fk fr : Int) (fm : List Int) (hm : fm.length ≤ 1000000) : Spec Tryz.prog 0 28 [.agg [.d (.int .i64 fk), .d (.int .i64 fr), .d (.list (LI .i64 fm))]] [] [] (vI .i64 (fmZ ⟨fk, fr, fm⟩)) [] [] := by
  refine spec_of_E (X := ⟨Tryz.prog, tt, Tryz.f28.ntmps, 1, fun _ => 0, (tab [(24, E_rfits), (57, E_rsize)])⟩) (M := []) (m := 39) rfl rfl ⟨tt_ok, tab_ok (tabs_cons E_rfits_ok (tabs_cons E_rsize_ok tabs_nil)) _ rfl rfl⟩ tt_mixed Tryz.func28 rfl (by decide) (by show (1 : Nat) ≤ _; exact Nat.le_of_ble_eq_true rfl) ⟨fun m hm => (V.bare_has rfl m hm).elim, by simp, by simp⟩ ?_
  simp only [↓gPre, gPost, gCore, gDef, Nat.reduceShiftRight, Nat.reduceMod, if_true, if_false, ↓reduceIte, reduceCtorEq, Nat.reduceEqDiff, Nat.reduceLT, Nat.reduceLeDiff, implies_true, forall_const, eq_self, ne_eq, not_true_eq_false, not_false_eq_true, imp_self, Nat.reduceAdd, Nat.reduceMul, Int.reduceLE, Int.reduceLT, Int.reduceNeg, Int.reduceAdd, Int.reduceToNat, E_rfits_eq, E_rsize_eq, ph_eta, rs_eta, fm_eta, cv_eta, cvtD_eq, cvtC_eq, Tryz.ntmps28, Tryz.results28, gTT]
  refine ⟨hm, fun h => by simp [fmZ, h], fun h => ⟨by kernel_rfl, ?_⟩⟩
  have hv : fmV ⟨fk, fr, fm⟩ = true := by simpa using h
  have hb := fm_big hv
  simp only at hb
  rw [IntWalk.i64_in _ (by omega)]
  exact if_pos hv
def E_rfsize : List V → Boxes → Toks → Name → Option Ent
  | [.agg [.d (.int .i64 fk), .d (.int .i64 fr), .d (.list q_fm)]], [], [], _ => some ⟨(ints q_fm).length ≤ 1000000 ∧ q_fm = LI .i64 (ints q_fm), vI .i64 (fmZ ⟨fk, fr, (ints q_fm)⟩), [], []⟩
  | _, _, _, _ => none
def E_rfsize_eq := And.intro (@E_rfsize.eq_1) (@E_rfsize.eq_1)
theorem E_rfsize_ok : Snd Tryz.prog 28 E_rfsize := by
  intro vs b k n e h hn hp
  unfold E_rfsize at h
  split at h
  · cases h; obtain ⟨hp0, hq0⟩ := hp; obtain ⟨_, rfl⟩ := LI_ex hq0; simp only [ints_LI, bys_LB, blks_LK, lls_LL] at hp0 ⊢; exact (spec_rfsize _ _ _ hp0).lift rfl _
  · cases h

theorem spec_cown (fk fr : Int) (fm : List Int) (hm : fm.length ≤ 1000000) : Spec Tryz.prog 0 20 [.agg [.d (.int .i64 fk), .d (.int .i64 fr), .d (.list (LI .i64 fm))]] [] [] (.agg [.d (.int .i64 fk), .d (.int .i64 fr), .d (.list (LI .i64 fm))]) [] [] := by
  refine spec_of_E (X := ⟨Tryz.prog, tt, Tryz.f20.ntmps, 1, fun _ => 0, (tab [(29, E_clone64)])⟩) (M := []) (m := 7) rfl rfl ⟨tt_ok, tab_ok (tabs_cons E_clone64_ok tabs_nil) _ rfl rfl⟩ tt_mixed Tryz.func20 rfl (by decide) (by show (1 : Nat) ≤ _; exact Nat.le_of_ble_eq_true rfl) ⟨fun m hm => (V.bare_has rfl m hm).elim, by simp, by simp⟩ ?_
  simp only [↓gPre, gPost, gCore, gDef, Nat.reduceShiftRight, Nat.reduceMod, if_true, if_false, ↓reduceIte, reduceCtorEq, Nat.reduceEqDiff, Nat.reduceLT, Nat.reduceLeDiff, implies_true, forall_const, eq_self, ne_eq, not_true_eq_false, not_false_eq_true, imp_self, Nat.reduceAdd, Nat.reduceMul, Int.reduceLE, Int.reduceLT, Int.reduceNeg, Int.reduceAdd, Int.reduceToNat, E_clone64_eq, ph_eta, rs_eta, fm_eta, cv_eta, cvtD_eq, cvtC_eq, Tryz.ntmps20, Tryz.results20, gTT]
  omega
def E_cown : List V → Boxes → Toks → Name → Option Ent
  | [.agg [.d (.int .i64 fk), .d (.int .i64 fr), .d (.list q_fm)]], [], [], _ => some ⟨(ints q_fm).length ≤ 1000000 ∧ q_fm = LI .i64 (ints q_fm), .agg [.d (.int .i64 fk), .d (.int .i64 fr), .d (.list (LI .i64 (ints q_fm)))], [], []⟩
  | _, _, _, _ => none
def E_cown_eq := And.intro (@E_cown.eq_1) (@E_cown.eq_1)
theorem E_cown_ok : Snd Tryz.prog 20 E_cown := by
  intro vs b k n e h hn hp
  unfold E_cown at h
  split at h
  · cases h; obtain ⟨hp0, hq0⟩ := hp; obtain ⟨_, rfl⟩ := LI_ex hq0; simp only [ints_LI, bys_LB, blks_LK, lls_LL] at hp0 ⊢; exact (spec_cown _ _ _ hp0).lift rfl _
  · cases h

theorem spec_cnew (fk fr : Int) (fm : List Int) (tk tr : Int) (tm : List Int) (hm : fm.length ≤ 1000000) (ht : tm.length ≤ 1000000) : Spec Tryz.prog 0 7 [.agg [.d (.int .i64 fk), .d (.int .i64 fr), .d (.list (LI .i64 fm))], .agg [.d (.int .i64 tk), .d (.int .i64 tr), .d (.list (LI .i64 tm))]] [] [] (.tup [.agg (cvtD (cnR ⟨fk, fr, fm⟩ ⟨tk, tr, tm⟩)), .int .i64 (cnE ⟨fk, fr, fm⟩ ⟨tk, tr, tm⟩)]) [] [] := by
  refine spec_of_E (X := ⟨Tryz.prog, tt, Tryz.f7.ntmps, 1, fun _ => 0, (tab [(19, E_fits), (20, E_cown), (21, E_dflt), (22, E_rmake), (23, E_rsnew)])⟩) (M := []) (m := 65791) rfl rfl ⟨tt_ok, tab_ok (tabs_cons E_fits_ok (tabs_cons E_cown_ok (tabs_cons E_dflt_ok (tabs_cons E_rmake_ok (tabs_cons E_rsnew_ok tabs_nil))))) _ rfl rfl⟩ tt_mixed Tryz.func7 rfl (by decide) (by show (2 : Nat) ≤ _; exact Nat.le_of_ble_eq_true rfl) ⟨fun m hm => (V.bare_has rfl m hm).elim, by simp, by simp⟩ ?_
  simp only [↓gPre, gPost, gCore, gDef, Nat.reduceShiftRight, Nat.reduceMod, if_true, if_false, ↓reduceIte, reduceCtorEq, Nat.reduceEqDiff, Nat.reduceLT, Nat.reduceLeDiff, implies_true, forall_const, eq_self, ne_eq, not_true_eq_false, not_false_eq_true, imp_self, Nat.reduceAdd, Nat.reduceMul, Int.reduceLE, Int.reduceLT, Int.reduceNeg, Int.reduceAdd, Int.reduceToNat, E_fits_eq, E_cown_eq, E_dflt_eq, E_rmake_eq, E_rsnew_eq, ph_eta, rs_eta, fm_eta, cv_eta, cvtD_eq, cvtC_eq, Tryz.ntmps7, Tryz.results7, gTT]
  refine ⟨hm, fun _ => ht, fun h => ?_, fun h => ⟨by kernel_rfl, hm, ht, ⟨hm, ht⟩, ⟨?_, ?_⟩, ?_⟩⟩
  · have e : cnE ⟨fk, fr, fm⟩ ⟨tk, tr, tm⟩ = 1 := by
      unfold cnE
      rw [if_neg]
      intro h2
      rw [Bool.and_eq_true] at h2
      rw [h2.1, h2.2] at h
      exact absurd h (by decide)
    simp [cnR, e, cv0, rs0, LI_nil]
  all_goals
    simp only [Bool.or_eq_false_iff, Bool.not_eq_false'] at h
    have hf := fm_in h.1
    have hg := fm_in h.2
    simp only at hf hg
  · omega
  · omega
  have e : cnE ⟨fk, fr, fm⟩ ⟨tk, tr, tm⟩ = 0 := by unfold cnE; rw [h.1, h.2]; rfl
  simp [cnR, e]
def E_cnew : List V → Boxes → Toks → Name → Option Ent
  | [.agg [.d (.int .i64 fk), .d (.int .i64 fr), .d (.list q_fm)], .agg [.d (.int .i64 tk), .d (.int .i64 tr), .d (.list q_tm)]], [], [], _ => some ⟨(ints q_fm).length ≤ 1000000 ∧ (ints q_tm).length ≤ 1000000 ∧ q_fm = LI .i64 (ints q_fm) ∧ q_tm = LI .i64 (ints q_tm), .tup [.agg (cvtD (cnR ⟨fk, fr, (ints q_fm)⟩ ⟨tk, tr, (ints q_tm)⟩)), .int .i64 (cnE ⟨fk, fr, (ints q_fm)⟩ ⟨tk, tr, (ints q_tm)⟩)], [], []⟩
  | _, _, _, _ => none
def E_cnew_eq := And.intro (@E_cnew.eq_1) (@E_cnew.eq_1)
theorem E_cnew_ok : Snd Tryz.prog 7 E_cnew := by
  intro vs b k n e h hn hp
  unfold E_cnew at h
  split at h
  · cases h; obtain ⟨hp0, hp1, hq0, hq1⟩ := hp; obtain ⟨_, rfl⟩ := LI_ex hq0; obtain ⟨_, rfl⟩ := LI_ex hq1; simp only [ints_LI, bys_LB, blks_LK, lls_LL] at hp0 hp1 ⊢; exact (spec_cnew _ _ _ _ _ _ hp0 hp1).lift rfl _
  · cases h

theorem spec_rcnew (fk fr : Int) (fm : List Int) (tk tr : Int) (tm : List Int) (hm : fm.length ≤ 1000000) (ht : tm.length ≤ 1000000) : Spec Tryz.prog 0 8 [.agg [.d (.int .i64 fk), .d (.int .i64 fr), .d (.list (LI .i64 fm))], .agg [.d (.int .i64 tk), .d (.int .i64 tr), .d (.list (LI .i64 tm))]] [] [] (.tup [.agg (cvtD (cnR ⟨fk, fr, fm⟩ ⟨tk, tr, tm⟩)), .int .i64 (cnE ⟨fk, fr, fm⟩ ⟨tk, tr, tm⟩)]) [] [] := by
  refine spec_of_E (X := ⟨Tryz.prog, tt, Tryz.f8.ntmps, 1, fun _ => 0, (tab [(24, E_rfits), (25, E_rdflt), (26, E_qmake), (27, E_rrsnew)])⟩) (M := []) (m := 65791) rfl rfl ⟨tt_ok, tab_ok (tabs_cons E_rfits_ok (tabs_cons E_rdflt_ok (tabs_cons E_qmake_ok (tabs_cons E_rrsnew_ok tabs_nil)))) _ rfl rfl⟩ tt_mixed Tryz.func8 rfl (by decide) (by show (2 : Nat) ≤ _; exact Nat.le_of_ble_eq_true rfl) ⟨fun m hm => (V.bare_has rfl m hm).elim, by simp, by simp⟩ ?_
  simp only [↓gPre, gPost, gCore, gDef, Nat.reduceShiftRight, Nat.reduceMod, if_true, if_false, ↓reduceIte, reduceCtorEq, Nat.reduceEqDiff, Nat.reduceLT, Nat.reduceLeDiff, implies_true, forall_const, eq_self, ne_eq, not_true_eq_false, not_false_eq_true, imp_self, Nat.reduceAdd, Nat.reduceMul, Int.reduceLE, Int.reduceLT, Int.reduceNeg, Int.reduceAdd, Int.reduceToNat, E_rfits_eq, E_rdflt_eq, E_qmake_eq, E_rrsnew_eq, ph_eta, rs_eta, fm_eta, cv_eta, cvtD_eq, cvtC_eq, Tryz.ntmps8, Tryz.results8, gTT]
  refine ⟨hm, fun _ => ht, fun h => ?_, fun h => ⟨⟨hm, ht⟩, ⟨?_, ?_⟩, ?_⟩⟩
  · have e : cnE ⟨fk, fr, fm⟩ ⟨tk, tr, tm⟩ = 1 := by
      unfold cnE
      rw [if_neg]
      intro h2
      rw [Bool.and_eq_true] at h2
      rw [h2.1, h2.2] at h
      exact absurd h (by decide)
    simp [cnR, e, cv0, rs0, LI_nil]
  all_goals
    simp only [Bool.or_eq_false_iff, Bool.not_eq_false'] at h
    have hf := fm_in h.1
    have hg := fm_in h.2
    simp only at hf hg
  · omega
  · omega
  have e : cnE ⟨fk, fr, fm⟩ ⟨tk, tr, tm⟩ = 0 := by unfold cnE; rw [h.1, h.2]; rfl
  simp [cnR, e]
def E_rcnew : List V → Boxes → Toks → Name → Option Ent
  | [.agg [.d (.int .i64 fk), .d (.int .i64 fr), .d (.list q_fm)], .agg [.d (.int .i64 tk), .d (.int .i64 tr), .d (.list q_tm)]], [], [], _ => some ⟨(ints q_fm).length ≤ 1000000 ∧ (ints q_tm).length ≤ 1000000 ∧ q_fm = LI .i64 (ints q_fm) ∧ q_tm = LI .i64 (ints q_tm), .tup [.agg (cvtD (cnR ⟨fk, fr, (ints q_fm)⟩ ⟨tk, tr, (ints q_tm)⟩)), .int .i64 (cnE ⟨fk, fr, (ints q_fm)⟩ ⟨tk, tr, (ints q_tm)⟩)], [], []⟩
  | _, _, _, _ => none
def E_rcnew_eq := And.intro (@E_rcnew.eq_1) (@E_rcnew.eq_1)
theorem E_rcnew_ok : Snd Tryz.prog 8 E_rcnew := by
  intro vs b k n e h hn hp
  unfold E_rcnew at h
  split at h
  · cases h; obtain ⟨hp0, hp1, hq0, hq1⟩ := hp; obtain ⟨_, rfl⟩ := LI_ex hq0; obtain ⟨_, rfl⟩ := LI_ex hq1; simp only [ints_LI, bys_LB, blks_LK, lls_LL] at hp0 hp1 ⊢; exact (spec_rcnew _ _ _ _ _ _ hp0 hp1).lift rfl _
  · cases h

theorem spec_cvvalid (fk fr : Int) (fm : List Int) (tk tr : Int) (tm : List Int) (mi mo : Int) (mc : List Int) (c n d a p f : Int) (l : List Int) (hfm : fm.length ≤ 1000000) (htm : tm.length ≤ 1000000) (hmc : mc.length ≤ 1000000) (hl : l.length ≤ 1000000) : Spec Tryz.prog 0 15 [.agg (cvtC ⟨⟨fk, fr, fm⟩, ⟨tk, tr, tm⟩, mi, mo, mc, ⟨c, ⟨n, d, a, p, f⟩, l⟩⟩)] [] [] (vB (cvV ⟨⟨fk, fr, fm⟩, ⟨tk, tr, tm⟩, mi, mo, mc, ⟨c, ⟨n, d, a, p, f⟩, l⟩⟩)) [] [] := by
  refine spec_of_E (X := ⟨Tryz.prog, tt, Tryz.f15.ntmps, 1, fun _ => 0, (tab [(7, E_cnew), (45, E_sequal), (46, E_rsvalid)])⟩) (M := [(2, [0, 0, 0, 0, 0, 147573952589676183583, 0, 0, 0, 0, 0, 147573952589659635743, 0, 0, 0, 0, 0, 147573952588753666079, 0, 0, 0, 0, 0, 147573952529546870815, 0, 0, 0, 0, 0, 147573948191629901855, 0, 0, 0, 0, 0, 147573811852188057631, 0, 0, 0, 0, 0, 147556078928655286303, 0, 0, 0, 0, 0, 146493088679107493919, 0, 0, 0, 0, 0, 73786976294838206495, 0])]) (m := 31) rfl rfl ⟨tt_ok, tab_ok (tabs_cons E_cnew_ok (tabs_cons E_sequal_ok (tabs_cons E_rsvalid_ok tabs_nil))) _ rfl rfl⟩ tt_mixed Tryz.func15 rfl (by decide) (by show (1 : Nat) ≤ _; exact Nat.le_of_ble_eq_true rfl) ⟨fun m hm => (V.bare_has rfl m hm).elim, by simp, by simp⟩ ?_
  simp only [↓gPre, gPost, gCore, gDef, Nat.reduceShiftRight, Nat.reduceMod, if_true, if_false, ↓reduceIte, reduceCtorEq, Nat.reduceEqDiff, Nat.reduceLT, Nat.reduceLeDiff, implies_true, forall_const, eq_self, ne_eq, not_true_eq_false, not_false_eq_true, imp_self, Nat.reduceAdd, Nat.reduceMul, Int.reduceLE, Int.reduceLT, Int.reduceNeg, Int.reduceAdd, Int.reduceToNat, E_cnew_eq, E_sequal_eq, E_rsvalid_eq, ph_eta, rs_eta, fm_eta, cv_eta, cvtD_eq, cvtC_eq, Tryz.ntmps15, Tryz.results15, gTT]
  exact ⟨⟨hfm, htm⟩, fun _ => by omega, fun _ => hl, rfl⟩
def E_cvvalid : List V → Boxes → Toks → Name → Option Ent
  | [.agg [.d (.int .i64 fk), .d (.int .i64 fr), .d (.list q_fm), .d (.int .i64 tk), .d (.int .i64 tr), .d (.list q_tm), .d (.int .i64 mi), .d (.int .i64 mo), .d (.list q_mc), .d (.int .i64 c), .d (.int .i64 n), .d (.int .i64 d), .d (.int .i64 a), .d (.int .i64 p), .d (.int .i64 f), .d (.list q_l)]], [], [], _ => some ⟨(ints q_fm).length ≤ 1000000 ∧ (ints q_tm).length ≤ 1000000 ∧ (ints q_mc).length ≤ 1000000 ∧ (ints q_l).length ≤ 1000000 ∧ q_fm = LI .i64 (ints q_fm) ∧ q_tm = LI .i64 (ints q_tm) ∧ q_mc = LI .i64 (ints q_mc) ∧ q_l = LI .i32 (ints q_l), vB (cvV ⟨⟨fk, fr, (ints q_fm)⟩, ⟨tk, tr, (ints q_tm)⟩, mi, mo, (ints q_mc), ⟨c, ⟨n, d, a, p, f⟩, (ints q_l)⟩⟩), [], []⟩
  | _, _, _, _ => none
def E_cvvalid_eq := And.intro (@E_cvvalid.eq_1) (@E_cvvalid.eq_1)
theorem E_cvvalid_ok : Snd Tryz.prog 15 E_cvvalid := by
  intro vs b k n e h hn hp
  unfold E_cvvalid at h
  split at h
  · cases h; obtain ⟨hp0, hp1, hp2, hp3, hq0, hq1, hq2, hq3⟩ := hp; obtain ⟨_, rfl⟩ := LI_ex hq0; obtain ⟨_, rfl⟩ := LI_ex hq1; obtain ⟨_, rfl⟩ := LI_ex hq2; obtain ⟨_, rfl⟩ := LI_ex hq3; simp only [ints_LI, bys_LB, blks_LK, lls_LL] at hp0 hp1 hp2 hp3 ⊢; exact (spec_cvvalid _ _ _ _ _ _ _ _ _ _ _ _ _ _ _ _ hp0 hp1 hp2 hp3).lift rfl _
  · cases h

theorem spec_rcvvalid (fk fr : Int) (fm : List Int) (tk tr : Int) (tm : List Int) (mi mo : Int) (mc : List Int) (c n d a p f : Int) (l : List Int) (hfm : fm.length ≤ 1000000) (htm : tm.length ≤ 1000000) (hmc : mc.length ≤ 1000000) (hl : l.length ≤ 1000000) : Spec Tryz.prog 0 34 [.agg (cvtC ⟨⟨fk, fr, fm⟩, ⟨tk, tr, tm⟩, mi, mo, mc, ⟨c, ⟨n, d, a, p, f⟩, l⟩⟩)] [] [] (vB (cvV ⟨⟨fk, fr, fm⟩, ⟨tk, tr, tm⟩, mi, mo, mc, ⟨c, ⟨n, d, a, p, f⟩, l⟩⟩)) [] [] := by
  refine spec_of_E (X := ⟨Tryz.prog, tt, Tryz.f34.ntmps, 1, fun _ => 0, (tab [(8, E_rcnew), (40, E_same07), (63, E_rrsvalid)])⟩) (M := [(2, [0, 0, 0, 0, 0, 140737488257055, 0, 0, 0, 0, 0, 140737475772447, 0, 0, 0, 0, 0, 140736548831263, 0, 0, 0, 0, 0, 140668768878623, 0, 0, 0, 0, 0, 137507672948767, 0, 0, 0, 0, 0])]) (m := 31) rfl rfl ⟨tt_ok, tab_ok (tabs_cons E_rcnew_ok (tabs_cons E_same07_ok (tabs_cons E_rrsvalid_ok tabs_nil))) _ rfl rfl⟩ tt_mixed Tryz.func34 rfl (by decide) (by show (1 : Nat) ≤ _; exact Nat.le_of_ble_eq_true rfl) ⟨fun m hm => (V.bare_has rfl m hm).elim, by simp, by simp⟩ ?_
  simp only [↓gPre, gPost, gCore, gDef, Nat.reduceShiftRight, Nat.reduceMod, if_true, if_false, ↓reduceIte, reduceCtorEq, Nat.reduceEqDiff, Nat.reduceLT, Nat.reduceLeDiff, implies_true, forall_const, eq_self, ne_eq, not_true_eq_false, not_false_eq_true, imp_self, Nat.reduceAdd, Nat.reduceMul, Int.reduceLE, Int.reduceLT, Int.reduceNeg, Int.reduceAdd, Int.reduceToNat, E_rcnew_eq, E_same07_eq, E_rrsvalid_eq, ph_eta, rs_eta, fm_eta, cv_eta, cvtD_eq, cvtC_eq, Tryz.ntmps34, Tryz.results34, gTT]
  refine ⟨⟨hfm, htm⟩, fun _ => by omega, fun _ => hl, ?_⟩
  simp only [cvV, Bool.and_assoc]
def E_rcvvalid : List V → Boxes → Toks → Name → Option Ent
  | [.agg [.d (.int .i64 fk), .d (.int .i64 fr), .d (.list q_fm), .d (.int .i64 tk), .d (.int .i64 tr), .d (.list q_tm), .d (.int .i64 mi), .d (.int .i64 mo), .d (.list q_mc), .d (.int .i64 c), .d (.int .i64 n), .d (.int .i64 d), .d (.int .i64 a), .d (.int .i64 p), .d (.int .i64 f), .d (.list q_l)]], [], [], _ => some ⟨(ints q_fm).length ≤ 1000000 ∧ (ints q_tm).length ≤ 1000000 ∧ (ints q_mc).length ≤ 1000000 ∧ (ints q_l).length ≤ 1000000 ∧ q_fm = LI .i64 (ints q_fm) ∧ q_tm = LI .i64 (ints q_tm) ∧ q_mc = LI .i64 (ints q_mc) ∧ q_l = LI .i32 (ints q_l), vB (cvV ⟨⟨fk, fr, (ints q_fm)⟩, ⟨tk, tr, (ints q_tm)⟩, mi, mo, (ints q_mc), ⟨c, ⟨n, d, a, p, f⟩, (ints q_l)⟩⟩), [], []⟩
  | _, _, _, _ => none
def E_rcvvalid_eq := And.intro (@E_rcvvalid.eq_1) (@E_rcvvalid.eq_1)
theorem E_rcvvalid_ok : Snd Tryz.prog 34 E_rcvvalid := by
  intro vs b k n e h hn hp
  unfold E_rcvvalid at h
  split at h
  · cases h; obtain ⟨hp0, hp1, hp2, hp3, hq0, hq1, hq2, hq3⟩ := hp; obtain ⟨_, rfl⟩ := LI_ex hq0; obtain ⟨_, rfl⟩ := LI_ex hq1; obtain ⟨_, rfl⟩ := LI_ex hq2; obtain ⟨_, rfl⟩ := LI_ex hq3; simp only [ints_LI, bys_LB, blks_LK, lls_LL] at hp0 hp1 hp2 hp3 ⊢; exact (spec_rcvvalid _ _ _ _ _ _ _ _ _ _ _ _ _ _ _ _ hp0 hp1 hp2 hp3).lift rfl _
  · cases h

end Go.Vam
