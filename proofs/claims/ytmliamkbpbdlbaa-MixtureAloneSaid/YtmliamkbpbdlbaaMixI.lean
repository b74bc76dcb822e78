/- Limiters and lists of inputs from dice; sane. Conditions: none. -/
import Derived.Test.YtmliamkbpbdlbaaMixH
set_option linter.unusedVariables false
set_option linter.defProp false
set_option linter.unusedSimpArgs false
set_option maxRecDepth 40000
set_option maxHeartbeats 4000000
namespace Go.Vam
open Go.Proofs

def lmT (l : List UInt8) : Int := ([8388607, 1000000, 5] : List Int)[(dN l 3).toNat]?.getD 0
def lmR (l : List UInt8) : Int := ([1, 300, 65536] : List Int)[(dN (dT l 3) 3).toNat]?.getD 0
def lmD (l : List UInt8) : List UInt8 := dT (dT l 3) 3
def mdR (l : List UInt8) (ch fr : Int) : Nat → List UInt8
  | 0 => dT l 5
  | n + 1 => inR (mdR l ch fr n) ch fr
def mdL (l : List UInt8) (ch fr : Int) (n : Nat) : List Inp := (List.range n).map fun i => inV (mdR l ch fr i) ch fr
theorem mdL_succ (l : List UInt8) (ch fr : Int) (n : Nat) : mdL l ch fr (n + 1) = mdL l ch fr n ++ [inV (mdR l ch fr n) ch fr] := by simp [mdL, List.range_succ]
theorem mdL_len (l : List UInt8) (ch fr : Int) (n : Nat) : (mdL l ch fr n).length = n := by simp [mdL]
def oneV (v : Int) : Inp := ⟨1, [v], idN 1, idN 1, idO 1, 65536, 65536, 0, 0⟩
def keptX (x : Inp) : Bool := decide (x.l.length ≤ 300) && decide (x.m.length ≤ 100)

theorem spec_limit (l : List UInt8) : Spec Try.prog 0 12 [.c (.lp ⟨0, 0⟩ 0)] [(⟨0, 0⟩, [.d (.list (LB l))])] [] (.agg [.d (.int .i64 (newT (lmT l) (lmR l))), .d (.int .i64 (newR (lmT l) (lmR l))), .d (.int .i64 (newG (lmT l) (lmR l)))]) [(⟨0, 0⟩, [.d (.list (LB (lmD l)))])] [] := by
  refine spec_of_E (X := ⟨Try.prog, tt, Try.f12.ntmps, 1, fun _ => 0, (tab [(10, E_next), (18, E_rnew)])⟩) (M := [(1, [0, 0, 0, 0, 0, 523309, 0, 0, 0, 0, 0, 393261, 0, 0, 0, 0, 0])]) (m := 13) rfl rfl ⟨tt_ok, tab_ok (tabs_cons E_next_ok (tabs_cons E_rnew_ok tabs_nil)) _ rfl rfl⟩ tt_mixed Try.func12 rfl (by decide) (by show (1 : Nat) ≤ _; exact Nat.le_of_ble_eq_true rfl) ⟨by simp [V.has, C.has], by simp [C.has], by simp⟩ ?_
  simp only [↓gPre, gPost, gCore, gDef, Nat.reduceShiftRight, Nat.reduceMod, if_true, if_false, ↓reduceIte, reduceCtorEq, Nat.reduceEqDiff, Nat.reduceLT, Nat.reduceLeDiff, implies_true, forall_const, eq_self, ne_eq, not_true_eq_false, not_false_eq_true, imp_self, Nat.reduceAdd, Nat.reduceMul, Int.reduceLE, Int.reduceLT, Int.reduceNeg, Int.reduceAdd, Int.reduceToNat, E_next_eq, E_rnew_eq, LX_nil, LX_length, LX_getD, LX_append, LX_one, LX_cells, LX_inj, LX_nil_eq, LX_inps_LX, LX_take, LX_drop, inps_LX, Try.ntmps12, Try.results12, gTT]
  refine ⟨by kernel_rfl, ?_⟩
  exact ⟨⟨dN_ge _ _, dN_lt _ _ (by decide)⟩, ⟨dN_ge _ _, dN_lt _ _ (by decide)⟩, ⟨rfl, rfl, rfl⟩, rfl⟩
def E_limit : List V → Boxes → Toks → Name → Option Ent
  | [.c (.lp n0 0)], [(m0, [.d (.list q_l)])], [], _ => some ⟨n0.lv ≤ 1 ∧ m0 = n0 ∧ q_l = LB (bys q_l), .agg [.d (.int .i64 (newT (lmT (bys q_l)) (lmR (bys q_l)))), .d (.int .i64 (newR (lmT (bys q_l)) (lmR (bys q_l)))), .d (.int .i64 (newG (lmT (bys q_l)) (lmR (bys q_l))))], [(n0, [.d (.list (LB (lmD (bys q_l))))])], []⟩
  | _, _, _, _ => none
def E_limit_eq := And.intro (@E_limit.eq_1) (@E_limit.eq_1)
theorem E_limit_ok : Snd Try.prog 12 E_limit := by
  intro vs b k n e h hn hp
  unfold E_limit at h
  split at h
  · cases h; obtain ⟨hl0, rfl, hq0⟩ := hp; obtain ⟨_, rfl⟩ := LB_ex hq0; simp only [ints_LI, bys_LB, blks_LK, lls_LL]; exact Spec.ren1 (spec_limit _) 0 (by simp [supOK, V.names, C.names, namesB, namesK]) hl0 
  · cases h

theorem spec_one (v : Int) : Spec Try.prog 0 29 [vI .i32 v] [] [] (.agg [.d (.int .i64 1), .d (.list (LI .i32 [v])), .d (.int .i64 (idN 1)), .d (.int .i64 (idN 1)), .d (.list (LI .i64 (idO 1))), .d (.int .i64 65536), .d (.int .i64 65536), .d (.int .i64 0), .d (.int .i64 0)]) [] [] := by
  refine spec_of_E (X := ⟨Try.prog, tt, Try.f29.ntmps, 1, fun _ => 0, (tab [(16, E_ridentity)])⟩) (M := []) (m := 13) rfl rfl ⟨tt_ok, tab_ok (tabs_cons E_ridentity_ok tabs_nil) _ rfl rfl⟩ tt_mixed Try.func29 rfl (by decide) (by show (1 : Nat) ≤ _; exact Nat.le_of_ble_eq_true rfl) ⟨by simp [V.has, C.has], by simp [C.has], by simp⟩ ?_
  simp only [↓gPre, gPost, gCore, gDef, Nat.reduceShiftRight, Nat.reduceMod, if_true, if_false, ↓reduceIte, reduceCtorEq, Nat.reduceEqDiff, Nat.reduceLT, Nat.reduceLeDiff, implies_true, forall_const, eq_self, ne_eq, not_true_eq_false, not_false_eq_true, imp_self, Nat.reduceAdd, Nat.reduceMul, Int.reduceLE, Int.reduceLT, Int.reduceNeg, Int.reduceAdd, Int.reduceToNat, E_ridentity_eq, LX_nil, LX_length, LX_getD, LX_append, LX_one, LX_cells, LX_inj, LX_nil_eq, LX_inps_LX, LX_take, LX_drop, inps_LX, Try.ntmps29, Try.results29, gTT]

def E_one : List V → Boxes → Toks → Name → Option Ent
  | [.c (.d (.int .i32 v))], [], [], _ => some ⟨True, .agg [.d (.int .i64 1), .d (.list (LI .i32 [v])), .d (.int .i64 (idN 1)), .d (.int .i64 (idN 1)), .d (.list (LI .i64 (idO 1))), .d (.int .i64 65536), .d (.int .i64 65536), .d (.int .i64 0), .d (.int .i64 0)], [], []⟩
  | _, _, _, _ => none
def E_one_eq := And.intro (@E_one.eq_1) (@E_one.eq_1)
theorem E_one_ok : Snd Try.prog 29 E_one := by
  intro vs b k n e h hn hp
  unfold E_one at h
  split at h
  · cases h; exact (spec_one _).lift rfl _
  · cases h

theorem spec_made (l : List UInt8) (ch fr : Int) (hc : 1 ≤ ch ∧ ch ≤ 8) (hf : 0 ≤ fr ∧ fr ≤ 1000) : Spec Try.prog 0 11 [.c (.lp ⟨0, 0⟩ 0), vI .i64 ch, vI .i64 fr] [(⟨0, 0⟩, [.d (.list (LB l))])] [] (.c (.own ⟨0, 9⟩ (LX (mdL l ch fr (dN l 5).toNat)))) [(⟨0, 0⟩, [.d (.list (LB (mdR l ch fr (dN l 5).toNat)))])] [(⟨0, 9⟩, ⟨false, 9, (LX (mdL l ch fr (dN l 5).toNat))⟩)] := by
  refine spec_of_E_new (X := ⟨Try.prog, tt, Try.f11.ntmps, 1, fun _ => 0, (tab [(10, E_next), (13, E_minput)])⟩) (M := []) (m := 4551) (r0 := .c (.own ⟨1, 99⟩ (LX (mdL l ch fr (dN l 5).toNat)))) (b0 := [(⟨0, 0⟩, [.d (.list (LB (mdR l ch fr (dN l 5).toNat)))])]) (k0 := [(⟨1, 99⟩, ⟨false, 9, (LX (mdL l ch fr (dN l 5).toNat))⟩)]) ⟨1, 99⟩ ⟨0, 9⟩ rfl rfl ⟨tt_ok, tab_ok (tabs_cons E_next_ok (tabs_cons E_minput_ok tabs_nil)) _ rfl rfl⟩ tt_mixed Try.func11 rfl (by decide) (by show (3 : Nat) ≤ _; exact Nat.le_of_ble_eq_true rfl) rfl rfl rfl ⟨by simp [V.has, C.has], by simp [C.has], by simp⟩ (by decide) (by simp [V.names, C.names, namesB, namesK]) (by simp [lk]) (by simp [lk]) (by simp [lk]) ?_
  simp only [↓gPre, gPost, gCore, gDef, Nat.reduceShiftRight, Nat.reduceMod, if_true, if_false, ↓reduceIte, reduceCtorEq, Nat.reduceEqDiff, Nat.reduceLT, Nat.reduceLeDiff, implies_true, forall_const, eq_self, ne_eq, not_true_eq_false, not_false_eq_true, imp_self, Nat.reduceAdd, Nat.reduceMul, Int.reduceLE, Int.reduceLT, Int.reduceNeg, Int.reduceAdd, Int.reduceToNat, E_next_eq, E_minput_eq, LX_nil, LX_length, LX_getD, LX_append, LX_one, LX_cells, LX_inj, LX_nil_eq, LX_inps_LX, LX_take, LX_drop, inps_LX, Try.ntmps11, Try.results11, gTT]
  refine ELoop_nilT 7 9 ⟨1, 99⟩ rfl (by simp only [↓gPre, gPost, gCore, gDef, Nat.reduceShiftRight, Nat.reduceMod, if_true, if_false, ↓reduceIte, reduceCtorEq, Nat.reduceEqDiff, Nat.reduceLT, Nat.reduceLeDiff, implies_true, forall_const, eq_self, ne_eq, not_true_eq_false, not_false_eq_true, imp_self, Nat.reduceAdd, Nat.reduceMul, Int.reduceLE, Int.reduceLT, Int.reduceNeg, Int.reduceAdd, Int.reduceToNat, E_next_eq, E_minput_eq, LX_nil, LX_length, LX_getD, LX_append, LX_one, LX_cells, LX_inj, LX_nil_eq, LX_inps_LX, LX_take, LX_drop, inps_LX, Try.ntmps11, Try.results11, gTT]) (Nat.le_refl _) ?_
  simp only [↓gPre, gPost, gCore, gDef, Nat.reduceShiftRight, Nat.reduceMod, if_true, if_false, ↓reduceIte, reduceCtorEq, Nat.reduceEqDiff, Nat.reduceLT, Nat.reduceLeDiff, implies_true, forall_const, eq_self, ne_eq, not_true_eq_false, not_false_eq_true, imp_self, Nat.reduceAdd, Nat.reduceMul, Int.reduceLE, Int.reduceLT, Int.reduceNeg, Int.reduceAdd, Int.reduceToNat, E_next_eq, E_minput_eq, LX_nil, LX_length, LX_getD, LX_append, LX_one, LX_cells, LX_inj, LX_nil_eq, LX_inps_LX, LX_take, LX_drop, inps_LX, Try.ntmps11, Try.results11, gTT]
  have d0 := dN_ge l 5
  have d1 := dN_lt l 5 (by decide)
  refine ELoop_keep (fun g => ⟨[(7, .c (.own ⟨1, 99⟩ (LX (mdL l ch fr g)))), (8, vI .i64 (dN l 5 - (g : Nat)))], [(⟨0, 0⟩, [.d (.list (LB (mdR l ch fr g)))])], [(⟨1, 99⟩, ⟨false, 9, LX (mdL l ch fr g)⟩)]⟩) (fun g => (g : Int) ≤ dN l 5) (fun g => (dN l 5).toNat - g) (· + 1) 0 (by omega) ?_ ?_
  · simp only [↓gPre, gPost, gCore, gDef, Nat.reduceShiftRight, Nat.reduceMod, if_true, if_false, ↓reduceIte, reduceCtorEq, Nat.reduceEqDiff, Nat.reduceLT, Nat.reduceLeDiff, implies_true, forall_const, eq_self, ne_eq, not_true_eq_false, not_false_eq_true, imp_self, Nat.reduceAdd, Nat.reduceMul, Int.reduceLE, Int.reduceLT, Int.reduceNeg, Int.reduceAdd, Int.reduceToNat, E_next_eq, E_minput_eq, LX_nil, LX_length, LX_getD, LX_append, LX_one, LX_cells, LX_inj, LX_nil_eq, LX_inps_LX, LX_take, LX_drop, inps_LX, Try.ntmps11, Try.results11, gTT]
    simp [mdL, LX_nil, mdR]
  intro g hg
  simp only [↓gPre, gPost, gCore, gDef, Nat.reduceShiftRight, Nat.reduceMod, if_true, if_false, ↓reduceIte, reduceCtorEq, Nat.reduceEqDiff, Nat.reduceLT, Nat.reduceLeDiff, implies_true, forall_const, eq_self, ne_eq, not_true_eq_false, not_false_eq_true, imp_self, Nat.reduceAdd, Nat.reduceMul, Int.reduceLE, Int.reduceLT, Int.reduceNeg, Int.reduceAdd, Int.reduceToNat, E_next_eq, E_minput_eq, LX_nil, LX_length, LX_getD, LX_append, LX_one, LX_cells, LX_inj, LX_nil_eq, LX_inps_LX, LX_take, LX_drop, inps_LX, Try.ntmps11, Try.results11, gTT]
  have hl := mdL_len l ch fr g
  refine ⟨fun h1 => ?_, fun h1 => ?_⟩
  · rw [mdL_succ]
    have h2 := of_decide_eq_true h1
    exact ⟨⟨hc, hf⟩, by unfold roomOK; omega, ⟨⟨rfl, by rw [IntWalk.i64_in _ (by omega)]; omega⟩, rfl, rfl⟩, by omega, by omega⟩
  · have : (dN l 5).toNat = g := by have := of_decide_eq_false h1; omega
    rw [this]
    exact ⟨rfl, rfl, rfl⟩
def E_made : List V → Boxes → Toks → Name → Option Ent
  | [.c (.lp n0 0), .c (.d (.int .i64 ch)), .c (.d (.int .i64 fr))], [(m0, [.d (.list q_l)])], [], nF => some ⟨(1 ≤ ch ∧ ch ≤ 8) ∧ (0 ≤ fr ∧ fr ≤ 1000) ∧ n0.lv ≤ 1 ∧ m0 = n0 ∧ nF ≠ n0 ∧ q_l = LB (bys q_l), .c (.own nF (LX (mdL (bys q_l) ch fr (dN (bys q_l) 5).toNat))), [(n0, [.d (.list (LB (mdR (bys q_l) ch fr (dN (bys q_l) 5).toNat)))])], [(nF, ⟨false, 9, (LX (mdL (bys q_l) ch fr (dN (bys q_l) 5).toNat))⟩)]⟩
  | _, _, _, _ => none
def E_made_eq := And.intro (@E_made.eq_1) (@E_made.eq_1)
theorem E_made_ok : Snd Try.prog 11 E_made := by
  intro vs b k n e h hn hp
  unfold E_made at h
  split at h
  · cases h; obtain ⟨hp0, hp1, hl0, rfl, hd10, hq0⟩ := hp; obtain ⟨_, rfl⟩ := LB_ex hq0; simp only [ints_LI, bys_LB, blks_LK, lls_LL] at hp0 hp1 ⊢; exact Spec.ren2 (spec_made _ _ _ hp0 hp1) 0 9 (by simp [supOK, V.names, C.names, namesB, namesK]) hl0 (Nat.le_of_eq hn) hd10
  · cases h

theorem spec_keepi (xs : List Inp) (n : Int) (hx : xs.length ≤ 9223372036854775807) : Spec Try.prog 0 20 [vL (LX xs), vI .i64 n] [] [] (vB (xs.all keptX && decide ((xs.length : Int) ≤ n))) [] [] := by
  refine spec_of_E (X := ⟨Try.prog, tt, Try.f20.ntmps, 1, fun _ => 0, (tab [])⟩) (M := [(4, [0, 0, 0, 0, 0, 33294291, 0, 0, 0, 0, 0, 0])]) (m := 16779219) rfl rfl ⟨tt_ok, tab_ok tabs_nil _ rfl rfl⟩ tt_mixed Try.func20 rfl (by decide) (by show (2 : Nat) ≤ _; exact Nat.le_of_ble_eq_true rfl) ⟨fun m hm => (V.bare_has rfl m hm).elim, by simp, by simp⟩ ?_
  simp only [↓gPre, gPost, gCore, gDef, Nat.reduceShiftRight, Nat.reduceMod, if_true, if_false, ↓reduceIte, reduceCtorEq, Nat.reduceEqDiff, Nat.reduceLT, Nat.reduceLeDiff, implies_true, forall_const, eq_self, ne_eq, not_true_eq_false, not_false_eq_true, imp_self, Nat.reduceAdd, Nat.reduceMul, Int.reduceLE, Int.reduceLT, Int.reduceNeg, Int.reduceAdd, Int.reduceToNat, LX_nil, LX_length, LX_getD, LX_append, LX_one, LX_cells, LX_inj, LX_nil_eq, LX_inps_LX, LX_take, LX_drop, inps_LX, Try.ntmps20, Try.results20, gTT]
  refine ELoop_keep (fun g => ⟨[(9, vI .i64 (g : Nat))], [], []⟩) (fun g => g ≤ xs.length ∧ (xs.take g).all keptX = true) (fun g => xs.length - g) (· + 1) 0 ⟨Nat.zero_le _, rfl⟩ ?_ ?_
  · simp only [↓gPre, gPost, gCore, gDef, Nat.reduceShiftRight, Nat.reduceMod, if_true, if_false, ↓reduceIte, reduceCtorEq, Nat.reduceEqDiff, Nat.reduceLT, Nat.reduceLeDiff, implies_true, forall_const, eq_self, ne_eq, not_true_eq_false, not_false_eq_true, imp_self, Nat.reduceAdd, Nat.reduceMul, Int.reduceLE, Int.reduceLT, Int.reduceNeg, Int.reduceAdd, Int.reduceToNat, LX_nil, LX_length, LX_getD, LX_append, LX_one, LX_cells, LX_inj, LX_nil_eq, LX_inps_LX, LX_take, LX_drop, inps_LX, Try.ntmps20, Try.results20, gTT]
    rfl
  rintro g ⟨hg, hok⟩
  simp only [↓gPre, gPost, gCore, gDef, Nat.reduceShiftRight, Nat.reduceMod, if_true, if_false, ↓reduceIte, reduceCtorEq, Nat.reduceEqDiff, Nat.reduceLT, Nat.reduceLeDiff, implies_true, forall_const, eq_self, ne_eq, not_true_eq_false, not_false_eq_true, imp_self, Nat.reduceAdd, Nat.reduceMul, Int.reduceLE, Int.reduceLT, Int.reduceNeg, Int.reduceAdd, Int.reduceToNat, LX_nil, LX_length, LX_getD, LX_append, LX_one, LX_cells, LX_inj, LX_nil_eq, LX_inps_LX, LX_take, LX_drop, inps_LX, Try.ntmps20, Try.results20, gTT]
  refine ⟨fun h1 => ?_, fun h1 => ?_⟩
  · have hgl : g < xs.length := by have := of_decide_eq_true h1; omega
    have hgx : xs[g]?.getD inp0 = xs[g] := by rw [List.getElem?_eq_getElem hgl]; rfl
    rw [hgx]
    refine ⟨by omega, fun h2 => ?_, fun h2 => ?_⟩
    · have : keptX xs[g] = false := by
        simp only [Bool.or_eq_true, decide_eq_true_eq] at h2
        simp only [keptX, Bool.and_eq_false_iff, decide_eq_false_iff_not]
        omega
      have : xs.all keptX = false := by rw [List.all_eq_false]; exact ⟨xs[g], List.getElem_mem hgl, by simp [this]⟩
      rw [this]; rfl
    · have hx2 : keptX xs[g] = true := by
        simp only [Bool.or_eq_false_iff, decide_eq_false_iff_not] at h2
        simp only [keptX, Bool.and_eq_true, decide_eq_true_eq]
        omega
      refine ⟨(wrapN _ (by omega)).symm, ⟨by omega, ?_⟩, by omega⟩
      rw [List.take_add_one, List.getElem?_eq_getElem hgl, List.all_append, hok]
      simpa using hx2
  · have : g = xs.length := by have := of_decide_eq_false h1; omega
    rw [this, List.take_length] at hok
    rw [hok]
    rfl
def E_keepi : List V → Boxes → Toks → Name → Option Ent
  | [.c (.d (.list q_xs)), .c (.d (.int .i64 n))], [], [], _ => some ⟨(inps q_xs).length ≤ 9223372036854775807 ∧ q_xs = LX (inps q_xs), vB ((inps q_xs).all keptX && decide (((inps q_xs).length : Int) ≤ n)), [], []⟩
  | _, _, _, _ => none
def E_keepi_eq := And.intro (@E_keepi.eq_1) (@E_keepi.eq_1)
theorem E_keepi_ok : Snd Try.prog 20 E_keepi := by
  intro vs b k n e h hn hp
  unfold E_keepi at h
  split at h
  · cases h; obtain ⟨hp0, hq0⟩ := hp; obtain ⟨_, rfl⟩ := LX_ex hq0; simp only [ints_LI, bys_LB, blks_LK, lls_LL, inps_LX] at hp0 ⊢; exact (spec_keepi _ _ hp0).lift rfl _
  · cases h

theorem spec_sane  : Spec Try.prog 0 8 [] [] [] (vB true) [] [] := by
  refine spec_of_E (X := ⟨Try.prog, tt, Try.f8.ntmps, 1, fun _ => 0, (tab [(18, E_rnew), (29, E_one), (19, E_psum), (14, E_mix)])⟩) (M := [(3, [0, 0, 0, 0, 0, 235405563, 0, 0, 0, 0, 0, 201326843, 0, 0]), (4, [0, 0, 0, 0, 0, 9223372028264841467, 0, 0, 0, 0, 0, 9223371487098962171, 0, 0, 0, 0, 0, 9223336852482687227, 0, 0, 0, 0, 0, 9221120237041090811, 0, 0, 0, 0, 0, 9079256848778920187, 0, 0, 0, 0, 0, 0])]) (m := 251) rfl rfl ⟨tt_ok, tab_ok (tabs_cons E_rnew_ok (tabs_cons E_one_ok (tabs_cons E_psum_ok (tabs_cons E_mix_ok tabs_nil)))) _ rfl rfl⟩ tt_mixed Try.func8 rfl (by decide) (by show (0 : Nat) ≤ _; exact Nat.le_of_ble_eq_true rfl) ⟨fun m hm => (V.bare_has rfl m hm).elim, by simp, by simp⟩ ?_
  simp only [↓gPre, gPost, gCore, gDef, Nat.reduceShiftRight, Nat.reduceMod, if_true, if_false, ↓reduceIte, reduceCtorEq, Nat.reduceEqDiff, Nat.reduceLT, Nat.reduceLeDiff, implies_true, forall_const, eq_self, ne_eq, not_true_eq_false, not_false_eq_true, imp_self, Nat.reduceAdd, Nat.reduceMul, Int.reduceLE, Int.reduceLT, Int.reduceNeg, Int.reduceAdd, Int.reduceToNat, E_rnew_eq, E_one_eq, E_psum_eq, E_mix_eq, LX_nil, LX_length, LX_getD, LX_append, LX_one, LX_cells, LX_inj, LX_nil_eq, LX_inps_LX, LX_take, LX_drop, inps_LX, Try.ntmps8, Try.results8, gTT]
  have hk : keptI [oneV 6000000, oneV 6000000] := by
    intro x hx
    simp only [List.mem_cons, List.not_mem_nil, or_false, or_self] at hx
    subst hx
    decide +kernel
  have hI : inps [.agg [.int .i64 1, .list [.int .i32 6000000], .int .i64 (idN 1), .int .i64 (idN 1), .list (LI .i64 (idO 1)), .int .i64 65536, .int .i64 65536, .int .i64 0, .int .i64 0], .agg [.int .i64 1, .list [.int .i32 6000000], .int .i64 (idN 1), .int .i64 (idN 1), .list (LI .i64 (idO 1)), .int .i64 65536, .int .i64 65536, .int .i64 0, .int .i64 0]] = [oneV 6000000, oneV 6000000] := rfl
  refine ⟨⟨hk, rfl⟩, by kernel_rfl, ⟨hk, rfl⟩, ?_⟩
  simp only [hI]
  decide +kernel
def E_sane : List V → Boxes → Toks → Name → Option Ent
  | [], [], [], _ => some ⟨True, vB true, [], []⟩
  | _, _, _, _ => none
def E_sane_eq := And.intro (@E_sane.eq_1) (@E_sane.eq_1)
theorem E_sane_ok : Snd Try.prog 8 E_sane := by
  intro vs b k n e h hn hp
  unfold E_sane at h
  split at h
  · cases h; exact (spec_sane ).lift rfl _
  · cases h

end Go.Vam
