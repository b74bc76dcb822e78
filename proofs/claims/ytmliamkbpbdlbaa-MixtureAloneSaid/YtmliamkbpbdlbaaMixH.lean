/- Inputs from dice. Conditions: none. -/
import Derived.Test.YtmliamkbpbdlbaaMixG
set_option linter.unusedVariables false
set_option linter.defProp false
set_option linter.unusedSimpArgs false
set_option maxRecDepth 40000
set_option maxHeartbeats 4000000
namespace Go.Vam
open Go.Proofs

def mkC (l : List UInt8) : Int := ([0, 32768, 23170, -32768, 131072, -131072, 1, dN l 256 * 128] : List Int)[(dN (dT l 256) 8).toNat]?.getD 0
def mkR (l : List UInt8) : Nat → List UInt8
  | 0 => l
  | n + 1 => dT (dT (mkR l n) 256) 8
def mkL (l : List UInt8) (n : Nat) : List Int := (List.range n).map fun i => mkC (mkR l i)
theorem mkL_succ (l : List UInt8) (n : Nat) : mkL l (n + 1) = mkL l n ++ [mkC (mkR l n)] := by simp [mkL, List.range_succ]
theorem mkL_len (l : List UInt8) (n : Nat) : (mkL l n).length = n := by simp [mkL]
def mapsL : List (List Int) := [[3], [1, 2], [1, 2, 3, 4, 5, 6], [2, 1], [1, 2, 7, 8], [4], [1, 3]]
def mapV (l : List UInt8) : List Int := mapsL[(dN l 7).toNat]?.getD []

def gainsL : List Int := [65536, 0, 1, 262144, 32768, 65535, 70000]
def rF (l : List UInt8) : Int := gainsL[(dN l 7).toNat]?.getD 0
def rT (l : List UInt8) : Int := gainsL[(dN (dT l 7) 7).toNat]?.getD 0
def rN (l : List UInt8) : Int := dN (dT (dT l 7) 7) 12
def rA (l : List UInt8) : Int := dN (dT (dT (dT l 7) 7) 12) (rN l + 1)
def rR (l : List UInt8) : List UInt8 := dT (dT (dT (dT l 7) 7) 12) (rN l + 1)
theorem gainsL_in (n : Nat) : 0 ≤ gainsL[n]?.getD 0 ∧ gainsL[n]?.getD 0 ≤ 262144 := by
  match n with
  | 0 => decide
  | 1 => decide
  | 2 => decide
  | 3 => decide
  | 4 => decide
  | 5 => decide
  | 6 => decide
  | n + 7 => exact ⟨by simp [gainsL], by simp [gainsL]⟩
theorem rN_in (l : List UInt8) : 0 ≤ rN l ∧ rN l < 12 := ⟨dN_ge _ _, dN_lt _ _ (by decide)⟩
theorem rA_in (l : List UInt8) : 0 ≤ rA l ∧ rA l ≤ rN l := ⟨dN_ge _ _, by have := rN_in l; have := dN_lt (dT (dT (dT l 7) 7) 12) (rN l + 1) (by omega); unfold rA; omega⟩
theorem rF_in (l : List UInt8) : 0 ≤ rF l ∧ rF l ≤ 262144 := gainsL_in _
theorem rT_in (l : List UInt8) : 0 ≤ rT l ∧ rT l ≤ 262144 := gainsL_in _

theorem spec_ramp (l : List UInt8) : Spec Try.prog 0 31 [.c (.lp ⟨0, 0⟩ 0)] [(⟨0, 0⟩, [.d (.list (LB l))])] [] (.agg [.d (.int .i64 (rF l)), .d (.int .i64 (rT l)), .d (.int .i64 (rN l)), .d (.int .i64 (rA l))]) [(⟨0, 0⟩, [.d (.list (LB (rR l)))])] [] := by
  refine spec_of_E (X := ⟨Try.prog, tt, Try.f31.ntmps, 1, fun _ => 0, (tab [(10, E_next)])⟩) (M := [(2, [0, 0, 0, 0, 0, 523293, 0, 0, 0, 0, 0, 427037, 0, 0, 0])]) (m := 29) rfl rfl ⟨tt_ok, tab_ok (tabs_cons E_next_ok tabs_nil) _ rfl rfl⟩ tt_mixed Try.func31 rfl (by decide) (by show (1 : Nat) ≤ _; exact Nat.le_of_ble_eq_true rfl) ⟨by simp [V.has, C.has], by simp [C.has], by simp⟩ ?_
  simp only [↓gPre, gPost, gCore, gDef, Nat.reduceShiftRight, Nat.reduceMod, if_true, if_false, ↓reduceIte, reduceCtorEq, Nat.reduceEqDiff, Nat.reduceLT, Nat.reduceLeDiff, implies_true, forall_const, eq_self, ne_eq, not_true_eq_false, not_false_eq_true, imp_self, Nat.reduceAdd, Nat.reduceMul, Int.reduceLE, Int.reduceLT, Int.reduceNeg, Int.reduceAdd, Int.reduceToNat, E_next_eq, LX_nil, LX_length, LX_getD, LX_append, LX_one, LX_cells, LX_inj, LX_nil_eq, LX_inps_LX, LX_take, LX_drop, inps_LX, Try.ntmps31, Try.results31, gTT]
  refine ⟨by kernel_rfl, ⟨dN_ge _ _, dN_lt _ _ (by decide)⟩, ⟨dN_ge _ _, dN_lt _ _ (by decide)⟩, ?_⟩
  have e : IntKind.i64.wrap (dN (dT (dT l 7) 7) 12 + 1) = rN l + 1 := IntWalk.i64_in _ (by have := rN_in l; unfold rN at this; omega)
  rw [e]
  
  exact ⟨⟨rfl, rfl, rfl, rfl⟩, rfl⟩
def E_ramp : List V → Boxes → Toks → Name → Option Ent
  | [.c (.lp n0 0)], [(m0, [.d (.list q_l)])], [], _ => some ⟨n0.lv ≤ 1 ∧ m0 = n0 ∧ q_l = LB (bys q_l), .agg [.d (.int .i64 (rF (bys q_l))), .d (.int .i64 (rT (bys q_l))), .d (.int .i64 (rN (bys q_l))), .d (.int .i64 (rA (bys q_l)))], [(n0, [.d (.list (LB (rR (bys q_l))))])], []⟩
  | _, _, _, _ => none
def E_ramp_eq := And.intro (@E_ramp.eq_1) (@E_ramp.eq_1)
theorem E_ramp_ok : Snd Try.prog 31 E_ramp := by
  intro vs b k n e h hn hp
  unfold E_ramp at h
  split at h
  · cases h; obtain ⟨hl0, rfl, hq0⟩ := hp; obtain ⟨_, rfl⟩ := LB_ex hq0; simp only [ints_LI, bys_LB, blks_LK, lls_LL]; exact Spec.ren1 (spec_ramp _) 0 (by simp [supOK, V.names, C.names, namesB, namesK]) hl0 
  · cases h

theorem spec_rnew (t r : Int) : Spec Try.prog 0 18 [vI .i64 t, vI .i64 r] [] [] (.tup [.agg [.int .i64 (newT t r), .int .i64 (newR t r), .int .i64 (newG t r)], .int .i64 (newX t r)]) [] [] := by
  refine spec_of_E (X := ⟨Try.prog, tt, Try.f18.ntmps, 1, fun _ => 0, (tab [(35, E_lrvalid)])⟩) (M := []) (m := 4211) rfl rfl ⟨tt_ok, tab_ok (tabs_cons E_lrvalid_ok tabs_nil) _ rfl rfl⟩ tt_mixed Try.func18 rfl (by decide) (by show (2 : Nat) ≤ _; exact Nat.le_of_ble_eq_true rfl) ⟨fun m hm => (V.bare_has rfl m hm).elim, by simp, by simp⟩ ?_
  simp only [↓gPre, gPost, gCore, gDef, Nat.reduceShiftRight, Nat.reduceMod, if_true, if_false, ↓reduceIte, reduceCtorEq, Nat.reduceEqDiff, Nat.reduceLT, Nat.reduceLeDiff, implies_true, forall_const, eq_self, ne_eq, not_true_eq_false, not_false_eq_true, imp_self, Nat.reduceAdd, Nat.reduceMul, Int.reduceLE, Int.reduceLT, Int.reduceNeg, Int.reduceAdd, Int.reduceToNat, E_lrvalid_eq, LX_nil, LX_length, LX_getD, LX_append, LX_one, LX_cells, LX_inj, LX_nil_eq, LX_inps_LX, LX_take, LX_drop, inps_LX, Try.ntmps18, Try.results18, gTT]
  refine ⟨fun h => ?_, fun h => ?_⟩
  · simp [newT, newR, newG, newX, h]
  · have h : validL t r 65536 = true := by simpa using h
    simp [newT, newR, newG, newX, h]
def E_rnew : List V → Boxes → Toks → Name → Option Ent
  | [.c (.d (.int .i64 t)), .c (.d (.int .i64 r))], [], [], _ => some ⟨True, .tup [.agg [.int .i64 (newT t r), .int .i64 (newR t r), .int .i64 (newG t r)], .int .i64 (newX t r)], [], []⟩
  | _, _, _, _ => none
def E_rnew_eq := And.intro (@E_rnew.eq_1) (@E_rnew.eq_1)
theorem E_rnew_ok : Snd Try.prog 18 E_rnew := by
  intro vs b k n e h hn hp
  unfold E_rnew at h
  split at h
  · cases h; exact (spec_rnew _ _).lift rfl _
  · cases h

theorem spec_mmat (l : List UInt8) (a b : Int) (ha : 1 ≤ a ∧ a ≤ 8) (hb : 1 ≤ b ∧ b ≤ 8) : Spec Try.prog 0 30 [.c (.lp ⟨0, 0⟩ 0), vI .i64 a, vI .i64 b] [(⟨0, 0⟩, [.d (.list (LB l))])] [] (.agg [.d (.int .i64 a), .d (.int .i64 b), .d (.list (LI .i64 (mkL l (a * b).toNat)))]) [(⟨0, 0⟩, [.d (.list (LB (mkR l (a * b).toNat)))])] [] := by
  refine spec_of_E (X := ⟨Try.prog, tt, Try.f30.ntmps, 1, fun _ => 0, (tab [(10, E_next)])⟩) (M := [(5, [0, 0, 0, 0, 0, 4279304647, 0, 0, 0, 0, 0, 3221291463, 0, 0])]) (m := 65991) rfl rfl ⟨tt_ok, tab_ok (tabs_cons E_next_ok tabs_nil) _ rfl rfl⟩ tt_mixed Try.func30 rfl (by decide) (by show (3 : Nat) ≤ _; exact Nat.le_of_ble_eq_true rfl) ⟨by simp [V.has, C.has], by simp [C.has], by simp⟩ ?_
  simp only [↓gPre, gPost, gCore, gDef, Nat.reduceShiftRight, Nat.reduceMod, if_true, if_false, ↓reduceIte, reduceCtorEq, Nat.reduceEqDiff, Nat.reduceLT, Nat.reduceLeDiff, implies_true, forall_const, eq_self, ne_eq, not_true_eq_false, not_false_eq_true, imp_self, Nat.reduceAdd, Nat.reduceMul, Int.reduceLE, Int.reduceLT, Int.reduceNeg, Int.reduceAdd, Int.reduceToNat, E_next_eq, LX_nil, LX_length, LX_getD, LX_append, LX_one, LX_cells, LX_inj, LX_nil_eq, LX_inps_LX, LX_take, LX_drop, inps_LX, Try.ntmps30, Try.results30, gTT]
  refine ELoop_nilB ⟨1, 7⟩ 2 1 ⟨1, 99⟩ rfl rfl (by simp only [↓gPre, gPost, gCore, gDef, Nat.reduceShiftRight, Nat.reduceMod, if_true, if_false, ↓reduceIte, reduceCtorEq, Nat.reduceEqDiff, Nat.reduceLT, Nat.reduceLeDiff, implies_true, forall_const, eq_self, ne_eq, not_true_eq_false, not_false_eq_true, imp_self, Nat.reduceAdd, Nat.reduceMul, Int.reduceLE, Int.reduceLT, Int.reduceNeg, Int.reduceAdd, Int.reduceToNat, E_next_eq, LX_nil, LX_length, LX_getD, LX_append, LX_one, LX_cells, LX_inj, LX_nil_eq, LX_inps_LX, LX_take, LX_drop, inps_LX, Try.ntmps30, Try.results30, gTT]) (Nat.le_refl _) ?_
  simp only [↓gPre, gPost, gCore, gDef, Nat.reduceShiftRight, Nat.reduceMod, if_true, if_false, ↓reduceIte, reduceCtorEq, Nat.reduceEqDiff, Nat.reduceLT, Nat.reduceLeDiff, implies_true, forall_const, eq_self, ne_eq, not_true_eq_false, not_false_eq_true, imp_self, Nat.reduceAdd, Nat.reduceMul, Int.reduceLE, Int.reduceLT, Int.reduceNeg, Int.reduceAdd, Int.reduceToNat, E_next_eq, LX_nil, LX_length, LX_getD, LX_append, LX_one, LX_cells, LX_inj, LX_nil_eq, LX_inps_LX, LX_take, LX_drop, inps_LX, Try.ntmps30, Try.results30, gTT]
  have hab := mul88 ha hb
  refine ELoop_keep (fun i => ⟨[(8, vI .i64 (i : Nat))], [(⟨1, 7⟩, [.d (.int .i64 a), .d (.int .i64 b), .own ⟨1, 99⟩ (LI .i64 (mkL l i))]), (⟨0, 0⟩, [.d (.list (LB (mkR l i)))])], [(⟨1, 99⟩, ⟨false, 1, LI .i64 (mkL l i)⟩)]⟩) (fun i => i ≤ (a * b).toNat) (fun i => (a * b).toNat - i) (· + 1) 0 (Nat.zero_le _) ?_ ?_
  · simp only [↓gPre, gPost, gCore, gDef, Nat.reduceShiftRight, Nat.reduceMod, if_true, if_false, ↓reduceIte, reduceCtorEq, Nat.reduceEqDiff, Nat.reduceLT, Nat.reduceLeDiff, implies_true, forall_const, eq_self, ne_eq, not_true_eq_false, not_false_eq_true, imp_self, Nat.reduceAdd, Nat.reduceMul, Int.reduceLE, Int.reduceLT, Int.reduceNeg, Int.reduceAdd, Int.reduceToNat, E_next_eq, LX_nil, LX_length, LX_getD, LX_append, LX_one, LX_cells, LX_inj, LX_nil_eq, LX_inps_LX, LX_take, LX_drop, inps_LX, Try.ntmps30, Try.results30, gTT]
    exact ⟨rfl, ⟨rfl, rfl⟩, rfl⟩
  intro i hi
  simp only [↓gPre, gPost, gCore, gDef, Nat.reduceShiftRight, Nat.reduceMod, if_true, if_false, ↓reduceIte, reduceCtorEq, Nat.reduceEqDiff, Nat.reduceLT, Nat.reduceLeDiff, implies_true, forall_const, eq_self, ne_eq, not_true_eq_false, not_false_eq_true, imp_self, Nat.reduceAdd, Nat.reduceMul, Int.reduceLE, Int.reduceLT, Int.reduceNeg, Int.reduceAdd, Int.reduceToNat, E_next_eq, LX_nil, LX_length, LX_getD, LX_append, LX_one, LX_cells, LX_inj, LX_nil_eq, LX_inps_LX, LX_take, LX_drop, inps_LX, Try.ntmps30, Try.results30, gTT]
  have hl := mkL_len l i
  refine ⟨fun h => ?_, fun h => ?_⟩
  · have h1 := of_decide_eq_true h
    rw [mkL_succ]
    refine ⟨by kernel_rfl, ?_⟩
    rw [IntWalk.i64_in (a * b) (by omega)] at h1
    have hd0 := dN_ge (mkR l i) 256
    have hd1 := dN_lt (mkR l i) 256 (by decide)
    rw [IntWalk.i64_in (dN (mkR l i) 256 * 128) (by omega)]
    exact ⟨⟨dN_ge _ _, dN_lt _ _ (by decide)⟩, by unfold roomOK; omega, ⟨(wrapN _ (by omega)).symm, ⟨rfl, rfl⟩, rfl⟩, by omega, by omega⟩
  · have h1 := of_decide_eq_false h
    rw [IntWalk.i64_in (a * b) (by omega)] at h1
    have : (a * b).toNat = i := by omega
    rw [this]
    exact ⟨rfl, rfl⟩
def E_mmat : List V → Boxes → Toks → Name → Option Ent
  | [.c (.lp n0 0), .c (.d (.int .i64 a)), .c (.d (.int .i64 b))], [(m0, [.d (.list q_l)])], [], _ => some ⟨(1 ≤ a ∧ a ≤ 8) ∧ (1 ≤ b ∧ b ≤ 8) ∧ n0.lv ≤ 1 ∧ m0 = n0 ∧ q_l = LB (bys q_l), .agg [.d (.int .i64 a), .d (.int .i64 b), .d (.list (LI .i64 (mkL (bys q_l) (a * b).toNat)))], [(n0, [.d (.list (LB (mkR (bys q_l) (a * b).toNat)))])], []⟩
  | _, _, _, _ => none
def E_mmat_eq := And.intro (@E_mmat.eq_1) (@E_mmat.eq_1)
theorem E_mmat_ok : Snd Try.prog 30 E_mmat := by
  intro vs b k n e h hn hp
  unfold E_mmat at h
  split at h
  · cases h; obtain ⟨hp0, hp1, hl0, rfl, hq0⟩ := hp; obtain ⟨_, rfl⟩ := LB_ex hq0; simp only [ints_LI, bys_LB, blks_LK, lls_LL] at hp0 hp1 ⊢; exact Spec.ren1 (spec_mmat _ _ _ hp0 hp1) 0 (by simp [supOK, V.names, C.names, namesB, namesK]) hl0 
  · cases h

def inC (l : List UInt8) : Int := 1 + dN l 3
def inK (l : List UInt8) (fr : Int) : Int := dN (dT l 3) (fr + 1)
def inR2 (l : List UInt8) (fr : Int) : List UInt8 := dT (dT l 3) (fr + 1)
def inR3 (l : List UInt8) (fr : Int) : List UInt8 := bkR (inR2 l fr) (inC l * inK l fr).toNat
def inR4 (l : List UInt8) (ch fr : Int) : List UInt8 := mkR (inR3 l fr) (inC l * ch).toNat
def inR5 (l : List UInt8) (ch fr : Int) : List UInt8 := rR (inR4 l ch fr)
def inId (l : List UInt8) (ch fr : Int) : Bool := inC l == ch && dN (inR5 l ch fr) 3 == 0
/-- An input from dice; the dice behind it. -/
def inV (l : List UInt8) (ch fr : Int) : Inp := ⟨inC l, bkO (inR2 l fr) (inC l * inK l fr).toNat, if inId l ch fr = true then ch else inC l, ch, if inId l ch fr = true then idL ch.toNat else mkL (inR3 l fr) (inC l * ch).toNat, rF (inR4 l ch fr), rT (inR4 l ch fr), rN (inR4 l ch fr), rA (inR4 l ch fr)⟩
def inR (l : List UInt8) (ch fr : Int) : List UInt8 := if (inC l == ch) = true then dT (inR5 l ch fr) 3 else inR5 l ch fr

theorem spec_minput (l : List UInt8) (ch fr : Int) (hc : 1 ≤ ch ∧ ch ≤ 8) (hf : 0 ≤ fr ∧ fr ≤ 1000) : Spec Try.prog 0 13 [.c (.lp ⟨0, 0⟩ 0), vI .i64 ch, vI .i64 fr] [(⟨0, 0⟩, [.d (.list (LB l))])] [] (.agg [.d (.int .i64 (inV l ch fr).c), .d (.list (LI .i32 (inV l ch fr).l)), .d (.int .i64 (inV l ch fr).a), .d (.int .i64 (inV l ch fr).b), .d (.list (LI .i64 (inV l ch fr).m)), .d (.int .i64 (inV l ch fr).f), .d (.int .i64 (inV l ch fr).t), .d (.int .i64 (inV l ch fr).n), .d (.int .i64 (inV l ch fr).i)]) [(⟨0, 0⟩, [.d (.list (LB (inR l ch fr)))])] [] := by
  refine spec_of_E (X := ⟨Try.prog, tt, Try.f13.ntmps, 1, fun s => if s = 31 then 8 else 0, (tab [(10, E_next), (17, E_mblock), (30, E_mmat), (31, E_ramp), (16, E_ridentity)])⟩) (M := [(2, [0, 0, 0, 0, 0, 8656925127, 0, 0, 0, 0, 0, 8653111751, 0, 0, 0, 0])]) (m := 8589935047) rfl rfl ⟨tt_ok, tab_ok (tabs_cons E_next_ok (tabs_cons E_mblock_ok (tabs_cons E_mmat_ok (tabs_cons E_ramp_ok (tabs_cons E_ridentity_ok tabs_nil))))) _ rfl rfl⟩ tt_mixed Try.func13 rfl (by decide) (by show (3 : Nat) ≤ _; exact Nat.le_of_ble_eq_true rfl) ⟨by simp [V.has, C.has], by simp [C.has], by simp⟩ ?_
  simp only [↓gPre, gPost, gCore, gDef, Nat.reduceShiftRight, Nat.reduceMod, if_true, if_false, ↓reduceIte, reduceCtorEq, Nat.reduceEqDiff, Nat.reduceLT, Nat.reduceLeDiff, implies_true, forall_const, eq_self, ne_eq, not_true_eq_false, not_false_eq_true, imp_self, Nat.reduceAdd, Nat.reduceMul, Int.reduceLE, Int.reduceLT, Int.reduceNeg, Int.reduceAdd, Int.reduceToNat, E_next_eq, E_mblock_eq, E_mmat_eq, E_ramp_eq, E_ridentity_eq, LX_nil, LX_length, LX_getD, LX_append, LX_one, LX_cells, LX_inj, LX_nil_eq, LX_inps_LX, LX_take, LX_drop, inps_LX, Try.ntmps13, Try.results13, gTT]
  have a1 := dN_ge l 3
  have a2 := dN_lt l 3 (by decide)
  have a3 := dN_ge (dT l 3) (fr + 1)
  have a4 := dN_lt (dT l 3) (fr + 1) (by omega)
  have hB : idB ch = false := by simp only [idB, Bool.or_eq_false_iff, decide_eq_false_iff_not]; omega
  have i1 : idN ch = ch := by simp [idN, hB]
  have i2 : idO ch = idL ch.toNat := by simp [idO, hB]
  rw [IntWalk.i64_in (1 + dN l 3) (by omega), IntWalk.i64_in (fr + 1) (by omega), i1, i2]
  have hV : inId l ch fr = (1 + dN l 3 == ch && dN (rR (mkR (bkR (dT (dT l 3) (fr + 1)) ((1 + dN l 3) * dN (dT l 3) (fr + 1)).toNat) ((1 + dN l 3) * ch).toNat)) 3 == 0) := rfl
  have hR : inR l ch fr = if (1 + dN l 3 == ch) = true then dT (rR (mkR (bkR (dT (dT l 3) (fr + 1)) ((1 + dN l 3) * dN (dT l 3) (fr + 1)).toNat) ((1 + dN l 3) * ch).toNat)) 3 else rR (mkR (bkR (dT (dT l 3) (fr + 1)) ((1 + dN l 3) * dN (dT l 3) (fr + 1)).toNat) ((1 + dN l 3) * ch).toNat) := rfl
  rw [← hV]
  have hA : (inV l ch fr).a = if inId l ch fr = true then ch else inC l := rfl
  have hM : (inV l ch fr).m = if inId l ch fr = true then idL ch.toNat else mkL (inR3 l fr) (inC l * ch).toNat := rfl
  refine ⟨by omega, by omega, fun h1 => ⟨h1, fun h2 => ?_, fun h2 => ?_⟩, fun h1 => ?_⟩
  · rw [hA, hM, hR, if_pos h2, if_pos h2, if_pos h1]
    exact ⟨⟨rfl, rfl, rfl, rfl, rfl, rfl, rfl, rfl, rfl⟩, rfl⟩
  · rw [hA, hM, hR, if_neg (by rw [h2]; decide), if_neg (by rw [h2]; decide), if_pos h1]
    exact ⟨⟨rfl, rfl, rfl, rfl, rfl, rfl, rfl, rfl, rfl⟩, rfl⟩
  · have h2 : inId l ch fr = false := by rw [hV, h1]; rfl
    rw [hA, hM, hR, if_neg (by rw [h2]; decide), if_neg (by rw [h2]; decide), if_neg (by rw [h1]; decide)]
    exact ⟨fun h => absurd h (by rw [h1]; decide), fun h => absurd h (by rw [h1]; decide), fun _ => ⟨⟨rfl, rfl, rfl, rfl, rfl, rfl, rfl, rfl, rfl⟩, rfl⟩⟩
def E_minput : List V → Boxes → Toks → Name → Option Ent
  | [.c (.lp n0 0), .c (.d (.int .i64 ch)), .c (.d (.int .i64 fr))], [(m0, [.d (.list q_l)])], [], _ => some ⟨(1 ≤ ch ∧ ch ≤ 8) ∧ (0 ≤ fr ∧ fr ≤ 1000) ∧ n0.lv ≤ 1 ∧ m0 = n0 ∧ q_l = LB (bys q_l), .agg [.d (.int .i64 (inV (bys q_l) ch fr).c), .d (.list (LI .i32 (inV (bys q_l) ch fr).l)), .d (.int .i64 (inV (bys q_l) ch fr).a), .d (.int .i64 (inV (bys q_l) ch fr).b), .d (.list (LI .i64 (inV (bys q_l) ch fr).m)), .d (.int .i64 (inV (bys q_l) ch fr).f), .d (.int .i64 (inV (bys q_l) ch fr).t), .d (.int .i64 (inV (bys q_l) ch fr).n), .d (.int .i64 (inV (bys q_l) ch fr).i)], [(n0, [.d (.list (LB (inR (bys q_l) ch fr)))])], []⟩
  | _, _, _, _ => none
def E_minput_eq := And.intro (@E_minput.eq_1) (@E_minput.eq_1)
theorem E_minput_ok : Snd Try.prog 13 E_minput := by
  intro vs b k n e h hn hp
  unfold E_minput at h
  split at h
  · cases h; obtain ⟨hp0, hp1, hl0, rfl, hq0⟩ := hp; obtain ⟨_, rfl⟩ := LB_ex hq0; simp only [ints_LI, bys_LB, blks_LK, lls_LL] at hp0 hp1 ⊢; exact Spec.ren1 (spec_minput _ _ _ hp0 hp1) 0 (by simp [supOK, V.names, C.names, namesB, namesK]) hl0 
  · cases h

end Go.Vam
