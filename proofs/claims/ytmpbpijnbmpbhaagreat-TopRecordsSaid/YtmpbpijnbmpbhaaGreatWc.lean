/- A part of the proof. Conditions: none. -/
import Derived.Test.YtmpbpijnbmpbhaaGreatWb
set_option linter.unusedVariables false
set_option linter.defProp false
set_option linter.unusedSimpArgs false
set_option maxRecDepth 40000
set_option maxHeartbeats 4000000
namespace Go.Vam
open Go.Proofs
theorem mul_bd {x y A B : Int} (h1 : -A ≤ x) (h2 : x ≤ A) (h3 : 0 ≤ y) (h4 : y ≤ B) (hA : 0 ≤ A) : -(A * B) ≤ x * y ∧ x * y ≤ A * B := by
  have e1 : x * y ≤ A * y := Int.mul_le_mul_of_nonneg_right h2 h3
  have e2 : A * y ≤ A * B := Int.mul_le_mul_of_nonneg_left h4 hA
  have e3 : -A * y ≤ x * y := Int.mul_le_mul_of_nonneg_right h1 h3
  have e4 : -A * y = -(A * y) := Int.neg_mul A y
  omega
theorem spec_next (l : List UInt8) (n : Int) : Spec Tryz.prog 0 21 [.c (.lp ⟨0, 0⟩ 0), vI .i64 n] [(⟨0, 0⟩, [.d (.list (LB l))])] [] (vI .i64 (dN l n)) [(⟨0, 0⟩, [.d (.list (LB (dT l n)))])] [] := by
  refine spec_of_E (X := ⟨Tryz.prog, tt, Tryz.f21.ntmps, 1, fun _ => 0, (tab [])⟩) (M := []) (m := 32819) rfl rfl ⟨tt_ok, tab_ok tabs_nil _ rfl rfl⟩ tt_mixed Tryz.func21 rfl (by decide) (by show (2 : Nat) ≤ _; exact Nat.le_of_ble_eq_true rfl) ⟨by simp [V.has, C.has], by simp [C.has], by simp⟩ ?_
  simp (maxSteps := 1000000) only [↓gPre, gPost, gCore, gDef, gSt, gS0, Nat.reduceShiftRight, Nat.reduceMod, ↓reduceIte, reduceCtorEq, Nat.reduceEqDiff, Nat.reduceLT, Nat.reduceLeDiff, Nat.reduceAdd, Nat.reduceMul, Int.reduceLE, Int.reduceLT, Int.reduceNeg, Int.reduceAdd, Int.reduceToNat, Tryz.ntmps21, Tryz.results21, gTT]
  refine ⟨fun h => ?_, fun h => ?_⟩
  · rcases (Bool.or_eq_true _ _).mp h with h | h
    · have h0 : l = [] := by cases l with | nil => rfl | cons a l => simp at h; omega
      subst h0
      unfold dN dT
      split <;> simp
    · have h1 := of_decide_eq_true h
      simp only [dN, dT, if_pos h1, and_self]
  · rw [Bool.or_eq_false_iff] at h
    have h1 := of_decide_eq_false h.2
    match l, h.1 with
    | a :: l, _ =>
      simp only [dN, dT, if_neg h1, List.length_cons, List.headD_cons, List.tail_cons, List.getElem?_cons_zero, Option.getD_some, List.drop_succ_cons, List.drop_zero]
      refine ⟨by omega, by omega, by omega, ?_, by rw [Nat.add_sub_cancel, List.take_length]⟩
      have := u8_lt a
      rw [IntWalk.i64_in _ (by omega), Int.tmod_eq_emod_of_nonneg (by omega)]
def E_next : List V → Boxes → Toks → Name → Option Ent
  | [.c (.lp n0 0), .c (.d (.int .i64 n))], [(m0, [.d (.list q_l)])], [], _ => some ⟨n0.lv ≤ 1 ∧ m0 = n0 ∧ q_l = LB (bys q_l), vI .i64 (dN (bys q_l) n), [(n0, [.d (.list (LB (dT (bys q_l) n)))])], []⟩
  | _, _, _, _ => none
def E_next_eq := And.intro (@E_next.eq_1) (@E_next.eq_1)
theorem E_next_ok : Snd Tryz.prog 21 E_next := by
  intro vs b k n e h hn hp
  unfold E_next at h
  split at h
  · cases h; obtain ⟨hl0, rfl, hq0⟩ := hp; obtain ⟨_, rfl⟩ := LB_ex hq0; simp only [ints_LI, bys_LB, blks_LK, lls_LL]; exact Spec.ren1 (spec_next _ _) 0 (by simp [supOK, V.names, C.names, namesB, namesK]) hl0 
  · cases h
theorem spec_new (l : List UInt8) : Spec Tryz.prog 0 7 [vL (LB l)] [] [] (.c (.lp ⟨0, 9⟩ 0)) [(⟨0, 9⟩, [.d (.list (LB (l.take 300)))])] [] := by
  refine spec_of_E_new (X := ⟨Tryz.prog, tt, Tryz.f7.ntmps, 1, fun _ => 0, (tab [])⟩) (M := []) (m := 5) (r0 := .c (.lp ⟨1, 9⟩ 0)) (b0 := [(⟨1, 9⟩, [.d (.list (LB (l.take 300)))])]) (k0 := []) ⟨1, 9⟩ ⟨0, 9⟩ rfl rfl ⟨tt_ok, tab_ok tabs_nil _ rfl rfl⟩ tt_mixed Tryz.func7 rfl (by decide) (by show (1 : Nat) ≤ _; exact Nat.le_of_ble_eq_true rfl) rfl rfl rfl ⟨by simp [V.has, C.has], by simp [C.has], by simp⟩ (by decide) (by simp [V.names, C.names, namesB, namesK]) (by simp [lk]) (by simp [lk]) (by simp [lk]) ?_
  simp (maxSteps := 1000000) only [↓gPre, gPost, gCore, gDef, gSt, gS0, Nat.reduceShiftRight, Nat.reduceMod, ↓reduceIte, reduceCtorEq, Nat.reduceEqDiff, Nat.reduceLT, Nat.reduceLeDiff, Nat.reduceAdd, Nat.reduceMul, Int.reduceLE, Int.reduceLT, Int.reduceNeg, Int.reduceAdd, Int.reduceToNat, Tryz.ntmps7, Tryz.results7, gTT]
  refine ⟨by split <;> omega, ?_⟩
  have e : (if (300 : Int) < ↑l.length then (300 : Int) else ↑l.length).toNat = min 300 l.length := by split <;> omega
  rw [e, Nat.sub_zero, List.take_eq_take_min]
def E_new : List V → Boxes → Toks → Name → Option Ent
  | [.c (.d (.list q_l))], [], [], nF => some ⟨q_l = LB (bys q_l), .c (.lp nF 0), [(nF, [.d (.list (LB ((bys q_l).take 300)))])], []⟩
  | _, _, _, _ => none
def E_new_eq := And.intro (@E_new.eq_1) (@E_new.eq_1)
theorem E_new_ok : Snd Tryz.prog 7 E_new := by
  intro vs b k n e h hn hp
  unfold E_new at h
  split at h
  · cases h; have hq0 := hp; obtain ⟨_, rfl⟩ := LB_ex hq0; simp only [ints_LI, bys_LB, blks_LK, lls_LL]; exact Spec.ren1 (spec_new _) 9 (by simp [supOK, V.names, C.names, namesB, namesK]) (Nat.le_of_eq hn) 
  · cases h
def smpX (x : Int) : Bool := decide (-8388608 ≤ x) && decide (x ≤ 8388607)
def chBk (c : Int) (n : Nat) : Bool := decide (c < 1) || decide (8 < c) || (n : Int).tmod c != 0 || decide (65536 < IntKind.i64.wrap ((n : Int).tdiv c))
def blkV (c : Int) (l : List Int) : Bool := !chBk c l.length && l.all smpX
theorem smpX_in {x : Int} (h : smpX x = true) : -8388608 ≤ x ∧ x ≤ 8388607 := by simpa [smpX] using h
theorem chBk_in {c : Int} {n : Nat} (h : chBk c n = false) : 1 ≤ c ∧ c ≤ 8 ∧ n = n / c.toNat * c.toNat := by
  simp only [chBk, Bool.or_eq_false_iff, decide_eq_false_iff_not, bne_eq_false_iff_eq] at h
  obtain ⟨⟨⟨h1, h2⟩, h3⟩, _⟩ := h
  refine ⟨by omega, by omega, ?_⟩
  have e : c = (c.toNat : Int) := by omega
  rw [e, Int.tmod_eq_emod_of_nonneg (by omega)] at h3
  have h4 : n % c.toNat = 0 := by exact_mod_cast h3
  exact (Nat.div_mul_cancel (Nat.dvd_of_mod_eq_zero h4)).symm
def sV (l : List UInt8) : Int := if dN l 8 = 0 then 0 else if dN l 8 = 1 then 8388607 else if dN l 8 = 2 then -8388608 else if dN l 8 = 3 then dN (dT l 8) 256 - 128 else dN (dT l 8) 256 * 65536 - 8388608 + dN (dT (dT l 8) 256) 256 * 256 + dN (dT (dT (dT l 8) 256) 256) 256
def sR (l : List UInt8) : List UInt8 := if dN l 8 = 0 then dT l 8 else if dN l 8 = 1 then dT l 8 else if dN l 8 = 2 then dT l 8 else if dN l 8 = 3 then dT (dT l 8) 256 else dT (dT (dT (dT l 8) 256) 256) 256
theorem sV_in (l : List UInt8) : -8388608 ≤ sV l ∧ sV l ≤ 8388607 := by
  have h1 := dN_ge (dT l 8) 256
  have h2 := dN_lt (dT l 8) 256 (by decide)
  have h3 := dN_ge (dT (dT l 8) 256) 256
  have h4 := dN_lt (dT (dT l 8) 256) 256 (by decide)
  have h5 := dN_ge (dT (dT (dT l 8) 256) 256) 256
  have h6 := dN_lt (dT (dT (dT l 8) 256) 256) 256 (by decide)
  unfold sV
  omega
theorem spec_sample (l : List UInt8) : Spec Tryz.prog 0 56 [.c (.lp ⟨0, 0⟩ 0)] [(⟨0, 0⟩, [.d (.list (LB l))])] [] (vI .i32 (sV l)) [(⟨0, 0⟩, [.d (.list (LB (sR l)))])] [] := by
  refine spec_of_E (X := ⟨Tryz.prog, tt, Tryz.f56.ntmps, 1, fun _ => 0, (tab [(21, E_next)])⟩) (M := [(10, [0, 0, 0, 0, 0, 2145389237, 0, 0, 0, 0, 0, 1946159797, 0, 0, 0])]) (m := 2741) rfl rfl ⟨tt_ok, tab_ok (tabs_cons E_next_ok tabs_nil) _ rfl rfl⟩ tt_mixed Tryz.func56 rfl (by decide) (by show (1 : Nat) ≤ _; exact Nat.le_of_ble_eq_true rfl) ⟨by simp [V.has, C.has], by simp [C.has], by simp⟩ ?_
  simp (maxSteps := 1000000) only [↓gPre, gPost, gCore, gDef, gSt, gS0, Nat.reduceShiftRight, Nat.reduceMod, ↓reduceIte, reduceCtorEq, Nat.reduceEqDiff, Nat.reduceLT, Nat.reduceLeDiff, Nat.reduceAdd, Nat.reduceMul, Int.reduceLE, Int.reduceLT, Int.reduceNeg, Int.reduceAdd, Int.reduceToNat, E_next_eq, Tryz.ntmps56, Tryz.results56, gTT]
  refine ⟨fun h => ?_, fun h0 => ⟨fun h => ?_, fun h1 => ⟨fun h => ?_, fun h2 => ⟨fun h => ?_, fun h3 => ?_⟩⟩⟩⟩
  · have e := beq_iff_eq.1 h
    simp [sV, sR, e]
  · have e := beq_iff_eq.1 h
    simp [sV, sR, e]
  · have e := beq_iff_eq.1 h
    simp [sV, sR, e]
  · have e := beq_iff_eq.1 h
    have a1 := dN_ge (dT l 8) 256
    have a2 := dN_lt (dT l 8) 256 (by decide)
    rw [IntWalk.i32_in (dN (dT l 8) 256) (by omega), IntWalk.i32_in (dN (dT l 8) 256 - 128) (by omega)]
    simp [sV, sR, e]
  · have e0 : dN l 8 ≠ 0 := by simpa using h0
    have e1 : dN l 8 ≠ 1 := by simpa using h1
    have e2 : dN l 8 ≠ 2 := by simpa using h2
    have e3 : dN l 8 ≠ 3 := by simpa using h3
    have a1 := dN_ge (dT l 8) 256
    have a2 := dN_lt (dT l 8) 256 (by decide)
    have a3 := dN_ge (dT (dT l 8) 256) 256
    have a4 := dN_lt (dT (dT l 8) 256) 256 (by decide)
    have a5 := dN_ge (dT (dT (dT l 8) 256) 256) 256
    have a6 := dN_lt (dT (dT (dT l 8) 256) 256) 256 (by decide)
    have p1 : (2 : Int) ^ Nat.min 16 IntKind.i32.bits = 65536 := by decide
    have p2 : (2 : Int) ^ Nat.min 8 IntKind.i32.bits = 256 := by decide
    rw [p1, p2, IntWalk.i32_in (dN (dT l 8) 256) (by omega), IntWalk.i32_in (dN (dT l 8) 256 * 65536) (by omega), IntWalk.i32_in (dN (dT l 8) 256 * 65536 - 8388608) (by omega),
      IntWalk.i32_in (dN (dT (dT l 8) 256) 256) (by omega), IntWalk.i32_in (dN (dT (dT l 8) 256) 256 * 256) (by omega), IntWalk.i32_in (dN (dT l 8) 256 * 65536 - 8388608 + dN (dT (dT l 8) 256) 256 * 256) (by omega),
      IntWalk.i32_in (dN (dT (dT (dT l 8) 256) 256) 256) (by omega), IntWalk.i32_in _ (by omega)]
    simp [sV, sR, e0, e1, e2, e3]
def E_sample : List V → Boxes → Toks → Name → Option Ent
  | [.c (.lp n0 0)], [(m0, [.d (.list q_l)])], [], _ => some ⟨n0.lv ≤ 1 ∧ m0 = n0 ∧ q_l = LB (bys q_l), vI .i32 (sV (bys q_l)), [(n0, [.d (.list (LB (sR (bys q_l))))])], []⟩
  | _, _, _, _ => none
def E_sample_eq := And.intro (@E_sample.eq_1) (@E_sample.eq_1)
theorem E_sample_ok : Snd Tryz.prog 56 E_sample := by
  intro vs b k n e h hn hp
  unfold E_sample at h
  split at h
  · cases h; obtain ⟨hl0, rfl, hq0⟩ := hp; obtain ⟨_, rfl⟩ := LB_ex hq0; simp only [ints_LI, bys_LB, blks_LK, lls_LL]; exact Spec.ren1 (spec_sample _) 0 (by simp [supOK, V.names, C.names, namesB, namesK]) hl0 
  · cases h
theorem spec_samedata (a b : List Int) (ha : a.length ≤ 1000000000) : Spec Tryz.prog 0 72 [vL (LI .i32 a), vL (LI .i32 b)] [] [] (vB (a == b)) [] [] := by
  refine sE (md := fun _ => 0) (L := []) [] 16806963 tabs_nil Tryz.func72 rfl rfl rfl ?_
  simp (maxSteps := 1000000) only [↓gPre, gPost, gCore, gDef, gSt, gS0, Nat.reduceShiftRight, Nat.reduceMod, ↓reduceIte, reduceCtorEq, Nat.reduceEqDiff, Nat.reduceLT, Nat.reduceLeDiff, Nat.reduceAdd, Nat.reduceMul, Int.reduceLE, Int.reduceLT, Int.reduceNeg, Int.reduceAdd, Int.reduceToNat, Tryz.ntmps72, Tryz.results72, gTT]
  refine ⟨fun h => ?_, fun h => ?_⟩
  · rw [beq_eq_false_iff_ne]
    intro e
    subst e
    simp at h
  have hlen : a.length = b.length := by
    have : (a.length : Int) = b.length := by simpa using h
    omega
  refine ELoop_keep (fun n => ⟨[(13, vI .i64 (n : Nat))], [], []⟩) (fun n => n ≤ a.length ∧ a.take n = b.take n) (fun n => a.length - n) (· + 1) 0 ⟨Nat.zero_le _, rfl⟩ ?_ ?_
  · simp (maxSteps := 1000000) only [↓gPre, gPost, gCore, gDef, gSt, gS0, Nat.reduceShiftRight, Nat.reduceMod, ↓reduceIte, reduceCtorEq, Nat.reduceEqDiff, Nat.reduceLT, Nat.reduceLeDiff, Nat.reduceAdd, Nat.reduceMul, Int.reduceLE, Int.reduceLT, Int.reduceNeg, Int.reduceAdd, Int.reduceToNat, Tryz.ntmps72, Tryz.results72, gTT]
    rfl
  rintro n ⟨hn, heq⟩
  simp (maxSteps := 1000000) only [↓gPre, gPost, gCore, gDef, gSt, gS0, Nat.reduceShiftRight, Nat.reduceMod, ↓reduceIte, reduceCtorEq, Nat.reduceEqDiff, Nat.reduceLT, Nat.reduceLeDiff, Nat.reduceAdd, Nat.reduceMul, Int.reduceLE, Int.reduceLT, Int.reduceNeg, Int.reduceAdd, Int.reduceToNat, Tryz.ntmps72, Tryz.results72, gTT]
  refine ⟨fun h1 => ?_, fun h1 => ?_⟩
  · have hlt : n < a.length := by have := of_decide_eq_true h1; omega
    have hlt2 : n < b.length := by omega
    have g1 : a[n]?.getD 0 = a[n] := by rw [List.getElem?_eq_getElem hlt]; rfl
    have g2 : b[n]?.getD 0 = b[n] := by rw [List.getElem?_eq_getElem hlt2]; rfl
    rw [g1, g2]
    refine ⟨by kernel_rfl, by omega, by omega, fun h2 => ?_, fun h2 => ?_⟩
    · rw [beq_eq_false_iff_ne]
      intro e
      subst e
      simp at h2
    · have e : a[n] = b[n] := by simpa using h2
      refine ⟨(wrapN _ (by omega)).symm, ⟨by omega, ?_⟩, by omega⟩
      rw [List.take_add_one, List.take_add_one, heq, List.getElem?_eq_getElem hlt, List.getElem?_eq_getElem hlt2, e]
  · have hnl : n = a.length := by have := of_decide_eq_false h1; omega
    rw [hnl, List.take_length, hlen, List.take_length] at heq
    rw [heq, beq_self_eq_true]
def E_samedata : List V → Boxes → Toks → Name → Option Ent
  | [.c (.d (.list q_a)), .c (.d (.list q_b))], [], [], _ => some ⟨(ints q_a).length ≤ 1000000000 ∧ q_a = LI .i32 (ints q_a) ∧ q_b = LI .i32 (ints q_b), vB ((ints q_a) == (ints q_b)), [], []⟩
  | _, _, _, _ => none
def E_samedata_eq := And.intro (@E_samedata.eq_1) (@E_samedata.eq_1)
theorem E_samedata_ok : Snd Tryz.prog 72 E_samedata := by
  intro vs b k n e h hn hp
  unfold E_samedata at h
  split at h
  · cases h; obtain ⟨hp0, hq0, hq1⟩ := hp; obtain ⟨_, rfl⟩ := LI_ex hq0; obtain ⟨_, rfl⟩ := LI_ex hq1; simp only [ints_LI, bys_LB, blks_LK, lls_LL] at hp0 ⊢; exact (spec_samedata _ _ hp0).lift rfl _
  · cases h
theorem spec_same (c d : Int) (a b : List Int) (ha : a.length ≤ 1000000000) : Spec Tryz.prog 0 24 [.agg [.d (.int .i64 c), .d (.list (LI .i32 a))], .agg [.d (.int .i64 d), .d (.list (LI .i32 b))]] [] [] (vB (c == d && a == b)) [] [] := by
  refine sE (md := fun _ => 0) (L := [(72, E_samedata)]) [(1, [0, 0, 0, 0, 0, 130079, 0, 0, 0, 0, 0, 65567, 0])] 31 (tabs_cons E_samedata_ok tabs_nil) Tryz.func24 rfl rfl rfl ?_
  simp (maxSteps := 1000000) only [↓gPre, gPost, gCore, gDef, gSt, gS0, Nat.reduceShiftRight, Nat.reduceMod, ↓reduceIte, reduceCtorEq, Nat.reduceEqDiff, Nat.reduceLT, Nat.reduceLeDiff, Nat.reduceAdd, Nat.reduceMul, Int.reduceLE, Int.reduceLT, Int.reduceNeg, Int.reduceAdd, Int.reduceToNat, E_samedata_eq, Tryz.ntmps24, Tryz.results24, gTT]
  exact fun _ => ha
def E_same : List V → Boxes → Toks → Name → Option Ent
  | [.agg [.d (.int .i64 c), .d (.list q_a)], .agg [.d (.int .i64 d), .d (.list q_b)]], [], [], _ => some ⟨(ints q_a).length ≤ 1000000000 ∧ q_a = LI .i32 (ints q_a) ∧ q_b = LI .i32 (ints q_b), vB (c == d && (ints q_a) == (ints q_b)), [], []⟩
  | _, _, _, _ => none
def E_same_eq := And.intro (@E_same.eq_1) (@E_same.eq_1)
theorem E_same_ok : Snd Tryz.prog 24 E_same := by
  intro vs b k n e h hn hp
  unfold E_same at h
  split at h
  · cases h; obtain ⟨hp0, hq0, hq1⟩ := hp; obtain ⟨_, rfl⟩ := LI_ex hq0; obtain ⟨_, rfl⟩ := LI_ex hq1; simp only [ints_LI, bys_LB, blks_LK, lls_LL] at hp0 ⊢; exact (spec_same _ _ _ _ hp0).lift rfl _
  · cases h
theorem spec_sis (x : Int) : Spec Tryz.prog 0 142 [vI .i32 x] [] [] (vB (smpX x)) [] [] := by
  refine sE (md := fun _ => 0) (L := []) [] 5 tabs_nil Tryz.func142 rfl rfl rfl ?_
  simp (maxSteps := 1000000) only [↓gPre, gPost, gCore, gDef, gSt, gS0, Nat.reduceShiftRight, Nat.reduceMod, ↓reduceIte, reduceCtorEq, Nat.reduceEqDiff, Nat.reduceLT, Nat.reduceLeDiff, Nat.reduceAdd, Nat.reduceMul, Int.reduceLE, Int.reduceLT, Int.reduceNeg, Int.reduceAdd, Int.reduceToNat, Tryz.ntmps142, Tryz.results142, gTT]
  rfl
def E_sis : List V → Boxes → Toks → Name → Option Ent
  | [.c (.d (.int .i32 x))], [], [], _ => some ⟨True, vB (smpX x), [], []⟩
  | _, _, _, _ => none
def E_sis_eq := And.intro (@E_sis.eq_1) (@E_sis.eq_1)
theorem E_sis_ok : Snd Tryz.prog 142 E_sis := by
  intro vs b k n e h hn hp
  unfold E_sis at h
  split at h
  · cases h; exact (spec_sis _).lift rfl _
  · cases h
theorem spec_rsmp (x : Int) : Spec Tryz.prog 0 86 [vI .i32 x] [] [] (vB (smpX x)) [] [] := by
  refine sE (md := fun _ => 0) (L := []) [] 5 tabs_nil Tryz.func86 rfl rfl rfl ?_
  simp (maxSteps := 1000000) only [↓gPre, gPost, gCore, gDef, gSt, gS0, Nat.reduceShiftRight, Nat.reduceMod, ↓reduceIte, reduceCtorEq, Nat.reduceEqDiff, Nat.reduceLT, Nat.reduceLeDiff, Nat.reduceAdd, Nat.reduceMul, Int.reduceLE, Int.reduceLT, Int.reduceNeg, Int.reduceAdd, Int.reduceToNat, Tryz.ntmps86, Tryz.results86, gTT]
  rfl
def E_rsmp : List V → Boxes → Toks → Name → Option Ent
  | [.c (.d (.int .i32 x))], [], [], _ => some ⟨True, vB (smpX x), [], []⟩
  | _, _, _, _ => none
def E_rsmp_eq := And.intro (@E_rsmp.eq_1) (@E_rsmp.eq_1)
theorem E_rsmp_ok : Snd Tryz.prog 86 E_rsmp := by
  intro vs b k n e h hn hp
  unfold E_rsmp at h
  split at h
  · cases h; exact (spec_rsmp _).lift rfl _
  · cases h
theorem spec_bvalid (c : Int) (l : List Int) (hl : l.length ≤ 1000000) : Spec Tryz.prog 0 62 [.agg [.d (.int .i64 c), .d (.list (LI .i32 l))]] [] [] (vB (blkV c l)) [] [] := by
  refine sE (md := fun _ => 0) (L := [(142, E_sis)]) [(1, [0, 0, 0, 0, 0, 1166083620119, 0, 0, 0, 0, 0, 1166083563543, 0, 0, 0, 0, 0, 1166079426583, 0, 0, 0, 0, 0, 1165819379735, 0, 0])] 1165009879063 (tabs_cons E_sis_ok tabs_nil) Tryz.func62 rfl rfl rfl ?_
  simp (maxSteps := 1000000) only [↓gPre, gPost, gCore, gDef, gSt, gS0, Nat.reduceShiftRight, Nat.reduceMod, ↓reduceIte, reduceCtorEq, Nat.reduceEqDiff, Nat.reduceLT, Nat.reduceLeDiff, Nat.reduceAdd, Nat.reduceMul, Int.reduceLE, Int.reduceLT, Int.reduceNeg, Int.reduceAdd, Int.reduceToNat, E_sis_eq, Tryz.ntmps62, Tryz.results62, gTT]
  refine ⟨fun h => ?_, fun h => ?_, fun h => ?_, fun h => ?_⟩
  · simp only [Bool.or_eq_false_iff, decide_eq_false_iff_not] at h; omega
  · simp only [Bool.or_eq_false_iff, decide_eq_false_iff_not] at h; omega
  · have hc : chBk c l.length = true := h
    simp [blkV, hc]
  have hc : chBk c l.length = false := h
  refine ELoop_keep (fun n => ⟨[(34, vI .i64 (n : Nat))], [], []⟩) (fun n => n ≤ l.length ∧ (l.take n).all smpX = true) (fun n => l.length - n) (· + 1) 0 ⟨Nat.zero_le _, rfl⟩ ?_ ?_
  · simp (maxSteps := 1000000) only [↓gPre, gPost, gCore, gDef, gSt, gS0, Nat.reduceShiftRight, Nat.reduceMod, ↓reduceIte, reduceCtorEq, Nat.reduceEqDiff, Nat.reduceLT, Nat.reduceLeDiff, Nat.reduceAdd, Nat.reduceMul, Int.reduceLE, Int.reduceLT, Int.reduceNeg, Int.reduceAdd, Int.reduceToNat, E_sis_eq, Tryz.ntmps62, Tryz.results62, gTT]
    rfl
  rintro n ⟨hn, hok⟩
  simp (maxSteps := 1000000) only [↓gPre, gPost, gCore, gDef, gSt, gS0, Nat.reduceShiftRight, Nat.reduceMod, ↓reduceIte, reduceCtorEq, Nat.reduceEqDiff, Nat.reduceLT, Nat.reduceLeDiff, Nat.reduceAdd, Nat.reduceMul, Int.reduceLE, Int.reduceLT, Int.reduceNeg, Int.reduceAdd, Int.reduceToNat, E_sis_eq, Tryz.ntmps62, Tryz.results62, gTT]
  refine ⟨fun h1 => ?_, fun h1 => ?_⟩
  · have hlt : n < l.length := by have := of_decide_eq_true h1; omega
    have hg : l[n]?.getD 0 = l[n] := by rw [List.getElem?_eq_getElem hlt]; rfl
    rw [hg]
    refine ⟨by omega, fun h2 => ?_, fun h2 => ?_⟩
    · have hbad : l.all smpX = false := by
        rw [List.all_eq_false]
        exact ⟨l[n], List.getElem_mem hlt, by simp [h2]⟩
      simp [blkV, hbad]
    · refine ⟨(wrapN _ (by omega)).symm, ⟨by omega, ?_⟩, by omega⟩
      rw [List.take_add_one, List.getElem?_eq_getElem hlt, List.all_append, hok]
      simpa using h2
  · have : n = l.length := by have := of_decide_eq_false h1; omega
    rw [this, List.take_length] at hok
    simp [blkV, hc, hok]
def E_bvalid : List V → Boxes → Toks → Name → Option Ent
  | [.agg [.d (.int .i64 c), .d (.list q_l)]], [], [], _ => some ⟨(ints q_l).length ≤ 1000000 ∧ q_l = LI .i32 (ints q_l), vB (blkV c (ints q_l)), [], []⟩
  | _, _, _, _ => none
def E_bvalid_eq := And.intro (@E_bvalid.eq_1) (@E_bvalid.eq_1)
theorem E_bvalid_ok : Snd Tryz.prog 62 E_bvalid := by
  intro vs b k n e h hn hp
  unfold E_bvalid at h
  split at h
  · cases h; obtain ⟨hp0, hq0⟩ := hp; obtain ⟨_, rfl⟩ := LI_ex hq0; simp only [ints_LI, bys_LB, blks_LK, lls_LL] at hp0 ⊢; exact (spec_bvalid _ _ hp0).lift rfl _
  · cases h
theorem spec_rbvalid (c : Int) (l : List Int) (hl : l.length ≤ 1000000) : Spec Tryz.prog 0 30 [.agg [.d (.int .i64 c), .d (.list (LI .i32 l))]] [] [] (vB (blkV c l)) [] [] := by
  refine sE (md := fun _ => 0) (L := [(86, E_rsmp)]) [(1, [0, 0, 0, 0, 0, 1166083620119, 0, 0, 0, 0, 0, 1166083563543, 0, 0, 0, 0, 0, 1166079426583, 0, 0, 0, 0, 0, 1165819379735, 0, 0])] 1165009879063 (tabs_cons E_rsmp_ok tabs_nil) Tryz.func30 rfl rfl rfl ?_
  simp (maxSteps := 1000000) only [↓gPre, gPost, gCore, gDef, gSt, gS0, Nat.reduceShiftRight, Nat.reduceMod, ↓reduceIte, reduceCtorEq, Nat.reduceEqDiff, Nat.reduceLT, Nat.reduceLeDiff, Nat.reduceAdd, Nat.reduceMul, Int.reduceLE, Int.reduceLT, Int.reduceNeg, Int.reduceAdd, Int.reduceToNat, E_rsmp_eq, Tryz.ntmps30, Tryz.results30, gTT]
  refine ⟨fun h => ?_, fun h => ?_, fun h => ?_, fun h => ?_⟩
  · simp only [Bool.or_eq_false_iff, decide_eq_false_iff_not] at h; omega
  · simp only [Bool.or_eq_false_iff, decide_eq_false_iff_not] at h; omega
  · have hc : chBk c l.length = true := h
    simp [blkV, hc]
  have hc : chBk c l.length = false := h
  refine ELoop_keep (fun n => ⟨[(34, vI .i64 (n : Nat))], [], []⟩) (fun n => n ≤ l.length ∧ (l.take n).all smpX = true) (fun n => l.length - n) (· + 1) 0 ⟨Nat.zero_le _, rfl⟩ ?_ ?_
  · simp (maxSteps := 1000000) only [↓gPre, gPost, gCore, gDef, gSt, gS0, Nat.reduceShiftRight, Nat.reduceMod, ↓reduceIte, reduceCtorEq, Nat.reduceEqDiff, Nat.reduceLT, Nat.reduceLeDiff, Nat.reduceAdd, Nat.reduceMul, Int.reduceLE, Int.reduceLT, Int.reduceNeg, Int.reduceAdd, Int.reduceToNat, E_rsmp_eq, Tryz.ntmps30, Tryz.results30, gTT]
    rfl
  rintro n ⟨hn, hok⟩
  simp (maxSteps := 1000000) only [↓gPre, gPost, gCore, gDef, gSt, gS0, Nat.reduceShiftRight, Nat.reduceMod, ↓reduceIte, reduceCtorEq, Nat.reduceEqDiff, Nat.reduceLT, Nat.reduceLeDiff, Nat.reduceAdd, Nat.reduceMul, Int.reduceLE, Int.reduceLT, Int.reduceNeg, Int.reduceAdd, Int.reduceToNat, E_rsmp_eq, Tryz.ntmps30, Tryz.results30, gTT]
  refine ⟨fun h1 => ?_, fun h1 => ?_⟩
  · have hlt : n < l.length := by have := of_decide_eq_true h1; omega
    have hg : l[n]?.getD 0 = l[n] := by rw [List.getElem?_eq_getElem hlt]; rfl
    rw [hg]
    refine ⟨by omega, fun h2 => ?_, fun h2 => ?_⟩
    · have hbad : l.all smpX = false := by
        rw [List.all_eq_false]
        exact ⟨l[n], List.getElem_mem hlt, by simp [h2]⟩
      simp [blkV, hbad]
    · refine ⟨(wrapN _ (by omega)).symm, ⟨by omega, ?_⟩, by omega⟩
      rw [List.take_add_one, List.getElem?_eq_getElem hlt, List.all_append, hok]
      simpa using h2
  · have : n = l.length := by have := of_decide_eq_false h1; omega
    rw [this, List.take_length] at hok
    simp [blkV, hc, hok]
def E_rbvalid : List V → Boxes → Toks → Name → Option Ent
  | [.agg [.d (.int .i64 c), .d (.list q_l)]], [], [], _ => some ⟨(ints q_l).length ≤ 1000000 ∧ q_l = LI .i32 (ints q_l), vB (blkV c (ints q_l)), [], []⟩
  | _, _, _, _ => none
def E_rbvalid_eq := And.intro (@E_rbvalid.eq_1) (@E_rbvalid.eq_1)
theorem E_rbvalid_ok : Snd Tryz.prog 30 E_rbvalid := by
  intro vs b k n e h hn hp
  unfold E_rbvalid at h
  split at h
  · cases h; obtain ⟨hp0, hq0⟩ := hp; obtain ⟨_, rfl⟩ := LI_ex hq0; simp only [ints_LI, bys_LB, blks_LK, lls_LL] at hp0 ⊢; exact (spec_rbvalid _ _ hp0).lift rfl _
  · cases h
theorem spec_frames (c : Int) (l : List Int) (hl : l.length ≤ 1000000) : Spec Tryz.prog 0 20 [.agg [.d (.int .i64 c), .d (.list (LI .i32 l))]] [] [] (vI .i64 (if blkV c l = true then ((l.length / c.toNat : Nat) : Int) else 0)) [] [] := by
  refine spec_of_E (X := ⟨Tryz.prog, tt, Tryz.f20.ntmps, 1, fun _ => 0, (tab [(30, E_rbvalid)])⟩) (M := []) (m := 39) rfl rfl ⟨tt_ok, tab_ok (tabs_cons E_rbvalid_ok tabs_nil) _ rfl rfl⟩ tt_mixed Tryz.func20 rfl (by decide) (by show (1 : Nat) ≤ _; exact Nat.le_of_ble_eq_true rfl) ⟨by simp [V.has, C.has], by simp [C.has], by simp⟩ ?_
  simp (maxSteps := 1000000) only [↓gPre, gPost, gCore, gDef, gSt, gS0, Nat.reduceShiftRight, Nat.reduceMod, ↓reduceIte, reduceCtorEq, Nat.reduceEqDiff, Nat.reduceLT, Nat.reduceLeDiff, Nat.reduceAdd, Nat.reduceMul, Int.reduceLE, Int.reduceLT, Int.reduceNeg, Int.reduceAdd, Int.reduceToNat, E_rbvalid_eq, Tryz.ntmps20, Tryz.results20, gTT]
  refine ⟨hl, fun h => ?_, fun h => ?_⟩
  · simp [h]
  have h1 : blkV c l = true := by simpa using h
  have h2 : chBk c l.length = false := by
    unfold blkV at h1
    simp only [Bool.and_eq_true, Bool.not_eq_true'] at h1
    exact h1.1
  obtain ⟨c1, c2, _⟩ := chBk_in h2
  rw [if_pos h1, Int.tdiv_eq_ediv_of_nonneg (by omega)]
  have e : (l.length : Int) / c = ((l.length / c.toNat : Nat) : Int) := by
    have : c = (c.toNat : Int) := by omega
    rw [this]
    exact (Int.natCast_ediv ..).symm
  have hle : l.length / c.toNat ≤ l.length := Nat.div_le_self ..
  rw [e]
  have c0 : ¬ c = 0 := by omega
  generalize l.length / c.toNat = z at *
  rw [IntWalk.i64_in (z : Int) (by omega)]
  exact ⟨c0, rfl⟩
def E_frames : List V → Boxes → Toks → Name → Option Ent
  | [.agg [.d (.int .i64 c), .d (.list q_l)]], [], [], _ => some ⟨(ints q_l).length ≤ 1000000 ∧ q_l = LI .i32 (ints q_l), vI .i64 (if blkV c (ints q_l) = true then (((ints q_l).length / c.toNat : Nat) : Int) else 0), [], []⟩
  | _, _, _, _ => none
def E_frames_eq := And.intro (@E_frames.eq_1) (@E_frames.eq_1)
theorem E_frames_ok : Snd Tryz.prog 20 E_frames := by
  intro vs b k n e h hn hp
  unfold E_frames at h
  split at h
  · cases h; obtain ⟨hp0, hq0⟩ := hp; obtain ⟨_, rfl⟩ := LI_ex hq0; simp only [ints_LI, bys_LB, blks_LK, lls_LL] at hp0 ⊢; exact (spec_frames _ _ hp0).lift rfl _
  · cases h
def bkR (l : List UInt8) : Nat → List UInt8
  | 0 => l
  | i + 1 => sR (bkR l i)
def bkO (l : List UInt8) (n : Nat) : List Int := (List.range n).map fun i => sV (bkR l i)
theorem spec_mblock (l : List UInt8) (c n : Int) (hc : 0 ≤ c ∧ c ≤ 8) (hn : 0 ≤ n ∧ n ≤ 1000) : Spec Tryz.prog 0 14 [.c (.lp ⟨0, 0⟩ 0), vI .i64 c, vI .i64 n] [(⟨0, 0⟩, [.d (.list (LB l))])] [] (.agg [.d (.int .i64 c), .d (.list (LI .i32 (bkO l (c * n).toNat)))]) [(⟨0, 0⟩, [.d (.list (LB (bkR l (c * n).toNat)))])] [] := by
  refine spec_of_E (X := ⟨Tryz.prog, tt, Tryz.f14.ntmps, 1, fun _ => 0, (tab [(56, E_sample)])⟩) (M := []) (m := 33223) rfl rfl ⟨tt_ok, tab_ok (tabs_cons E_sample_ok tabs_nil) _ rfl rfl⟩ tt_mixed Tryz.func14 rfl (by decide) (by show (3 : Nat) ≤ _; exact Nat.le_of_ble_eq_true rfl) ⟨by simp [V.has, C.has], by simp [C.has], by simp⟩ ?_
  simp (maxSteps := 1000000) only [↓gPre, gPost, gCore, gDef, gSt, gS0, Nat.reduceShiftRight, Nat.reduceMod, ↓reduceIte, reduceCtorEq, Nat.reduceEqDiff, Nat.reduceLT, Nat.reduceLeDiff, Nat.reduceAdd, Nat.reduceMul, Int.reduceLE, Int.reduceLT, Int.reduceNeg, Int.reduceAdd, Int.reduceToNat, E_sample_eq, Tryz.ntmps14, Tryz.results14, gTT]
  refine ELoop_nilB ⟨1, 7⟩ 1 1 ⟨1, 99⟩ rfl rfl (by simp (maxSteps := 1000000) only [↓gPre, gPost, gCore, gDef, gSt, gS0, Nat.reduceShiftRight, Nat.reduceMod, ↓reduceIte, reduceCtorEq, Nat.reduceEqDiff, Nat.reduceLT, Nat.reduceLeDiff, Nat.reduceAdd, Nat.reduceMul, Int.reduceLE, Int.reduceLT, Int.reduceNeg, Int.reduceAdd, Int.reduceToNat, E_sample_eq, Tryz.ntmps14, Tryz.results14, gTT]) (Nat.le_refl _) ?_
  simp (maxSteps := 1000000) only [↓gPre, gPost, gCore, gDef, gSt, gS0, Nat.reduceShiftRight, Nat.reduceMod, ↓reduceIte, reduceCtorEq, Nat.reduceEqDiff, Nat.reduceLT, Nat.reduceLeDiff, Nat.reduceAdd, Nat.reduceMul, Int.reduceLE, Int.reduceLT, Int.reduceNeg, Int.reduceAdd, Int.reduceToNat, E_sample_eq, Tryz.ntmps14, Tryz.results14, gTT]
  have hcn : 0 ≤ c * n ∧ c * n ≤ 8000 := by
    refine ⟨Int.mul_nonneg hc.1 hn.1, ?_⟩
    have := mul_bd (x := c) (y := n) (A := 8) (B := 1000) (by omega) (by omega) hn.1 hn.2 (by decide)
    omega
  refine ELoop_keep (fun i => ⟨[(8, vI .i64 (i : Nat))], [(⟨1, 7⟩, [.d (.int .i64 c), .own ⟨1, 99⟩ (LI .i32 (bkO l i))]), (⟨0, 0⟩, [.d (.list (LB (bkR l i)))])], [(⟨1, 99⟩, ⟨false, 1, LI .i32 (bkO l i)⟩)]⟩) (fun i => i ≤ (c * n).toNat) (fun i => (c * n).toNat - i) (· + 1) 0 (Nat.zero_le _) ?_ ?_
  · simp (maxSteps := 1000000) only [↓gPre, gPost, gCore, gDef, gSt, gS0, Nat.reduceShiftRight, Nat.reduceMod, ↓reduceIte, reduceCtorEq, Nat.reduceEqDiff, Nat.reduceLT, Nat.reduceLeDiff, Nat.reduceAdd, Nat.reduceMul, Int.reduceLE, Int.reduceLT, Int.reduceNeg, Int.reduceAdd, Int.reduceToNat, E_sample_eq, Tryz.ntmps14, Tryz.results14, gTT]
    exact ⟨rfl, ⟨rfl, rfl⟩, rfl⟩
  intro i hi
  simp (maxSteps := 1000000) only [↓gPre, gPost, gCore, gDef, gSt, gS0, Nat.reduceShiftRight, Nat.reduceMod, ↓reduceIte, reduceCtorEq, Nat.reduceEqDiff, Nat.reduceLT, Nat.reduceLeDiff, Nat.reduceAdd, Nat.reduceMul, Int.reduceLE, Int.reduceLT, Int.reduceNeg, Int.reduceAdd, Int.reduceToNat, E_sample_eq, Tryz.ntmps14, Tryz.results14, gTT]
  rw [IntWalk.i64_in (c * n) (by omega)]
  have hl : (bkO l i).length = i := by simp [bkO]
  refine ⟨fun h => ?_, fun h => ?_⟩
  · have h1 := of_decide_eq_true h
    have e2 : bkO l (i + 1) = bkO l i ++ [sV (bkR l i)] := by simp [bkO, List.range_succ]
    rw [e2]
    rw [← IntWalk.i64_in (c * n) (by omega)]
    exact ⟨by kernel_rfl, by unfold roomOK; omega, ⟨(wrapN _ (by omega)).symm, ⟨rfl, rfl⟩, rfl⟩, by rw [IntWalk.i64_in (c * n) (by omega)]; omega, by rw [IntWalk.i64_in (c * n) (by omega)]; omega⟩
  · have h1 := of_decide_eq_false h
    have : (c * n).toNat = i := by omega
    rw [this]
    exact ⟨rfl, rfl⟩
def E_mblock : List V → Boxes → Toks → Name → Option Ent
  | [.c (.lp n0 0), .c (.d (.int .i64 c)), .c (.d (.int .i64 n))], [(m0, [.d (.list q_l)])], [], _ => some ⟨(0 ≤ c ∧ c ≤ 8) ∧ (0 ≤ n ∧ n ≤ 1000) ∧ n0.lv ≤ 1 ∧ m0 = n0 ∧ q_l = LB (bys q_l), .agg [.d (.int .i64 c), .d (.list (LI .i32 (bkO (bys q_l) (c * n).toNat)))], [(n0, [.d (.list (LB (bkR (bys q_l) (c * n).toNat)))])], []⟩
  | _, _, _, _ => none
def E_mblock_eq := And.intro (@E_mblock.eq_1) (@E_mblock.eq_1)
theorem E_mblock_ok : Snd Tryz.prog 14 E_mblock := by
  intro vs b k n e h hn hp
  unfold E_mblock at h
  split at h
  · cases h; obtain ⟨hp0, hp1, hl0, rfl, hq0⟩ := hp; obtain ⟨_, rfl⟩ := LB_ex hq0; simp only [ints_LI, bys_LB, blks_LK, lls_LL] at hp0 hp1 ⊢; exact Spec.ren1 (spec_mblock _ _ _ hp0 hp1) 0 (by simp [supOK, V.names, C.names, namesB, namesK]) hl0 
  · cases h
theorem blkV_in {k : Int} {l : List Int} (h : blkV k l = true) : chBk k l.length = false ∧ l.all smpX = true := by
  unfold blkV at h
  simpa using h
theorem blkV_frames {c : Int} {l : List Int} (h : blkV c l = true) (hl : l.length ≤ 1000000) : l.length / c.toNat ≤ 65536 := by
  have hc := (blkV_in h).1
  obtain ⟨h1, h2, h3⟩ := chBk_in hc
  have hz : l.length / c.toNat ≤ l.length := Nat.div_le_self ..
  unfold chBk at hc
  simp only [Bool.or_eq_false_iff, decide_eq_false_iff_not] at hc
  have e : (l.length : Int).tdiv c = ((l.length / c.toNat : Nat) : Int) := tdivN _ (by omega)
  rw [e] at hc
  generalize l.length / c.toNat = z at *
  rw [IntWalk.i64_in (z : Int) (by omega)] at hc
  omega
theorem blkV_mk {c : Int} {l : List Int} {z : Nat} (hc : 1 ≤ c ∧ c ≤ 8) (hd : l.length = z * c.toNat) (hz : z ≤ 65536) (hs : l.all smpX = true) : blkV c l = true := by
  unfold blkV
  have hch : chBk c l.length = false := by
    have e : c = (c.toNat : Int) := by omega
    unfold chBk
    have e2 : ((l.length : Nat) : Int) = (z : Int) * c := by rw [hd, Int.natCast_mul, ← e]
    rw [e2, Int.mul_tmod_left, Int.mul_tdiv_cancel _ (by omega), IntWalk.i64_in _ (by omega)]
    simp only [Bool.or_eq_false_iff, decide_eq_false_iff_not, bne_self_eq_false, and_true]
    omega
  rw [hch, hs]; rfl
end Go.Vam
