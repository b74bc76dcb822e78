/- Limiters. Conditions: none. -/
import Derived.Test.YtmliamkbpbdlbaaMixA
set_option linter.unusedVariables false
set_option linter.defProp false
set_option linter.unusedSimpArgs false
set_option maxRecDepth 40000
set_option maxHeartbeats 4000000
namespace Go.Vam
open Go.Proofs

def validL (t r g : Int) : Bool := decide (1 ≤ t) && decide (t ≤ 8388607) && decide (1 ≤ r) && decide (r ≤ 65536) && decide (0 ≤ g) && decide (g ≤ 65536)
theorem validL_in {t r g : Int} (h : validL t r g = true) : (1 ≤ t ∧ t ≤ 8388607) ∧ (1 ≤ r ∧ r ≤ 65536) ∧ 0 ≤ g ∧ g ≤ 65536 := by
  simp only [validL, Bool.and_eq_true, decide_eq_true_eq] at h
  omega
theorem validL_of {t r g : Int} (h : (1 ≤ t ∧ t ≤ 8388607) ∧ (1 ≤ r ∧ r ≤ 65536) ∧ 0 ≤ g ∧ g ≤ 65536) : validL t r g = true := by
  simp only [validL, Bool.and_eq_true, decide_eq_true_eq]
  omega
def neededL (t p : Int) : Int := if (decide (t < 1) || decide (8388607 < t) || decide (p < 0) || decide (1099511627776 < p)) = true then 0 else if p ≤ t then 65536 else t * 65536 / p
def newT (t r : Int) : Int := if validL t r 65536 = true then t else 0
def newR (t r : Int) : Int := if validL t r 65536 = true then r else 0
def newG (t r : Int) : Int := if validL t r 65536 = true then 65536 else 0
def newX (t r : Int) : Int := if validL t r 65536 = true then 0 else 2
def magL (n : Int) : Int := if n < 0 then -n else n

theorem spec_lvalid (t r g : Int) : Spec Try.prog 0 48 [.agg [.d (.int .i64 t), .d (.int .i64 r), .d (.int .i64 g)]] [] [] (vB (validL t r g)) [] [] := by
  refine spec_of_E (X := ⟨Try.prog, tt, Try.f48.ntmps, 1, fun _ => 0, (tab [])⟩) (M := [(1, [0, 0, 0, 0, 0, 2147483463, 0, 0, 0, 0, 0, 2147469319, 0, 0, 0, 0, 0, 2146435079, 0, 0, 0, 0, 0, 2080374791, 0, 0, 0, 0, 0])]) (m := 7) rfl rfl ⟨tt_ok, tab_ok tabs_nil _ rfl rfl⟩ tt_mixed Try.func48 rfl (by decide) (by show (1 : Nat) ≤ _; exact Nat.le_of_ble_eq_true rfl) ⟨fun m hm => (V.bare_has rfl m hm).elim, by simp, by simp⟩ ?_
  simp only [↓gPre, gPost, gCore, gDef, Nat.reduceShiftRight, Nat.reduceMod, if_true, if_false, ↓reduceIte, reduceCtorEq, Nat.reduceEqDiff, Nat.reduceLT, Nat.reduceLeDiff, implies_true, forall_const, eq_self, ne_eq, not_true_eq_false, not_false_eq_true, imp_self, Nat.reduceAdd, Nat.reduceMul, Int.reduceLE, Int.reduceLT, Int.reduceNeg, Int.reduceAdd, Int.reduceToNat, Try.ntmps48, Try.results48, gTT]
  rfl
def E_lvalid : List V → Boxes → Toks → Name → Option Ent
  | [.agg [.d (.int .i64 t), .d (.int .i64 r), .d (.int .i64 g)]], [], [], _ => some ⟨True, vB (validL t r g), [], []⟩
  | _, _, _, _ => none
def E_lvalid_eq := And.intro (@E_lvalid.eq_1) (@E_lvalid.eq_1)
theorem E_lvalid_ok : Snd Try.prog 48 E_lvalid := by
  intro vs b k n e h hn hp
  unfold E_lvalid at h
  split at h
  · cases h; exact (spec_lvalid _ _ _).lift rfl _
  · cases h

theorem spec_lrvalid (t r g : Int) : Spec Try.prog 0 35 [.agg [.d (.int .i64 t), .d (.int .i64 r), .d (.int .i64 g)]] [] [] (vB (validL t r g)) [] [] := by
  refine spec_of_E (X := ⟨Try.prog, tt, Try.f35.ntmps, 1, fun _ => 0, (tab [])⟩) (M := [(1, [0, 0, 0, 0, 0, 2147483463, 0, 0, 0, 0, 0, 2147469319, 0, 0, 0, 0, 0, 2146435079, 0, 0, 0, 0, 0, 2080374791, 0, 0, 0, 0, 0])]) (m := 7) rfl rfl ⟨tt_ok, tab_ok tabs_nil _ rfl rfl⟩ tt_mixed Try.func35 rfl (by decide) (by show (1 : Nat) ≤ _; exact Nat.le_of_ble_eq_true rfl) ⟨fun m hm => (V.bare_has rfl m hm).elim, by simp, by simp⟩ ?_
  simp only [↓gPre, gPost, gCore, gDef, Nat.reduceShiftRight, Nat.reduceMod, if_true, if_false, ↓reduceIte, reduceCtorEq, Nat.reduceEqDiff, Nat.reduceLT, Nat.reduceLeDiff, implies_true, forall_const, eq_self, ne_eq, not_true_eq_false, not_false_eq_true, imp_self, Nat.reduceAdd, Nat.reduceMul, Int.reduceLE, Int.reduceLT, Int.reduceNeg, Int.reduceAdd, Int.reduceToNat, Try.ntmps35, Try.results35, gTT]
  rfl
def E_lrvalid : List V → Boxes → Toks → Name → Option Ent
  | [.agg [.d (.int .i64 t), .d (.int .i64 r), .d (.int .i64 g)]], [], [], _ => some ⟨True, vB (validL t r g), [], []⟩
  | _, _, _, _ => none
def E_lrvalid_eq := And.intro (@E_lrvalid.eq_1) (@E_lrvalid.eq_1)
theorem E_lrvalid_ok : Snd Try.prog 35 E_lrvalid := by
  intro vs b k n e h hn hp
  unfold E_lrvalid at h
  split at h
  · cases h; exact (spec_lrvalid _ _ _).lift rfl _
  · cases h

theorem spec_needed (t p : Int) : Spec Try.prog 0 50 [vI .i64 t, vI .i64 p] [] [] (vI .i64 (neededL t p)) [] [] := by
  refine spec_of_E (X := ⟨Try.prog, tt, Try.f50.ntmps, 1, fun _ => 0, (tab [])⟩) (M := [(1, [0, 0, 0, 0, 0, 2095155, 0, 0, 0, 0, 0, 2031667, 0, 0, 0])]) (m := 1048627) rfl rfl ⟨tt_ok, tab_ok tabs_nil _ rfl rfl⟩ tt_mixed Try.func50 rfl (by decide) (by show (2 : Nat) ≤ _; exact Nat.le_of_ble_eq_true rfl) ⟨fun m hm => (V.bare_has rfl m hm).elim, by simp, by simp⟩ ?_
  simp only [↓gPre, gPost, gCore, gDef, Nat.reduceShiftRight, Nat.reduceMod, if_true, if_false, ↓reduceIte, reduceCtorEq, Nat.reduceEqDiff, Nat.reduceLT, Nat.reduceLeDiff, implies_true, forall_const, eq_self, ne_eq, not_true_eq_false, not_false_eq_true, imp_self, Nat.reduceAdd, Nat.reduceMul, Int.reduceLE, Int.reduceLT, Int.reduceNeg, Int.reduceAdd, Int.reduceToNat, Try.ntmps50, Try.results50, gTT]
  refine ⟨fun h => by simp only [neededL, h, if_true], fun h => ?_⟩
  have hf : ¬ ((decide (t < 1) || decide (8388607 < t) || decide (p < 0) || decide (1099511627776 < p)) = true) := by rw [h]; decide
  simp only [neededL, if_neg hf]
  simp only [Bool.or_eq_false_iff, decide_eq_false_iff_not] at h
  refine ⟨fun h2 => if_pos (of_decide_eq_true h2), fun h2 => ?_⟩
  have h3 := of_decide_eq_false h2
  rw [if_neg h3]
  have hq : 0 ≤ t * 65536 / p ∧ t * 65536 / p ≤ t * 65536 := ⟨Int.ediv_nonneg (by omega) (by omega), Int.ediv_le_self _ (by omega)⟩
  rw [IntWalk.i64_in (t * 65536) (by omega), Int.tdiv_eq_ediv_of_nonneg (by omega), IntWalk.i64_in (t * 65536 / p) (by omega)]
  exact ⟨by omega, rfl⟩
def E_needed : List V → Boxes → Toks → Name → Option Ent
  | [.c (.d (.int .i64 t)), .c (.d (.int .i64 p))], [], [], _ => some ⟨True, vI .i64 (neededL t p), [], []⟩
  | _, _, _, _ => none
def E_needed_eq := And.intro (@E_needed.eq_1) (@E_needed.eq_1)
theorem E_needed_ok : Snd Try.prog 50 E_needed := by
  intro vs b k n e h hn hp
  unfold E_needed at h
  split at h
  · cases h; exact (spec_needed _ _).lift rfl _
  · cases h

theorem spec_rneeded (t p : Int) : Spec Try.prog 0 61 [vI .i64 t, vI .i64 p] [] [] (vI .i64 (neededL t p)) [] [] := by
  refine spec_of_E (X := ⟨Try.prog, tt, Try.f61.ntmps, 1, fun _ => 0, (tab [])⟩) (M := [(1, [0, 0, 0, 0, 0, 2620435, 0, 0, 0, 0, 0, 2588691, 0, 0])]) (m := 2359315) rfl rfl ⟨tt_ok, tab_ok tabs_nil _ rfl rfl⟩ tt_mixed Try.func61 rfl (by decide) (by show (2 : Nat) ≤ _; exact Nat.le_of_ble_eq_true rfl) ⟨fun m hm => (V.bare_has rfl m hm).elim, by simp, by simp⟩ ?_
  simp only [↓gPre, gPost, gCore, gDef, Nat.reduceShiftRight, Nat.reduceMod, if_true, if_false, ↓reduceIte, reduceCtorEq, Nat.reduceEqDiff, Nat.reduceLT, Nat.reduceLeDiff, implies_true, forall_const, eq_self, ne_eq, not_true_eq_false, not_false_eq_true, imp_self, Nat.reduceAdd, Nat.reduceMul, Int.reduceLE, Int.reduceLT, Int.reduceNeg, Int.reduceAdd, Int.reduceToNat, Try.ntmps61, Try.results61, gTT]
  refine ⟨fun h => by simp only [neededL, h, if_true], fun h => ?_⟩
  have hf : ¬ ((decide (t < 1) || decide (8388607 < t) || decide (p < 0) || decide (1099511627776 < p)) = true) := by rw [h]; decide
  simp only [neededL, if_neg hf]
  simp only [Bool.or_eq_false_iff, decide_eq_false_iff_not] at h
  refine ⟨fun h2 => if_pos (of_decide_eq_true h2), fun h2 => ?_⟩
  have h3 := of_decide_eq_false h2
  rw [if_neg h3]
  have hq : 0 ≤ t * 65536 / p ∧ t * 65536 / p ≤ t * 65536 := ⟨Int.ediv_nonneg (by omega) (by omega), Int.ediv_le_self _ (by omega)⟩
  rw [IntWalk.i64_in (t * 65536) (by omega), Int.tdiv_eq_ediv_of_nonneg (by omega), IntWalk.i64_in (t * 65536 / p) (by omega)]
  exact ⟨by omega, rfl⟩
def E_rneeded : List V → Boxes → Toks → Name → Option Ent
  | [.c (.d (.int .i64 t)), .c (.d (.int .i64 p))], [], [], _ => some ⟨True, vI .i64 (neededL t p), [], []⟩
  | _, _, _, _ => none
def E_rneeded_eq := And.intro (@E_rneeded.eq_1) (@E_rneeded.eq_1)
theorem E_rneeded_ok : Snd Try.prog 61 E_rneeded := by
  intro vs b k n e h hn hp
  unfold E_rneeded at h
  split at h
  · cases h; exact (spec_rneeded _ _).lift rfl _
  · cases h

theorem spec_mag (n : Int) (hn : -1099511627776 ≤ n ∧ n ≤ 1099511627776) : Spec Try.prog 0 60 [vI .i64 n] [] [] (vI .i64 (magL n)) [] [] := by
  refine spec_of_E (X := ⟨Try.prog, tt, Try.f60.ntmps, 1, fun _ => 0, (tab [])⟩) (M := []) (m := 21) rfl rfl ⟨tt_ok, tab_ok tabs_nil _ rfl rfl⟩ tt_mixed Try.func60 rfl (by decide) (by show (1 : Nat) ≤ _; exact Nat.le_of_ble_eq_true rfl) ⟨fun m hm => (V.bare_has rfl m hm).elim, by simp, by simp⟩ ?_
  simp only [↓gPre, gPost, gCore, gDef, Nat.reduceShiftRight, Nat.reduceMod, if_true, if_false, ↓reduceIte, reduceCtorEq, Nat.reduceEqDiff, Nat.reduceLT, Nat.reduceLeDiff, implies_true, forall_const, eq_self, ne_eq, not_true_eq_false, not_false_eq_true, imp_self, Nat.reduceAdd, Nat.reduceMul, Int.reduceLE, Int.reduceLT, Int.reduceNeg, Int.reduceAdd, Int.reduceToNat, Try.ntmps60, Try.results60, gTT]
  refine ⟨fun h => ?_, fun h => ?_⟩
  · have := of_decide_eq_true h
    rw [magL, if_pos this, IntWalk.i64_in (0 - n) (by omega)]; omega
  · rw [magL, if_neg (of_decide_eq_false h)]
def E_mag : List V → Boxes → Toks → Name → Option Ent
  | [.c (.d (.int .i64 n))], [], [], _ => some ⟨(-1099511627776 ≤ n ∧ n ≤ 1099511627776), vI .i64 (magL n), [], []⟩
  | _, _, _, _ => none
def E_mag_eq := And.intro (@E_mag.eq_1) (@E_mag.eq_1)
theorem E_mag_ok : Snd Try.prog 60 E_mag := by
  intro vs b k n e h hn hp
  unfold E_mag at h
  split at h
  · cases h; have hp0 := hp; exact (spec_mag _ hp0).lift rfl _
  · cases h

def pstep (p x : Int) : Int := if (if p < x then x else p) < -x then -x else (if p < x then x else p)
def peakN (f : List Int) (n : Nat) : Int := (f.take n).foldl pstep 0
def peakL (f : List Int) : Int := f.foldl pstep 0
def minI (a b : Int) : Int := if b < a then b else a
/-- The gain after a frame; what a sample becomes. -/
def gainL (t r g : Int) (f : List Int) : Int := minI (neededL t (peakL f)) (g + r)
theorem pstep_le {p x : Int} (h : 0 ≤ p ∧ p ≤ 1099511627776) (hx : -1099511627776 ≤ x ∧ x ≤ 1099511627776) : 0 ≤ pstep p x ∧ pstep p x ≤ 1099511627776 := by unfold pstep; omega
theorem neededL_in {t p : Int} : 0 ≤ neededL t p ∧ neededL t p ≤ 65536 := by
  unfold neededL
  split
  · omega
  · rename_i h
    simp only [Bool.or_eq_true, decide_eq_true_eq, not_or] at h
    split
    · omega
    · refine ⟨Int.ediv_nonneg (by omega) (by omega), ?_⟩
      refine Int.ediv_le_of_le_mul (by omega) ?_
      have := Int.mul_le_mul_of_nonneg_right (show t ≤ p by omega) (show (0 : Int) ≤ 65536 by decide)
      omega
theorem gainL_in {t r g : Int} (h : validL t r g = true) (f : List Int) : 0 ≤ gainL t r g f ∧ gainL t r g f ≤ 65536 := by
  have := validL_in h
  have := neededL_in (t := t) (p := peakL f)
  unfold gainL minI
  omega
def ampL (g x : Int) : Int := satG ((x * g).tdiv 65536)
theorem tdiv_bd {x A : Int} (h1 : -A ≤ x) (h2 : x ≤ A) : -A ≤ x.tdiv 65536 ∧ x.tdiv 65536 ≤ A := by
  rcases Int.le_total 0 x with h | h
  · rw [Int.tdiv_eq_ediv_of_nonneg h]; omega
  · have e : x.tdiv 65536 = -((-x) / 65536) := by
      rw [← Int.tdiv_eq_ediv_of_nonneg (by omega), Int.neg_tdiv, Int.neg_neg]
    rw [e]; omega
theorem amp_eq {x g : Int} (hx : -1099511627776 ≤ x ∧ x ≤ 1099511627776) (hg : 0 ≤ g ∧ g ≤ 65536) : satG (IntKind.i64.wrap ((IntKind.i64.wrap (x * g)).tdiv 65536)) = ampL g x := by
  have h1 := mul_bd (x := x) (y := g) (A := 1099511627776) (B := 65536) hx.1 hx.2 hg.1 hg.2 (by decide)
  have h2 := tdiv_bd h1.1 h1.2
  rw [IntWalk.i64_in (x * g) (by omega), IntWalk.i64_in _ (by omega)]
  rfl

theorem spec_lframe (f o : List Int) (t r g c : Int) (hf : ∀ x ∈ f, -1099511627776 ≤ x ∧ x ≤ 1099511627776) (hl : o.length + f.length ≤ 1000000) (hv : validL t r g = true) : Spec Try.prog 0 49 [vL (LI .i64 f), .c (.lp ⟨0, 0⟩ 0), .c (.lp ⟨0, 1⟩ 0)] [(⟨0, 0⟩, [.d (.int .i64 t), .d (.int .i64 r), .d (.int .i64 g)]), (⟨0, 1⟩, [.d (.int .i64 c), .own ⟨0, 2⟩ (LI .i32 o)])] [(⟨0, 2⟩, ⟨false, 1, (LI .i32 o)⟩)] (.tup []) [(⟨0, 0⟩, [.d (.int .i64 t), .d (.int .i64 r), .d (.int .i64 (gainL t r g f))]), (⟨0, 1⟩, [.d (.int .i64 c), .own ⟨0, 2⟩ (LI .i32 (o ++ f.map (ampL (gainL t r g f))))])] [(⟨0, 2⟩, ⟨false, 1, LI .i32 (o ++ f.map (ampL (gainL t r g f)))⟩)] := by
  refine spec_of_E (X := ⟨Try.prog, tt, Try.f49.ntmps, 1, fun _ => 0, (tab [(50, E_needed), (51, E_sat)])⟩) (M := [(6, [0, 0, 0, 0, 0, 68669153111, 0, 0, 0, 0, 0, 0]), (10, [0, 0, 0, 0, 0, 554768040730455, 0, 0, 0, 0, 0, 0])]) (m := 64424517463) rfl rfl ⟨tt_ok, tab_ok (tabs_cons E_needed_ok (tabs_cons E_sat_ok tabs_nil)) _ rfl rfl⟩ tt_mixed Try.func49 rfl (by decide) (by show (3 : Nat) ≤ _; exact Nat.le_of_ble_eq_true rfl) ⟨by simp [V.has, C.has], by simp [C.has], by simp⟩ ?_
  simp only [↓gPre, gPost, gCore, gDef, Nat.reduceShiftRight, Nat.reduceMod, if_true, if_false, ↓reduceIte, reduceCtorEq, Nat.reduceEqDiff, Nat.reduceLT, Nat.reduceLeDiff, implies_true, forall_const, eq_self, ne_eq, not_true_eq_false, not_false_eq_true, imp_self, Nat.reduceAdd, Nat.reduceMul, Int.reduceLE, Int.reduceLT, Int.reduceNeg, Int.reduceAdd, Int.reduceToNat, E_needed_eq, E_sat_eq, Try.ntmps49, Try.results49, gTT]
  refine ELoop_keep (fun n => ⟨[(11, vI .i64 (n : Nat)), (4, vI .i64 (peakN f n))], [], []⟩) (fun n => n ≤ f.length) (fun n => f.length - n) (· + 1) 0 (Nat.zero_le _) ?_ ?_
  · simp only [↓gPre, gPost, gCore, gDef, Nat.reduceShiftRight, Nat.reduceMod, if_true, if_false, ↓reduceIte, reduceCtorEq, Nat.reduceEqDiff, Nat.reduceLT, Nat.reduceLeDiff, implies_true, forall_const, eq_self, ne_eq, not_true_eq_false, not_false_eq_true, imp_self, Nat.reduceAdd, Nat.reduceMul, Int.reduceLE, Int.reduceLT, Int.reduceNeg, Int.reduceAdd, Int.reduceToNat, E_needed_eq, E_sat_eq, Try.ntmps49, Try.results49, gTT]
    exact ⟨rfl, rfl⟩
  intro n hn
  simp only [↓gPre, gPost, gCore, gDef, Nat.reduceShiftRight, Nat.reduceMod, if_true, if_false, ↓reduceIte, reduceCtorEq, Nat.reduceEqDiff, Nat.reduceLT, Nat.reduceLeDiff, implies_true, forall_const, eq_self, ne_eq, not_true_eq_false, not_false_eq_true, imp_self, Nat.reduceAdd, Nat.reduceMul, Int.reduceLE, Int.reduceLT, Int.reduceNeg, Int.reduceAdd, Int.reduceToNat, E_needed_eq, E_sat_eq, Try.ntmps49, Try.results49, gTT]
  refine ⟨fun h => ?_, fun h => ⟨by kernel_rfl, ?_⟩⟩
  · have hlt : n < f.length := by have := of_decide_eq_true h; omega
    have hx := hf _ (List.getElem_mem hlt)
    have hg : f[n]?.getD 0 = f[n] := by rw [List.getElem?_eq_getElem hlt]; rfl
    refine ⟨by omega, ⟨(wrapN _ (by omega)).symm, ?_⟩, by omega, by omega⟩
    rw [hg, IntWalk.i64_in (0 - f[n]) (by omega), Int.zero_sub]
    simp only [peakN, List.take_add_one, List.getElem?_eq_getElem hlt, List.foldl_append, Option.toList_some, List.foldl_cons, List.foldl_nil, pstep]
    rfl
  have hnl : n = f.length := by have := of_decide_eq_false h; omega
  have hG : (if IntKind.i64.wrap (g + r) < neededL t (peakN f n) then IntKind.i64.wrap (g + r) else neededL t (peakN f n)) = gainL t r g f := by
    have := validL_in hv
    rw [IntWalk.i64_in (g + r) (by omega), hnl]
    simp only [gainL, minI, peakN, peakL, List.take_length]
    rfl
  rw [hG]
  have hGin : 0 ≤ gainL t r g f ∧ gainL t r g f ≤ 65536 := gainL_in hv f
  refine ELoop_keep (fun n => ⟨[(34, vI .i64 (n : Nat))], [(⟨0, 1⟩, [.d (.int .i64 c), .own ⟨0, 2⟩ (LI .i32 (o ++ (f.take n).map (ampL (gainL t r g f))))])], [(⟨0, 2⟩, ⟨false, 1, LI .i32 (o ++ (f.take n).map (ampL (gainL t r g f)))⟩)]⟩) (fun n => n ≤ f.length) (fun n => f.length - n) (· + 1) 0 (Nat.zero_le _) ?_ ?_
  · simp only [↓gPre, gPost, gCore, gDef, Nat.reduceShiftRight, Nat.reduceMod, if_true, if_false, ↓reduceIte, reduceCtorEq, Nat.reduceEqDiff, Nat.reduceLT, Nat.reduceLeDiff, implies_true, forall_const, eq_self, ne_eq, not_true_eq_false, not_false_eq_true, imp_self, Nat.reduceAdd, Nat.reduceMul, Int.reduceLE, Int.reduceLT, Int.reduceNeg, Int.reduceAdd, Int.reduceToNat, E_needed_eq, E_sat_eq, Try.ntmps49, Try.results49, gTT]
    rfl
  intro n hn
  simp only [↓gPre, gPost, gCore, gDef, Nat.reduceShiftRight, Nat.reduceMod, if_true, if_false, ↓reduceIte, reduceCtorEq, Nat.reduceEqDiff, Nat.reduceLT, Nat.reduceLeDiff, implies_true, forall_const, eq_self, ne_eq, not_true_eq_false, not_false_eq_true, imp_self, Nat.reduceAdd, Nat.reduceMul, Int.reduceLE, Int.reduceLT, Int.reduceNeg, Int.reduceAdd, Int.reduceToNat, E_needed_eq, E_sat_eq, Try.ntmps49, Try.results49, gTT]
  refine ⟨fun h => ?_, fun h => ?_⟩
  · have hlt : n < f.length := by have := of_decide_eq_true h; omega
    have hx := hf _ (List.getElem_mem hlt)
    have hg : f[n]?.getD 0 = f[n] := by rw [List.getElem?_eq_getElem hlt]; rfl
    have e1 : o ++ List.map (ampL (gainL t r g f)) (List.take (n + 1) f) = o ++ List.map (ampL (gainL t r g f)) (List.take n f) ++ [satG (IntKind.i64.wrap ((IntKind.i64.wrap (f[n]?.getD 0 * gainL t r g f)).tdiv 65536))] := by
      rw [hg, amp_eq hx hGin, List.take_add_one, List.getElem?_eq_getElem hlt, List.map_append, List.append_assoc]
      rfl
    rw [e1]
    refine ⟨by omega, by kernel_rfl, by decide, ?_, ⟨(wrapN _ (by omega)).symm, rfl, rfl⟩, by omega, by omega⟩
    have hlen : (o ++ List.map (ampL (gainL t r g f)) (List.take n f)).length ≤ 1000000 := by
      rw [List.length_append, List.length_map, List.length_take]; omega
    unfold roomOK
    omega
  · have hnl : n = f.length := by have := of_decide_eq_false h; omega
    rw [hnl, List.take_length]
    exact ⟨rfl, rfl⟩
def E_lframe : List V → Boxes → Toks → Name → Option Ent
  | [.c (.d (.list q_f)), .c (.lp n0 0), .c (.lp n1 0)], [(m0, [.d (.int .i64 t), .d (.int .i64 r), .d (.int .i64 g)]), (m1, [.d (.int .i64 c), .own n2 q_o])], [(j0, ⟨false, 1, q_o_1⟩)], _ => some ⟨q_o_1 = q_o ∧ (∀ x ∈ (ints q_f), -1099511627776 ≤ x ∧ x ≤ 1099511627776) ∧ (ints q_o).length + (ints q_f).length ≤ 1000000 ∧ validL t r g = true ∧ n0.lv ≤ 1 ∧ n1.lv ≤ 1 ∧ n2.lv ≤ 1 ∧ m0 = n0 ∧ m1 = n1 ∧ j0 = n2 ∧ n1 ≠ n0 ∧ n2 ≠ n0 ∧ n2 ≠ n1 ∧ q_f = LI .i64 (ints q_f) ∧ q_o = LI .i32 (ints q_o), .tup [], [(n0, [.d (.int .i64 t), .d (.int .i64 r), .d (.int .i64 (gainL t r g (ints q_f)))]), (n1, [.d (.int .i64 c), .own n2 (LI .i32 ((ints q_o) ++ (ints q_f).map (ampL (gainL t r g (ints q_f)))))])], [(n2, ⟨false, 1, LI .i32 ((ints q_o) ++ (ints q_f).map (ampL (gainL t r g (ints q_f))))⟩)]⟩
  | _, _, _, _ => none
def E_lframe_eq := And.intro (@E_lframe.eq_1) (@E_lframe.eq_1)
theorem E_lframe_ok : Snd Try.prog 49 E_lframe := by
  intro vs b k n e h hn hp
  unfold E_lframe at h
  split at h
  · cases h; obtain ⟨rfl, hp0, hp1, hp2, hl0, hl1, hl2, rfl, rfl, rfl, hd10, hd20, hd21, hq0, hq1⟩ := hp; obtain ⟨_, rfl⟩ := LI_ex hq0; obtain ⟨_, rfl⟩ := LI_ex hq1; simp only [ints_LI, bys_LB, blks_LK, lls_LL] at hp0 hp1 hp2 ⊢; exact Spec.ren3 (spec_lframe _ _ _ _ _ _ hp0 hp1 hp2) 0 1 2 (by simp [supOK, V.names, C.names, namesB, namesK]) hl0 hl1 hl2 hd10 hd20 hd21
  · cases h

def okX (x : Int) : Bool := decide (-1099511627776 ≤ x) && decide (x ≤ 1099511627776)
theorem okX_in {x : Int} (h : okX x = true) : -1099511627776 ≤ x ∧ x ≤ 1099511627776 := by simpa [okX] using h
/-- The frame of a number. -/
def frL (c : Int) (s : List Int) (i : Nat) : List Int := (s.drop (i * c.toNat)).take c.toNat
def gAt (t r g c : Int) (s : List Int) : Nat → Int
  | 0 => g
  | i + 1 => gainL t r (gAt t r g c s i) (frL c s i)
def oAt (t r g c : Int) (s : List Int) : Nat → List Int
  | 0 => []
  | i + 1 => oAt t r g c s i ++ (frL c s i).map (ampL (gAt t r g c s (i + 1)))
def chB (c : Int) (s : List Int) : Bool := decide (c < 1) || decide (8 < c) || (s.length : Int).tmod c != 0 || decide (65536 < IntKind.i64.wrap ((s.length : Int).tdiv c))
theorem chB_in {c : Int} {s : List Int} (h : chB c s = false) : 1 ≤ c ∧ c ≤ 8 ∧ s.length = s.length / c.toNat * c.toNat := by
  simp only [chB, Bool.or_eq_false_iff, decide_eq_false_iff_not, bne_eq_false_iff_eq] at h
  obtain ⟨⟨⟨h1, h2⟩, h3⟩, _⟩ := h
  refine ⟨by omega, by omega, ?_⟩
  have e : c = (c.toNat : Int) := by omega
  rw [e, Int.tmod_eq_emod_of_nonneg (by omega)] at h3
  have h4 : s.length % c.toNat = 0 := by exact_mod_cast h3
  exact (Nat.div_mul_cancel (Nat.dvd_of_mod_eq_zero h4)).symm
theorem frL_len {c : Int} {s : List Int} {i : Nat} (h : chB c s = false) (hi : i < s.length / c.toNat) : (frL c s i).length = c.toNat := by
  obtain ⟨h1, h2, h3⟩ := chB_in h
  unfold frL
  rw [List.length_take, List.length_drop]
  have : (i + 1) * c.toNat ≤ s.length / c.toNat * c.toNat := Nat.mul_le_mul_right _ hi
  rw [Nat.add_mul, Nat.one_mul] at this
  omega
theorem gAt_in {t r g c : Int} {s : List Int} (h : validL t r g = true) : ∀ i, validL t r (gAt t r g c s i) = true
  | 0 => h
  | i + 1 => by
    have h1 := gAt_in h i (c := c) (s := s)
    have h2 := validL_in h
    have h3 := gainL_in h1 (frL c s i)
    exact validL_of ⟨h2.1, h2.2.1, h3⟩
theorem oAt_len {t r g c : Int} {s : List Int} (h : chB c s = false) : ∀ i, i ≤ s.length / c.toNat → (oAt t r g c s i).length = i * c.toNat
  | 0, _ => by simp [oAt]
  | i + 1, hi => by
    rw [oAt, List.length_append, List.length_map, oAt_len h i (by omega), frL_len h (by omega), Nat.add_mul, Nat.one_mul]
def runE (t r g c : Int) (s : List Int) : Int := if validL t r g = false then 1 else if chB c s = true then 2 else if s.all okX = false then 2 else 0
theorem runE_ok {t r g c : Int} {s : List Int} (h : validL t r g = true) (h2 : chB c s = false) (h3 : s.all okX = true) : runE t r g c s = 0 := by
  simp [runE, h, h2, h3]
def runO (t r g c : Int) (s : List Int) : List Int := if runE t r g c s = 0 then oAt t r g c s (s.length / c.toNat) else []
def runC (t r g c : Int) (s : List Int) : Int := if runE t r g c s = 0 then c else 0
def runT (t r g c : Int) (s : List Int) : Int := if runE t r g c s = 0 then t else 0
def runR (t r g c : Int) (s : List Int) : Int := if runE t r g c s = 0 then r else 0
def runG (t r g c : Int) (s : List Int) : Int := if runE t r g c s = 0 then gAt t r g c s (s.length / c.toNat) else 0

theorem spec_lrun (t r g c : Int) (s : List Int) (hs : s.length ≤ 1000000) : Spec Try.prog 0 32 [.agg [.d (.int .i64 t), .d (.int .i64 r), .d (.int .i64 g)], vI .i64 c, vL (LI .i64 s)] [] [] (.tup [.agg [.int .i64 (runC t r g c s), .list (LI .i32 (runO t r g c s))], .agg [.int .i64 (runT t r g c s), .int .i64 (runR t r g c s), .int .i64 (runG t r g c s)], .int .i64 (runE t r g c s)]) [] [] := by
  refine spec_of_E (X := ⟨Try.prog, tt, Try.f32.ntmps, 1, fun _ => 0, (tab [(48, E_lvalid), (49, E_lframe)])⟩) (M := [(3, [0, 0, 0, 0, 0, 4616223153142709711, 0, 0, 0, 0, 0, 4616223152119299535, 0, 0, 0, 0, 0, 4616223088734977487, 0, 0])]) (m := 4616222878281579983) rfl rfl ⟨tt_ok, tab_ok (tabs_cons E_lvalid_ok (tabs_cons E_lframe_ok tabs_nil)) _ rfl rfl⟩ tt_mixed Try.func32 rfl (by decide) (by show (3 : Nat) ≤ _; exact Nat.le_of_ble_eq_true rfl) ⟨fun m hm => (V.bare_has rfl m hm).elim, by simp, by simp⟩ ?_
  simp only [↓gPre, gPost, gCore, gDef, Nat.reduceShiftRight, Nat.reduceMod, if_true, if_false, ↓reduceIte, reduceCtorEq, Nat.reduceEqDiff, Nat.reduceLT, Nat.reduceLeDiff, implies_true, forall_const, eq_self, ne_eq, not_true_eq_false, not_false_eq_true, imp_self, Nat.reduceAdd, Nat.reduceMul, Int.reduceLE, Int.reduceLT, Int.reduceNeg, Int.reduceAdd, Int.reduceToNat, E_lvalid_eq, E_lframe_eq, Try.ntmps32, Try.results32, gTT]
  refine ⟨fun h => ?_, fun h => ⟨fun h2 => ?_, fun h2 => ?_, fun h2 => ?_, fun h2 => ?_⟩⟩
  · have e : runE t r g c s = 1 := by simp [runE, h]
    simp [runC, runO, runT, runR, runG, e, LI_nil]
  · simp only [Bool.or_eq_false_iff, decide_eq_false_iff_not] at h2; omega
  · simp only [Bool.or_eq_false_iff, decide_eq_false_iff_not] at h2; omega
  · have hv : validL t r g = true := by simpa using h
    have hc : chB c s = true := h2
    have e : runE t r g c s = 2 := by simp [runE, hv, hc]
    simp [runC, runO, runT, runR, runG, e, LI_nil]
  have hv : validL t r g = true := by simpa using h
  have hc : chB c s = false := h2
  obtain ⟨hc1, hc2, hc3⟩ := chB_in hc
  refine ELoop_keep (fun n => ⟨[(43, vI .i64 (n : Nat))], [], []⟩) (fun n => n ≤ s.length ∧ (s.take n).all okX = true) (fun n => s.length - n) (· + 1) 0 ⟨Nat.zero_le _, rfl⟩ ?_ ?_
  · simp only [↓gPre, gPost, gCore, gDef, Nat.reduceShiftRight, Nat.reduceMod, if_true, if_false, ↓reduceIte, reduceCtorEq, Nat.reduceEqDiff, Nat.reduceLT, Nat.reduceLeDiff, implies_true, forall_const, eq_self, ne_eq, not_true_eq_false, not_false_eq_true, imp_self, Nat.reduceAdd, Nat.reduceMul, Int.reduceLE, Int.reduceLT, Int.reduceNeg, Int.reduceAdd, Int.reduceToNat, E_lvalid_eq, E_lframe_eq, Try.ntmps32, Try.results32, gTT]
    rfl
  rintro n ⟨hn, hok⟩
  simp only [↓gPre, gPost, gCore, gDef, Nat.reduceShiftRight, Nat.reduceMod, if_true, if_false, ↓reduceIte, reduceCtorEq, Nat.reduceEqDiff, Nat.reduceLT, Nat.reduceLeDiff, implies_true, forall_const, eq_self, ne_eq, not_true_eq_false, not_false_eq_true, imp_self, Nat.reduceAdd, Nat.reduceMul, Int.reduceLE, Int.reduceLT, Int.reduceNeg, Int.reduceAdd, Int.reduceToNat, E_lvalid_eq, E_lframe_eq, Try.ntmps32, Try.results32, gTT]
  refine ⟨fun h3 => ?_, fun h3 => ?_⟩
  · have hlt : n < s.length := by have := of_decide_eq_true h3; omega
    have hg : s[n]?.getD 0 = s[n] := by rw [List.getElem?_eq_getElem hlt]; rfl
    rw [hg]
    refine ⟨by omega, fun h4 => ?_, fun h4 => ?_⟩
    · have hbad : s.all okX = false := by
        rw [List.all_eq_false]
        refine ⟨s[n], List.getElem_mem hlt, ?_⟩
        simp only [Bool.or_eq_true, decide_eq_true_eq] at h4
        simp [okX]
        omega
      have e : runE t r g c s = 2 := by simp [runE, hv, hc, hbad]
      simp [runC, runO, runT, runR, runG, e, LI_nil]
    · refine ⟨(wrapN _ (by omega)).symm, ⟨by omega, ?_⟩, by omega⟩
      simp only [Bool.or_eq_false_iff, decide_eq_false_iff_not] at h4
      rw [List.take_add_one, List.getElem?_eq_getElem hlt, List.all_append, hok]
      simp [okX]
      omega
  have hall : s.all okX = true := by
    have : n = s.length := by have := of_decide_eq_false h3; omega
    rw [this, List.take_length] at hok; exact hok
  have hE := runE_ok hv hc hall
  refine ELoop_nilB ⟨1, 11⟩ 1 1 ⟨1, 99⟩ rfl rfl (by simp only [↓gPre, gPost, gCore, gDef, Nat.reduceShiftRight, Nat.reduceMod, if_true, if_false, ↓reduceIte, reduceCtorEq, Nat.reduceEqDiff, Nat.reduceLT, Nat.reduceLeDiff, implies_true, forall_const, eq_self, ne_eq, not_true_eq_false, not_false_eq_true, imp_self, Nat.reduceAdd, Nat.reduceMul, Int.reduceLE, Int.reduceLT, Int.reduceNeg, Int.reduceAdd, Int.reduceToNat, E_lvalid_eq, E_lframe_eq, Try.ntmps32, Try.results32, gTT]) (Nat.le_refl _) ?_
  simp only [↓gPre, gPost, gCore, gDef, Nat.reduceShiftRight, Nat.reduceMod, if_true, if_false, ↓reduceIte, reduceCtorEq, Nat.reduceEqDiff, Nat.reduceLT, Nat.reduceLeDiff, implies_true, forall_const, eq_self, ne_eq, not_true_eq_false, not_false_eq_true, imp_self, Nat.reduceAdd, Nat.reduceMul, Int.reduceLE, Int.reduceLT, Int.reduceNeg, Int.reduceAdd, Int.reduceToNat, E_lvalid_eq, E_lframe_eq, Try.ntmps32, Try.results32, gTT]
  refine ELoop_keep (fun i => ⟨[(13, vI .i64 ((i * c.toNat : Nat) : Int))], [(⟨1, 11⟩, [.d (.int .i64 c), .own ⟨1, 99⟩ (LI .i32 (oAt t r g c s i))]), (⟨1, 3⟩, [.d (.int .i64 t), .d (.int .i64 r), .d (.int .i64 (gAt t r g c s i))])], [(⟨1, 99⟩, ⟨false, 1, LI .i32 (oAt t r g c s i)⟩)]⟩) (fun i => i ≤ s.length / c.toNat) (fun i => s.length / c.toNat - i) (· + 1) 0 (Nat.zero_le _) ?_ ?_
  · simp only [↓gPre, gPost, gCore, gDef, Nat.reduceShiftRight, Nat.reduceMod, if_true, if_false, ↓reduceIte, reduceCtorEq, Nat.reduceEqDiff, Nat.reduceLT, Nat.reduceLeDiff, implies_true, forall_const, eq_self, ne_eq, not_true_eq_false, not_false_eq_true, imp_self, Nat.reduceAdd, Nat.reduceMul, Int.reduceLE, Int.reduceLT, Int.reduceNeg, Int.reduceAdd, Int.reduceToNat, E_lvalid_eq, E_lframe_eq, Try.ntmps32, Try.results32, gTT]
    exact ⟨by simp, ⟨rfl, rfl⟩, rfl⟩
  intro i hi
  simp only [↓gPre, gPost, gCore, gDef, Nat.reduceShiftRight, Nat.reduceMod, if_true, if_false, ↓reduceIte, reduceCtorEq, Nat.reduceEqDiff, Nat.reduceLT, Nat.reduceLeDiff, implies_true, forall_const, eq_self, ne_eq, not_true_eq_false, not_false_eq_true, imp_self, Nat.reduceAdd, Nat.reduceMul, Int.reduceLE, Int.reduceLT, Int.reduceNeg, Int.reduceAdd, Int.reduceToNat, E_lvalid_eq, E_lframe_eq, Try.ntmps32, Try.results32, gTT]
  have hm : (c.toNat : Int) = c := by omega
  have hil : (oAt t r g c s i).length = i * c.toNat := oAt_len hc i hi
  refine ⟨fun h4 => ?_, fun h4 => ⟨by kernel_rfl, ?_⟩⟩
  · have hlt : i < s.length / c.toNat := by
      have := of_decide_eq_true h4
      rw [hc3] at this
      exact Nat.lt_of_mul_lt_mul_right (a := c.toNat) (by omega)
    have hle : (i + 1) * c.toNat ≤ s.length := by
      have := Nat.mul_le_mul_right c.toNat (show i + 1 ≤ s.length / c.toNat from hlt)
      omega
    have he : (i + 1) * c.toNat = i * c.toNat + c.toNat := by rw [Nat.add_mul, Nat.one_mul]
    have e1 : IntKind.i64.wrap (((i * c.toNat : Nat) : Int) + c) = (((i + 1) * c.toNat : Nat) : Int) := by
      rw [IntWalk.i64_in _ (by omega), he]
      omega
    have e2 : ((((i + 1) * c.toNat : Nat) : Int)).toNat - i * c.toNat = c.toNat := by rw [he]; omega
    rw [e1, e2]
    have hfr : List.take c.toNat (List.drop (i * c.toNat) s) = frL c s i := rfl
    rw [hfr]
    have hfl := frL_len hc hlt
    refine ⟨by omega, ⟨fun x hx => okX_in (List.all_eq_true.1 hall x (List.mem_of_mem_drop (List.mem_of_mem_take hx))), by omega, gAt_in hv i⟩, ⟨rfl, ⟨rfl, rfl⟩, rfl⟩, by omega, by omega⟩
  have hik : i = s.length / c.toNat := by
    have h5 := of_decide_eq_false h4
    rcases Nat.lt_or_ge i (s.length / c.toNat) with h6 | h6
    · have := Nat.mul_lt_mul_of_pos_right h6 (show 0 < c.toNat by omega)
      omega
    · omega
  simp only [runC, runO, runT, runR, runG, hE, if_true, hik]
def E_lrun : List V → Boxes → Toks → Name → Option Ent
  | [.agg [.d (.int .i64 t), .d (.int .i64 r), .d (.int .i64 g)], .c (.d (.int .i64 c)), .c (.d (.list q_s))], [], [], _ => some ⟨(ints q_s).length ≤ 1000000 ∧ q_s = LI .i64 (ints q_s), .tup [.agg [.int .i64 (runC t r g c (ints q_s)), .list (LI .i32 (runO t r g c (ints q_s)))], .agg [.int .i64 (runT t r g c (ints q_s)), .int .i64 (runR t r g c (ints q_s)), .int .i64 (runG t r g c (ints q_s))], .int .i64 (runE t r g c (ints q_s))], [], []⟩
  | _, _, _, _ => none
def E_lrun_eq := And.intro (@E_lrun.eq_1) (@E_lrun.eq_1)
theorem E_lrun_ok : Snd Try.prog 32 E_lrun := by
  intro vs b k n e h hn hp
  unfold E_lrun at h
  split at h
  · cases h; obtain ⟨hp0, hq0⟩ := hp; obtain ⟨_, rfl⟩ := LI_ex hq0; simp only [ints_LI, bys_LB, blks_LK, lls_LL] at hp0 ⊢; exact (spec_lrun _ _ _ _ _ hp0).lift rfl _
  · cases h

theorem pstep_mag {p x : Int} (hp : 0 ≤ p) : pstep p x = if p < magL x then magL x else p := by unfold pstep magL; omega
theorem foldl_pstep : ∀ (f : List Int) (p : Int), 0 ≤ p → (∀ x ∈ f, -1099511627776 ≤ x ∧ x ≤ 1099511627776) → p ≤ f.foldl pstep p ∧ (∀ x ∈ f, magL x ≤ f.foldl pstep p) ∧ (p ≤ 1099511627776 → f.foldl pstep p ≤ 1099511627776)
  | [], p, hp, hf => ⟨Int.le_refl _, by simp, fun h => h⟩
  | x :: f, p, hp, hf => by
    have hx := hf x (by simp)
    have h1 : p ≤ pstep p x ∧ magL x ≤ pstep p x ∧ (p ≤ 1099511627776 → pstep p x ≤ 1099511627776) := by unfold pstep magL; omega
    obtain ⟨h2, h3, h4⟩ := foldl_pstep f (pstep p x) (by omega) (fun y hy => hf y (by simp [hy]))
    simp only [List.foldl_cons]
    refine ⟨by omega, fun y hy => ?_, fun h => h4 (h1.2.2 h)⟩
    rcases List.mem_cons.1 hy with rfl | hy
    · omega
    · exact h3 y hy
theorem peakN_in {f : List Int} (hf : ∀ x ∈ f, -1099511627776 ≤ x ∧ x ≤ 1099511627776) (n : Nat) : 0 ≤ peakN f n ∧ peakN f n ≤ 1099511627776 := by
  obtain ⟨h1, _, h3⟩ := foldl_pstep (f.take n) 0 (Int.le_refl _) (fun x hx => hf x (List.mem_of_mem_take hx))
  exact ⟨h1, h3 (by decide)⟩
/-- What comes out is not above the threshold. -/
theorem amp_thr {t r g : Int} (hv : validL t r g = true) {f : List Int} (hf : ∀ x ∈ f, -1099511627776 ≤ x ∧ x ≤ 1099511627776) {x : Int} (hx : x ∈ f) : 0 ≤ magL x * gainL t r g f / 65536 ∧ magL x * gainL t r g f / 65536 ≤ t := by
  obtain ⟨h1, h2, h3⟩ := foldl_pstep f 0 (Int.le_refl _) hf
  have hm := h2 x hx
  have hp := h3 (by decide)
  have hvi := validL_in hv
  have hg := gainL_in hv f
  have h0 : 0 ≤ magL x := by unfold magL; omega
  have hgn : gainL t r g f ≤ neededL t (peakL f) := by unfold gainL minI; omega
  refine ⟨Int.ediv_nonneg (Int.mul_nonneg h0 hg.1) (by decide), Int.ediv_le_of_le_mul (by decide) ?_⟩
  have e1 : magL x * gainL t r g f ≤ peakL f * gainL t r g f := Int.mul_le_mul_of_nonneg_right hm hg.1
  have e2 : peakL f * gainL t r g f ≤ peakL f * neededL t (peakL f) := Int.mul_le_mul_of_nonneg_left hgn (by unfold peakL; exact h1)
  have e3 : peakL f * neededL t (peakL f) ≤ t * 65536 := by
    have hpk : 0 ≤ peakL f ∧ peakL f ≤ 1099511627776 := ⟨h1, hp⟩
    unfold neededL
    split
    · rename_i h; simp only [Bool.or_eq_true, decide_eq_true_eq] at h; omega
    · split
      · rename_i h; exact Int.mul_le_mul_of_nonneg_right h (by decide)
      · rw [Int.mul_comm]; exact Int.ediv_mul_le _ (by omega)
  omega
theorem amp_ref {t r g : Int} (hv : validL t r g = true) {f : List Int} (hf : ∀ x ∈ f, -1099511627776 ≤ x ∧ x ≤ 1099511627776) {x : Int} (hx : x ∈ f) :
    (x < 0 → ampL (gainL t r g f) x = -(magL x * gainL t r g f / 65536)) ∧ (¬ x < 0 → ampL (gainL t r g f) x = magL x * gainL t r g f / 65536) := by
  have h1 := amp_thr hv hf hx
  have hvi := validL_in hv
  have hg := gainL_in hv f
  refine ⟨fun h => ?_, fun h => ?_⟩
  · have e : magL x = -x := by unfold magL; rw [if_pos h]
    rw [e] at h1 ⊢
    have e2 : (x * gainL t r g f).tdiv 65536 = -((-x) * gainL t r g f / 65536) := by
      have h2 : 0 ≤ (-x) * gainL t r g f := Int.mul_nonneg (by omega) hg.1
      rw [← Int.tdiv_eq_ediv_of_nonneg h2, Int.neg_mul, Int.neg_tdiv, Int.neg_neg]
    unfold ampL satG
    rw [e2]
    omega
  · have e : magL x = x := by unfold magL; rw [if_neg h]
    rw [e] at h1 ⊢
    have h2 : 0 ≤ x * gainL t r g f := Int.mul_nonneg (by omega) hg.1
    unfold ampL satG
    rw [Int.tdiv_eq_ediv_of_nonneg h2]
    omega

theorem spec_lrrun (t r g c : Int) (s : List Int) (hs : s.length ≤ 1000000) : Spec Try.prog 0 42 [.agg [.d (.int .i64 t), .d (.int .i64 r), .d (.int .i64 g)], vI .i64 c, vL (LI .i64 s)] [] [] (.tup [.agg [.int .i64 (runC t r g c s), .list (LI .i32 (runO t r g c s))], .agg [.int .i64 (runT t r g c s), .int .i64 (runR t r g c s), .int .i64 (runG t r g c s)], .int .i64 (runE t r g c s)]) [] [] := by
  refine spec_of_E (X := ⟨Try.prog, tt, Try.f42.ntmps, 1, fun _ => 0, (tab [(35, E_lrvalid), (61, E_rneeded), (60, E_mag)])⟩) (M := [(3, [0, 0, 0, 0, 0, 41614433904859072702442735980166607, 0, 0, 0, 0, 0, 41614433904859072702442703231040975, 0, 0, 0, 0, 0, 41614433904859072702440674932735439, 0, 0]), (21, [0, 0, 0, 0, 0, 41614590504274042303038715163229647, 0, 0, 0, 0, 0, 0])]) (m := 41614433904859072702433940424015311) rfl rfl ⟨tt_ok, tab_ok (tabs_cons E_lrvalid_ok (tabs_cons E_rneeded_ok (tabs_cons E_mag_ok tabs_nil))) _ rfl rfl⟩ tt_mixed Try.func42 rfl (by decide) (by show (3 : Nat) ≤ _; exact Nat.le_of_ble_eq_true rfl) ⟨fun m hm => (V.bare_has rfl m hm).elim, by simp, by simp⟩ ?_
  simp only [↓gPre, gPost, gCore, gDef, Nat.reduceShiftRight, Nat.reduceMod, if_true, if_false, ↓reduceIte, reduceCtorEq, Nat.reduceEqDiff, Nat.reduceLT, Nat.reduceLeDiff, implies_true, forall_const, eq_self, ne_eq, not_true_eq_false, not_false_eq_true, imp_self, Nat.reduceAdd, Nat.reduceMul, Int.reduceLE, Int.reduceLT, Int.reduceNeg, Int.reduceAdd, Int.reduceToNat, E_lrvalid_eq, E_rneeded_eq, E_mag_eq, Try.ntmps42, Try.results42, gTT]
  refine ⟨fun h => ?_, fun h => ⟨fun h2 => ?_, fun h2 => ?_, fun h2 => ?_, fun h2 => ?_⟩⟩
  · have e : runE t r g c s = 1 := by simp [runE, h]
    simp [runC, runO, runT, runR, runG, e, LI_nil]
  · simp only [Bool.or_eq_false_iff, decide_eq_false_iff_not] at h2; omega
  · simp only [Bool.or_eq_false_iff, decide_eq_false_iff_not] at h2; omega
  · have hv : validL t r g = true := by simpa using h
    have hc : chB c s = true := h2
    have e : runE t r g c s = 2 := by simp [runE, hv, hc]
    simp [runC, runO, runT, runR, runG, e, LI_nil]
  have hv : validL t r g = true := by simpa using h
  have hc : chB c s = false := h2
  obtain ⟨hc1, hc2, hc3⟩ := chB_in hc
  refine ELoop_keep (fun n => ⟨[(48, vI .i64 (n : Nat))], [], []⟩) (fun n => n ≤ s.length ∧ (s.take n).all okX = true) (fun n => s.length - n) (· + 1) 0 ⟨Nat.zero_le _, rfl⟩ ?_ ?_
  · simp only [↓gPre, gPost, gCore, gDef, Nat.reduceShiftRight, Nat.reduceMod, if_true, if_false, ↓reduceIte, reduceCtorEq, Nat.reduceEqDiff, Nat.reduceLT, Nat.reduceLeDiff, implies_true, forall_const, eq_self, ne_eq, not_true_eq_false, not_false_eq_true, imp_self, Nat.reduceAdd, Nat.reduceMul, Int.reduceLE, Int.reduceLT, Int.reduceNeg, Int.reduceAdd, Int.reduceToNat, E_lrvalid_eq, E_rneeded_eq, E_mag_eq, Try.ntmps42, Try.results42, gTT]
    rfl
  rintro n ⟨hn, hok⟩
  simp only [↓gPre, gPost, gCore, gDef, Nat.reduceShiftRight, Nat.reduceMod, if_true, if_false, ↓reduceIte, reduceCtorEq, Nat.reduceEqDiff, Nat.reduceLT, Nat.reduceLeDiff, implies_true, forall_const, eq_self, ne_eq, not_true_eq_false, not_false_eq_true, imp_self, Nat.reduceAdd, Nat.reduceMul, Int.reduceLE, Int.reduceLT, Int.reduceNeg, Int.reduceAdd, Int.reduceToNat, E_lrvalid_eq, E_rneeded_eq, E_mag_eq, Try.ntmps42, Try.results42, gTT]
  refine ⟨fun h3 => ?_, fun h3 => ?_⟩
  · have hlt : n < s.length := by have := of_decide_eq_true h3; omega
    have hg : s[n]?.getD 0 = s[n] := by rw [List.getElem?_eq_getElem hlt]; rfl
    rw [hg]
    refine ⟨by omega, fun h4 => ?_, fun h4 => ?_⟩
    · have hbad : s.all okX = false := by
        rw [List.all_eq_false]
        refine ⟨s[n], List.getElem_mem hlt, ?_⟩
        simp only [Bool.or_eq_true, decide_eq_true_eq] at h4
        simp [okX]
        omega
      have e : runE t r g c s = 2 := by simp [runE, hv, hc, hbad]
      simp [runC, runO, runT, runR, runG, e, LI_nil]
    · refine ⟨(wrapN _ (by omega)).symm, ⟨by omega, ?_⟩, by omega⟩
      simp only [Bool.or_eq_false_iff, decide_eq_false_iff_not] at h4
      rw [List.take_add_one, List.getElem?_eq_getElem hlt, List.all_append, hok]
      simp [okX]
      omega
  have hall : s.all okX = true := by
    have : n = s.length := by have := of_decide_eq_false h3; omega
    rw [this, List.take_length] at hok; exact hok
  have hE := runE_ok hv hc hall
  refine ELoop_nilB ⟨1, 11⟩ 1 1 ⟨1, 99⟩ rfl rfl (by simp only [↓gPre, gPost, gCore, gDef, Nat.reduceShiftRight, Nat.reduceMod, if_true, if_false, ↓reduceIte, reduceCtorEq, Nat.reduceEqDiff, Nat.reduceLT, Nat.reduceLeDiff, implies_true, forall_const, eq_self, ne_eq, not_true_eq_false, not_false_eq_true, imp_self, Nat.reduceAdd, Nat.reduceMul, Int.reduceLE, Int.reduceLT, Int.reduceNeg, Int.reduceAdd, Int.reduceToNat, E_lrvalid_eq, E_rneeded_eq, E_mag_eq, Try.ntmps42, Try.results42, gTT]) (Nat.le_refl _) ?_
  simp only [↓gPre, gPost, gCore, gDef, Nat.reduceShiftRight, Nat.reduceMod, if_true, if_false, ↓reduceIte, reduceCtorEq, Nat.reduceEqDiff, Nat.reduceLT, Nat.reduceLeDiff, implies_true, forall_const, eq_self, ne_eq, not_true_eq_false, not_false_eq_true, imp_self, Nat.reduceAdd, Nat.reduceMul, Int.reduceLE, Int.reduceLT, Int.reduceNeg, Int.reduceAdd, Int.reduceToNat, E_lrvalid_eq, E_rneeded_eq, E_mag_eq, Try.ntmps42, Try.results42, gTT]
  refine ELoop_keep (fun i => ⟨[(12, vI .i64 ((i * c.toNat : Nat) : Int))], [(⟨1, 11⟩, [.d (.int .i64 c), .own ⟨1, 99⟩ (LI .i32 (oAt t r g c s i))]), (⟨1, 3⟩, [.d (.int .i64 t), .d (.int .i64 r), .d (.int .i64 (gAt t r g c s i))])], [(⟨1, 99⟩, ⟨false, 1, LI .i32 (oAt t r g c s i)⟩)]⟩) (fun i => i ≤ s.length / c.toNat) (fun i => s.length / c.toNat - i) (· + 1) 0 (Nat.zero_le _) ?_ ?_
  · simp only [↓gPre, gPost, gCore, gDef, Nat.reduceShiftRight, Nat.reduceMod, if_true, if_false, ↓reduceIte, reduceCtorEq, Nat.reduceEqDiff, Nat.reduceLT, Nat.reduceLeDiff, implies_true, forall_const, eq_self, ne_eq, not_true_eq_false, not_false_eq_true, imp_self, Nat.reduceAdd, Nat.reduceMul, Int.reduceLE, Int.reduceLT, Int.reduceNeg, Int.reduceAdd, Int.reduceToNat, E_lrvalid_eq, E_rneeded_eq, E_mag_eq, Try.ntmps42, Try.results42, gTT]
    exact ⟨by simp, ⟨rfl, rfl⟩, rfl⟩
  intro i hi
  simp only [↓gPre, gPost, gCore, gDef, Nat.reduceShiftRight, Nat.reduceMod, if_true, if_false, ↓reduceIte, reduceCtorEq, Nat.reduceEqDiff, Nat.reduceLT, Nat.reduceLeDiff, implies_true, forall_const, eq_self, ne_eq, not_true_eq_false, not_false_eq_true, imp_self, Nat.reduceAdd, Nat.reduceMul, Int.reduceLE, Int.reduceLT, Int.reduceNeg, Int.reduceAdd, Int.reduceToNat, E_lrvalid_eq, E_rneeded_eq, E_mag_eq, Try.ntmps42, Try.results42, gTT]
  have hm : (c.toNat : Int) = c := by omega
  have hil : (oAt t r g c s i).length = i * c.toNat := oAt_len hc i hi
  have hlt' : decide (((i * c.toNat : Nat) : Int) < (s.length : Int)) = true → i < s.length / c.toNat ∧ (i + 1) * c.toNat ≤ s.length := fun h4 => by
    have hlt : i < s.length / c.toNat := by
      have := of_decide_eq_true h4
      rw [hc3] at this
      exact Nat.lt_of_mul_lt_mul_right (a := c.toNat) (by omega)
    have := Nat.mul_le_mul_right c.toNat (show i + 1 ≤ s.length / c.toNat from hlt)
    exact ⟨hlt, by omega⟩
  refine ⟨fun h4 => ?_, fun h4 => ⟨by kernel_rfl, ?_⟩⟩
  · obtain ⟨hlt, hle⟩ := hlt' h4
    have he : (i + 1) * c.toNat = i * c.toNat + c.toNat := by rw [Nat.add_mul, Nat.one_mul]
    have e1 : IntKind.i64.wrap (((i * c.toNat : Nat) : Int) + c) = (((i + 1) * c.toNat : Nat) : Int) := by
      rw [IntWalk.i64_in _ (by omega), he]
      omega
    have e2 : ((((i + 1) * c.toNat : Nat) : Int)).toNat - i * c.toNat = c.toNat := by rw [he]; omega
    rw [e1, e2]
    have hfr : List.take c.toNat (List.drop (i * c.toNat) s) = frL c s i := rfl
    rw [hfr]
    have hfl := frL_len hc hlt
    have hF : ∀ x ∈ frL c s i, -1099511627776 ≤ x ∧ x ≤ 1099511627776 := fun x hx => okX_in (List.all_eq_true.1 hall x (List.mem_of_mem_drop (List.mem_of_mem_take hx)))
    have hvi := gAt_in (c := c) (s := s) hv i
    have hG1 : gAt t r g c s (i + 1) = gainL t r (gAt t r g c s i) (frL c s i) := rfl
    have hO1 : oAt t r g c s (i + 1) = oAt t r g c s i ++ (frL c s i).map (ampL (gAt t r g c s (i + 1))) := rfl
    refine ⟨by omega, ?_⟩
    generalize hFF : frL c s i = F at *
    refine ELoop_keep (fun n => ⟨[(77, vI .i64 (n : Nat)), (13, vI .i64 (peakN F n))], [], []⟩) (fun n => n ≤ F.length) (fun n => F.length - n) (· + 1) 0 (Nat.zero_le _) ?_ ?_
    · simp only [↓gPre, gPost, gCore, gDef, Nat.reduceShiftRight, Nat.reduceMod, if_true, if_false, ↓reduceIte, reduceCtorEq, Nat.reduceEqDiff, Nat.reduceLT, Nat.reduceLeDiff, implies_true, forall_const, eq_self, ne_eq, not_true_eq_false, not_false_eq_true, imp_self, Nat.reduceAdd, Nat.reduceMul, Int.reduceLE, Int.reduceLT, Int.reduceNeg, Int.reduceAdd, Int.reduceToNat, E_lrvalid_eq, E_rneeded_eq, E_mag_eq, Try.ntmps42, Try.results42, gTT]
      exact ⟨rfl, rfl⟩
    intro n' hn'
    simp only [↓gPre, gPost, gCore, gDef, Nat.reduceShiftRight, Nat.reduceMod, if_true, if_false, ↓reduceIte, reduceCtorEq, Nat.reduceEqDiff, Nat.reduceLT, Nat.reduceLeDiff, implies_true, forall_const, eq_self, ne_eq, not_true_eq_false, not_false_eq_true, imp_self, Nat.reduceAdd, Nat.reduceMul, Int.reduceLE, Int.reduceLT, Int.reduceNeg, Int.reduceAdd, Int.reduceToNat, E_lrvalid_eq, E_rneeded_eq, E_mag_eq, Try.ntmps42, Try.results42, gTT]
    refine ⟨fun h5 => ?_, fun h5 => ⟨by kernel_rfl, ?_⟩⟩
    · have hlt : n' < F.length := by have := of_decide_eq_true h5; omega
      have hx := hF _ (List.getElem_mem hlt)
      have hg : F[n']?.getD 0 = F[n'] := by rw [List.getElem?_eq_getElem hlt]; rfl
      refine ⟨by omega, by rw [hg]; exact hx, ⟨(wrapN _ (by omega)).symm, ?_⟩, by omega, by omega⟩
      rw [hg]
      have h6 := peakN_in hF n'
      simp only [peakN, List.take_add_one, List.getElem?_eq_getElem hlt, List.foldl_append, Option.toList_some, List.foldl_cons, List.foldl_nil]
      exact pstep_mag h6.1
    have hnl : n' = F.length := by have := of_decide_eq_false h5; omega
    rw [e1, e2, hfr]
    have hG : (if IntKind.i64.wrap (gAt t r g c s i + r) < neededL t (peakN F n') then IntKind.i64.wrap (gAt t r g c s i + r) else neededL t (peakN F n')) = gAt t r g c s (i + 1) := by
      have := validL_in hvi
      rw [IntWalk.i64_in (gAt t r g c s i + r) (by omega), hnl, hG1]
      simp only [gainL, minI, peakN, peakL, List.take_length]
      rfl
    rw [hG]
    refine ⟨by omega, ?_⟩
    have hGin := gainL_in hvi F
    rw [← hG1] at hGin
    refine ELoop_keep (fun n => ⟨[(104, vI .i64 (n : Nat))], [(⟨1, 11⟩, [.d (.int .i64 c), .own ⟨1, 99⟩ (LI .i32 (oAt t r g c s i ++ (F.take n).map (ampL (gAt t r g c s (i + 1)))))])], [(⟨1, 99⟩, ⟨false, 1, LI .i32 (oAt t r g c s i ++ (F.take n).map (ampL (gAt t r g c s (i + 1))))⟩)]⟩) (fun n => n ≤ F.length) (fun n => F.length - n) (· + 1) 0 (Nat.zero_le _) ?_ ?_
    · simp only [↓gPre, gPost, gCore, gDef, Nat.reduceShiftRight, Nat.reduceMod, if_true, if_false, ↓reduceIte, reduceCtorEq, Nat.reduceEqDiff, Nat.reduceLT, Nat.reduceLeDiff, implies_true, forall_const, eq_self, ne_eq, not_true_eq_false, not_false_eq_true, imp_self, Nat.reduceAdd, Nat.reduceMul, Int.reduceLE, Int.reduceLT, Int.reduceNeg, Int.reduceAdd, Int.reduceToNat, E_lrvalid_eq, E_rneeded_eq, E_mag_eq, Try.ntmps42, Try.results42, gTT]
      rfl
    intro n2 hn2
    simp only [↓gPre, gPost, gCore, gDef, Nat.reduceShiftRight, Nat.reduceMod, if_true, if_false, ↓reduceIte, reduceCtorEq, Nat.reduceEqDiff, Nat.reduceLT, Nat.reduceLeDiff, implies_true, forall_const, eq_self, ne_eq, not_true_eq_false, not_false_eq_true, imp_self, Nat.reduceAdd, Nat.reduceMul, Int.reduceLE, Int.reduceLT, Int.reduceNeg, Int.reduceAdd, Int.reduceToNat, E_lrvalid_eq, E_rneeded_eq, E_mag_eq, Try.ntmps42, Try.results42, gTT]
    have hlen : (oAt t r g c s i ++ List.map (ampL (gAt t r g c s (i + 1))) (List.take n2 F)).length ≤ 1000000 := by
      rw [List.length_append, List.length_map, List.length_take, hil]; omega
    refine ⟨fun h6 => ?_, fun h6 => ?_⟩
    · have hlt2 : n2 < F.length := by have := of_decide_eq_true h6; omega
      have hg : F[n2]?.getD 0 = F[n2] := by rw [List.getElem?_eq_getElem hlt2]; rfl
      have hx := hF _ (List.getElem_mem hlt2)
      have hth := amp_thr hvi hF (List.getElem_mem hlt2)
      have hre := amp_ref hvi hF (List.getElem_mem hlt2)
      rw [← hG1] at hth hre
      have hvt := validL_in hv
      have hmg : 0 ≤ magL F[n2] ∧ magL F[n2] ≤ 1099511627776 := by unfold magL; omega
      have hmul := mul_bd (x := magL F[n2]) (y := gAt t r g c s (i + 1)) (A := 1099511627776) (B := 65536) (by omega) hmg.2 hGin.1 hGin.2 (by decide)
      have hnn : 0 ≤ magL F[n2] * gAt t r g c s (i + 1) := Int.mul_nonneg hmg.1 hGin.1
      have htk : List.map (ampL (gAt t r g c s (i + 1))) (List.take (n2 + 1) F) = List.map (ampL (gAt t r g c s (i + 1))) (List.take n2 F) ++ [ampL (gAt t r g c s (i + 1)) F[n2]] := by
        rw [List.take_add_one, List.getElem?_eq_getElem hlt2, List.map_append]; rfl
      rw [hg, htk, IntWalk.i64_in (magL F[n2] * gAt t r g c s (i + 1)) (by omega), Int.tdiv_eq_ediv_of_nonneg hnn, IntWalk.i64_in (magL F[n2] * gAt t r g c s (i + 1) / 65536) (by omega), IntWalk.i64_in (0 - magL F[n2] * gAt t r g c s (i + 1) / 65536) (by omega)]
      refine ⟨by omega, by kernel_rfl, hx, by decide, fun h7 => ?_, fun h7 => ?_⟩
      · rw [hre.1 (of_decide_eq_true h7), IntWalk.i32_in _ (by omega), Int.zero_sub, List.append_assoc]
        refine ⟨by unfold roomOK; omega, ⟨(wrapN _ (by omega)).symm, rfl, rfl⟩, by omega, by omega⟩
      · rw [hre.2 (of_decide_eq_false h7), IntWalk.i32_in _ (by omega), List.append_assoc]
        refine ⟨by unfold roomOK; omega, ⟨(wrapN _ (by omega)).symm, rfl, rfl⟩, by omega, by omega⟩
    · have hnl2 : n2 = F.length := by have := of_decide_eq_false h6; omega
      rw [hnl2, List.take_length, e1, ← hO1]
  
      exact ⟨⟨rfl, rfl, rfl⟩, by omega, by omega⟩
  have hik : i = s.length / c.toNat := by
    have h5 := of_decide_eq_false h4
    rcases Nat.lt_or_ge i (s.length / c.toNat) with h6 | h6
    · have := Nat.mul_lt_mul_of_pos_right h6 (show 0 < c.toNat by omega)
      omega
    · omega
  simp only [runC, runO, runT, runR, runG, hE, if_true, hik]
def E_lrrun : List V → Boxes → Toks → Name → Option Ent
  | [.agg [.d (.int .i64 t), .d (.int .i64 r), .d (.int .i64 g)], .c (.d (.int .i64 c)), .c (.d (.list q_s))], [], [], _ => some ⟨(ints q_s).length ≤ 1000000 ∧ q_s = LI .i64 (ints q_s), .tup [.agg [.int .i64 (runC t r g c (ints q_s)), .list (LI .i32 (runO t r g c (ints q_s)))], .agg [.int .i64 (runT t r g c (ints q_s)), .int .i64 (runR t r g c (ints q_s)), .int .i64 (runG t r g c (ints q_s))], .int .i64 (runE t r g c (ints q_s))], [], []⟩
  | _, _, _, _ => none
def E_lrrun_eq := And.intro (@E_lrrun.eq_1) (@E_lrrun.eq_1)
theorem E_lrrun_ok : Snd Try.prog 42 E_lrrun := by
  intro vs b k n e h hn hp
  unfold E_lrrun at h
  split at h
  · cases h; obtain ⟨hp0, hq0⟩ := hp; obtain ⟨_, rfl⟩ := LI_ex hq0; simp only [ints_LI, bys_LB, blks_LK, lls_LL] at hp0 ⊢; exact (spec_lrrun _ _ _ _ _ hp0).lift rfl _
  · cases h

end Go.Vam
