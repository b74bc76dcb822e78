/- A part of the proof. Conditions: none. -/
import Derived.Test.YtmpbpijnbmpbhaaGreatWg
set_option linter.unusedVariables false
set_option linter.defProp false
set_option linter.unusedSimpArgs false
set_option maxRecDepth 40000
set_option maxHeartbeats 4000000
namespace Go.Vam
open Go.Proofs
structure Rg where
  c : Int
  q : Int
  w : Int
  r : Int
  l : List Int
def rg0 : Rg := ⟨0, 0, 0, 0, []⟩
theorem rg_eta (x : Rg) : (⟨x.c, x.q, x.w, x.r, x.l⟩ : Rg) = x := rfl
def rgV (x : Rg) : Bool := decide (1 ≤ x.q) && decide (x.q ≤ 65536) && decide (0 ≤ x.r) && decide (x.r ≤ x.w) && decide (x.w ≤ 1125899906842624) && blkV x.c x.l && (x.w - x.r == ((x.l.length / x.c.toNat : Nat) : Int)) && decide (x.w - x.r ≤ x.q)
theorem rgV_in {x : Rg} (h : rgV x = true) : (1 ≤ x.q ∧ x.q ≤ 65536) ∧ (0 ≤ x.r ∧ x.r ≤ x.w ∧ x.w ≤ 1125899906842624) ∧ blkV x.c x.l = true ∧ x.w - x.r = ((x.l.length / x.c.toNat : Nat) : Int) ∧ x.w - x.r ≤ x.q := by
  simp only [rgV, Bool.and_eq_true, decide_eq_true_eq, beq_iff_eq] at h
  obtain ⟨⟨⟨⟨⟨⟨⟨h1, h2⟩, h3⟩, h4⟩, h5⟩, h6⟩, h7⟩, h8⟩ := h
  exact ⟨⟨h1, h2⟩, ⟨h3, h4, h5⟩, h6, h7, h8⟩
def rgN (x : Rg) : Int := if rgV x = true then x.w - x.r else 0
def rnE (ch q : Int) : Int := if rgV ⟨ch, q, 0, 0, []⟩ = true then 0 else 2
def rnR (ch q : Int) : Rg := if rgV ⟨ch, q, 0, 0, []⟩ = true then ⟨ch, q, 0, 0, []⟩ else rg0
def rwN (x : Rg) (k : Int) (y : List Int) : Int := min ((y.length / k.toNat : Nat) : Int) (x.q - (x.w - x.r))
def rwE (x : Rg) (k : Int) (y : List Int) : Int := if (!rgV x || !blkV k y) = true then 1 else if k ≠ x.c then 11 else if 1125899906842624 < x.w + rwN x k y then 2 else 0
def rwR (x : Rg) (k : Int) (y : List Int) : Rg := if rwE x k y = 0 then ⟨x.c, x.q, x.w + rwN x k y, x.r, x.l ++ y.take ((rwN x k y).toNat * k.toNat)⟩ else rg0
def rwL (x : Rg) (k : Int) (y : List Int) : Int := if rwE x k y = 0 then ((y.length / k.toNat : Nat) : Int) - rwN x k y else 0
def rdN (x : Rg) (i : Int) : Int := min i (x.w - x.r)
def rdE (x : Rg) (i : Int) : Int := if rgV x = false then 1 else if (decide (i < 0) || decide (65536 < i)) = true then 2 else 0
def rdC (x : Rg) (i : Int) : Int := if rdE x i = 0 then x.c else 0
def rdO (x : Rg) (i : Int) : List Int := if rdE x i = 0 then x.l.take ((rdN x i).toNat * x.c.toNat) ++ List.replicate ((i - rdN x i).toNat * x.c.toNat) 0 else []
def rdM (x : Rg) (i : Int) : Int := if rdE x i = 0 then i - rdN x i else 0
def rdR (x : Rg) (i : Int) : Rg := if rdE x i = 0 then ⟨x.c, x.q, x.w, x.r + rdN x i, x.l.drop ((rdN x i).toNat * x.c.toNat)⟩ else rg0
def rcL (x : Rg) : Rg := if rgV x = true then ⟨x.c, x.q, x.w, x.w, []⟩ else rg0
def rcF (x : Rg) : Int := if rgV x = true then 0 else 1
theorem spec_rgvalid (c q w r : Int) (l : List Int) (hl : l.length ≤ 1000000) : Spec Tryz.prog 0 124 [.agg [.d (.int .i64 c), .d (.int .i64 q), .d (.int .i64 w), .d (.int .i64 r), .d (.list (LI .i32 l))]] [] [] (vB (rgV ⟨c, q, w, r, l⟩)) [] [] := by
  refine sE (md := fun _ => 0) (L := [(62, E_bvalid)]) [(1, [0, 0, 0, 0, 0, 536870543, 0, 0, 0, 0, 0, 536842255, 0, 0, 0, 0, 0, 535429135, 0, 0, 0, 0, 0, 419430415, 0]), (4, [0, 0, 0, 0, 0, 1152921298716852239, 0, 0, 0, 0, 0, 1152906180431970319, 0, 0, 0, 0, 0, 1151795604968439823, 0, 0, 0, 0, 0, 1045961013725233167, 0, 0, 0])] 268435471 (tabs_cons E_bvalid_ok tabs_nil) Tryz.func124 rfl rfl rfl ?_
  simp (maxSteps := 1000000) only [↓gPre, gPost, gCore, gDef, gSt, gS0, Nat.reduceShiftRight, Nat.reduceMod, ↓reduceIte, reduceCtorEq, Nat.reduceEqDiff, Nat.reduceLT, Nat.reduceLeDiff, Nat.reduceAdd, Nat.reduceMul, Int.reduceLE, Int.reduceLT, Int.reduceNeg, Int.reduceAdd, Int.reduceToNat, E_bvalid_eq, rg_eta, Tryz.ntmps124, Tryz.results124, gTT]
  refine ⟨fun h => ?_, fun h => ⟨by kernel_rfl, hl, fun hb => ?_, ?_⟩⟩
  · cases hv : rgV ⟨c, q, w, r, l⟩ with
    | false => rfl
    | true =>
      have := rgV_in hv
      simp only [Bool.or_eq_true, decide_eq_true_eq] at h
      simp only at this
      omega
  · have := (blk_in hb hl).1
    omega
  simp only [Bool.or_eq_false_iff, decide_eq_false_iff_not] at h
  cases hb : blkV c l with
  | false => simp [rgV, hb]
  | true =>
    have hk := (blk_in hb hl).1
    rw [len_div hk.1 (by omega), IntWalk.i64_in (w - r) (by omega)]
    unfold rgV
    simp only [hb]
    rw [decide_eq_true (show 1 ≤ q by omega), decide_eq_true (show q ≤ 65536 by omega), decide_eq_true (show 0 ≤ r by omega), decide_eq_true (show r ≤ w by omega), decide_eq_true (show w ≤ 1125899906842624 by omega)]
    rfl
def E_rgvalid : List V → Boxes → Toks → Name → Option Ent
  | [.agg [.d (.int .i64 c), .d (.int .i64 q), .d (.int .i64 w), .d (.int .i64 r), .d (.list q_l)]], [], [], _ => some ⟨(ints q_l).length ≤ 1000000 ∧ q_l = LI .i32 (ints q_l), vB (rgV ⟨c, q, w, r, (ints q_l)⟩), [], []⟩
  | _, _, _, _ => none
def E_rgvalid_eq := And.intro (@E_rgvalid.eq_1) (@E_rgvalid.eq_1)
theorem E_rgvalid_ok : Snd Tryz.prog 124 E_rgvalid := by
  intro vs b k n e h hn hp
  unfold E_rgvalid at h
  split at h
  · cases h; obtain ⟨hp0, hq0⟩ := hp; obtain ⟨_, rfl⟩ := LI_ex hq0; simp only [ints_LI, bys_LB, blks_LK, lls_LL] at hp0 ⊢; exact (spec_rgvalid _ _ _ _ _ hp0).lift rfl _
  · cases h
theorem spec_rgfill (c q w r : Int) (l : List Int) (hl : l.length ≤ 1000000) : Spec Tryz.prog 0 130 [.agg [.d (.int .i64 c), .d (.int .i64 q), .d (.int .i64 w), .d (.int .i64 r), .d (.list (LI .i32 l))]] [] [] (vI .i64 (rgN ⟨c, q, w, r, l⟩)) [] [] := by
  refine spec_of_E (X := ⟨Tryz.prog, tt, Tryz.f130.ntmps, 1, fun _ => 0, (tab [(124, E_rgvalid)])⟩) (M := []) (m := 39) rfl rfl ⟨tt_ok, tab_ok (tabs_cons E_rgvalid_ok tabs_nil) _ rfl rfl⟩ tt_mixed Tryz.func130 rfl (by decide) (by show (1 : Nat) ≤ _; exact Nat.le_of_ble_eq_true rfl) ⟨by simp [V.has, C.has], by simp [C.has], by simp⟩ ?_
  simp (maxSteps := 1000000) only [↓gPre, gPost, gCore, gDef, gSt, gS0, Nat.reduceShiftRight, Nat.reduceMod, ↓reduceIte, reduceCtorEq, Nat.reduceEqDiff, Nat.reduceLT, Nat.reduceLeDiff, Nat.reduceAdd, Nat.reduceMul, Int.reduceLE, Int.reduceLT, Int.reduceNeg, Int.reduceAdd, Int.reduceToNat, E_rgvalid_eq, rg_eta, Tryz.ntmps130, Tryz.results130, gTT]
  refine ⟨hl, fun h => by simp [rgN, h], fun h => ?_⟩
  have hv : rgV ⟨c, q, w, r, l⟩ = true := by simpa using h
  have := rgV_in hv
  simp only at this
  rw [IntWalk.i64_in (w - r) (by omega)]
  simp [rgN, hv]
def E_rgfill : List V → Boxes → Toks → Name → Option Ent
  | [.agg [.d (.int .i64 c), .d (.int .i64 q), .d (.int .i64 w), .d (.int .i64 r), .d (.list q_l)]], [], [], _ => some ⟨(ints q_l).length ≤ 1000000 ∧ q_l = LI .i32 (ints q_l), vI .i64 (rgN ⟨c, q, w, r, (ints q_l)⟩), [], []⟩
  | _, _, _, _ => none
def E_rgfill_eq := And.intro (@E_rgfill.eq_1) (@E_rgfill.eq_1)
theorem E_rgfill_ok : Snd Tryz.prog 130 E_rgfill := by
  intro vs b k n e h hn hp
  unfold E_rgfill at h
  split at h
  · cases h; obtain ⟨hp0, hq0⟩ := hp; obtain ⟨_, rfl⟩ := LI_ex hq0; simp only [ints_LI, bys_LB, blks_LK, lls_LL] at hp0 ⊢; exact (spec_rgfill _ _ _ _ _ hp0).lift rfl _
  · cases h
theorem spec_rgnew (ch q : Int) : Spec Tryz.prog 0 48 [vI .i64 ch, vI .i64 q] [] [] (.tup [.agg [.int .i64 (rnR ch q).c, .int .i64 (rnR ch q).q, .int .i64 (rnR ch q).w, .int .i64 (rnR ch q).r, .list (LI .i32 (rnR ch q).l)], .int .i64 (rnE ch q)]) [] [] := by
  refine sE (md := fun _ => 0) (L := [(124, E_rgvalid)]) [] 4211 (tabs_cons E_rgvalid_ok tabs_nil) Tryz.func48 rfl rfl rfl ?_
  simp (maxSteps := 1000000) only [↓gPre, gPost, gCore, gDef, gSt, gS0, Nat.reduceShiftRight, Nat.reduceMod, ↓reduceIte, reduceCtorEq, Nat.reduceEqDiff, Nat.reduceLT, Nat.reduceLeDiff, Nat.reduceAdd, Nat.reduceMul, Int.reduceLE, Int.reduceLT, Int.reduceNeg, Int.reduceAdd, Int.reduceToNat, E_rgvalid_eq, rg_eta, Tryz.ntmps48, Tryz.results48, gTT]
  refine ⟨fun h => by simp [rnE, rnR, h, rg0, LI_nil], fun h => ?_⟩
  have hv : rgV ⟨ch, q, 0, 0, []⟩ = true := by simpa using h
  simp [rnE, rnR, hv, LI_nil]
def E_rgnew : List V → Boxes → Toks → Name → Option Ent
  | [.c (.d (.int .i64 ch)), .c (.d (.int .i64 q))], [], [], _ => some ⟨True, .tup [.agg [.int .i64 (rnR ch q).c, .int .i64 (rnR ch q).q, .int .i64 (rnR ch q).w, .int .i64 (rnR ch q).r, .list (LI .i32 (rnR ch q).l)], .int .i64 (rnE ch q)], [], []⟩
  | _, _, _, _ => none
def E_rgnew_eq := And.intro (@E_rgnew.eq_1) (@E_rgnew.eq_1)
theorem E_rgnew_ok : Snd Tryz.prog 48 E_rgnew := by
  intro vs b k n e h hn hp
  unfold E_rgnew at h
  split at h
  · cases h; exact (spec_rgnew _ _).lift rfl _
  · cases h
theorem spec_rgclear (c q w r : Int) (l : List Int) (hl : l.length ≤ 1000000) : Spec Tryz.prog 0 243 [.agg [.d (.int .i64 c), .d (.int .i64 q), .d (.int .i64 w), .d (.int .i64 r), .d (.list (LI .i32 l))]] [] [] (.tup [.agg [.int .i64 (rcL ⟨c, q, w, r, l⟩).c, .int .i64 (rcL ⟨c, q, w, r, l⟩).q, .int .i64 (rcL ⟨c, q, w, r, l⟩).w, .int .i64 (rcL ⟨c, q, w, r, l⟩).r, .list (LI .i32 (rcL ⟨c, q, w, r, l⟩).l)], .int .i64 (rcF ⟨c, q, w, r, l⟩)]) [] [] := by
  refine sE (md := fun _ => 0) (L := [(124, E_rgvalid)]) [] 79 (tabs_cons E_rgvalid_ok tabs_nil) Tryz.func243 rfl rfl rfl ?_
  simp (maxSteps := 1000000) only [↓gPre, gPost, gCore, gDef, gSt, gS0, Nat.reduceShiftRight, Nat.reduceMod, ↓reduceIte, reduceCtorEq, Nat.reduceEqDiff, Nat.reduceLT, Nat.reduceLeDiff, Nat.reduceAdd, Nat.reduceMul, Int.reduceLE, Int.reduceLT, Int.reduceNeg, Int.reduceAdd, Int.reduceToNat, E_rgvalid_eq, rg_eta, Tryz.ntmps243, Tryz.results243, gTT]
  refine ⟨hl, fun h => by simp [rcL, rcF, h, rg0, LI_nil], fun h => ?_⟩
  have hv : rgV ⟨c, q, w, r, l⟩ = true := by simpa using h
  simp [rcL, rcF, hv, LI_nil]
def E_rgclear : List V → Boxes → Toks → Name → Option Ent
  | [.agg [.d (.int .i64 c), .d (.int .i64 q), .d (.int .i64 w), .d (.int .i64 r), .d (.list q_l)]], [], [], _ => some ⟨(ints q_l).length ≤ 1000000 ∧ q_l = LI .i32 (ints q_l), .tup [.agg [.int .i64 (rcL ⟨c, q, w, r, (ints q_l)⟩).c, .int .i64 (rcL ⟨c, q, w, r, (ints q_l)⟩).q, .int .i64 (rcL ⟨c, q, w, r, (ints q_l)⟩).w, .int .i64 (rcL ⟨c, q, w, r, (ints q_l)⟩).r, .list (LI .i32 (rcL ⟨c, q, w, r, (ints q_l)⟩).l)], .int .i64 (rcF ⟨c, q, w, r, (ints q_l)⟩)], [], []⟩
  | _, _, _, _ => none
def E_rgclear_eq := And.intro (@E_rgclear.eq_1) (@E_rgclear.eq_1)
theorem E_rgclear_ok : Snd Tryz.prog 243 E_rgclear := by
  intro vs b k n e h hn hp
  unfold E_rgclear at h
  split at h
  · cases h; obtain ⟨hp0, hq0⟩ := hp; obtain ⟨_, rfl⟩ := LI_ex hq0; simp only [ints_LI, bys_LB, blks_LK, lls_LL] at hp0 ⊢; exact (spec_rgclear _ _ _ _ _ hp0).lift rfl _
  · cases h
theorem spec_rgwrite (c q w r : Int) (l : List Int) (k : Int) (y : List Int) (hl : l.length ≤ 1000000) (hy : y.length ≤ 1000000) : Spec Tryz.prog 0 64 [.agg [.d (.int .i64 c), .d (.int .i64 q), .d (.int .i64 w), .d (.int .i64 r), .d (.list (LI .i32 l))], .agg [.d (.int .i64 k), .d (.list (LI .i32 y))]] [] [] (.tup [.agg [.int .i64 (rwR ⟨c, q, w, r, l⟩ k y).c, .int .i64 (rwR ⟨c, q, w, r, l⟩ k y).q, .int .i64 (rwR ⟨c, q, w, r, l⟩ k y).w, .int .i64 (rwR ⟨c, q, w, r, l⟩ k y).r, .list (LI .i32 (rwR ⟨c, q, w, r, l⟩ k y).l)], .int .i64 (rwL ⟨c, q, w, r, l⟩ k y), .int .i64 (rwE ⟨c, q, w, r, l⟩ k y)]) [] [] := by
  refine sE (md := fun _ => 0) (L := [(124, E_rgvalid), (62, E_bvalid), (130, E_rgfill), (143, E_concat)]) [(10, [0, 0, 0, 0, 0, 18445057422876803583, 0, 0, 0, 0, 0, 17909129067219714559, 0, 0, 0, 0, 0])] 2199027515903 (tabs_cons E_rgvalid_ok (tabs_cons E_bvalid_ok (tabs_cons E_rgfill_ok (tabs_cons E_concat_ok tabs_nil)))) Tryz.func64 rfl rfl rfl ?_
  simp (maxSteps := 1000000) only [↓gPre, gPost, gCore, gDef, gSt, gS0, Nat.reduceShiftRight, Nat.reduceMod, ↓reduceIte, reduceCtorEq, Nat.reduceEqDiff, Nat.reduceLT, Nat.reduceLeDiff, Nat.reduceAdd, Nat.reduceMul, Int.reduceLE, Int.reduceLT, Int.reduceNeg, Int.reduceAdd, Int.reduceToNat, E_rgvalid_eq, E_bvalid_eq, E_rgfill_eq, E_concat_eq, rg_eta, Tryz.ntmps64, Tryz.results64, gTT]
  refine ⟨hl, fun _ => hy, fun h => ?_, fun h => ⟨fun h2 => ?_, fun h2 => ?_⟩⟩
  · have e : rwE ⟨c, q, w, r, l⟩ k y = 1 := by unfold rwE; rw [if_pos h]
    simp [rwR, rwL, e, rg0, LI_nil]
  · have hk : k ≠ c := by simpa using h2
    have e : rwE ⟨c, q, w, r, l⟩ k y = 11 := by unfold rwE; rw [if_neg (by rw [h]; decide), if_pos hk]
    simp [rwR, rwL, e, rg0, LI_nil]
  have hv : rgV ⟨c, q, w, r, l⟩ = true ∧ blkV k y = true := by
    simp only [Bool.or_eq_false_iff, Bool.not_eq_false'] at h
    exact h
  obtain ⟨hv, hb⟩ := hv
  have hk : k = c := by simpa using h2
  obtain ⟨v1, v2, v3, v4, v5⟩ := rgV_in hv
  simp only at v1 v2 v3 v4 v5
  obtain ⟨⟨k1, k2⟩, k3, k4, k5⟩ := blk_in hb hy
  have hz : ((y.length / k.toNat : Nat) : Int) ≤ 65536 := Int.ofNat_le.2 k4
  have hz0 : 0 ≤ ((y.length / k.toNat : Nat) : Int) := Int.natCast_nonneg _
  have eF : rgN ⟨c, q, w, r, l⟩ = w - r := by unfold rgN; rw [if_pos hv]
  have hN : rwN ⟨c, q, w, r, l⟩ k y = min ((y.length / k.toNat : Nat) : Int) (q - (w - r)) := rfl
  have hzk : (rwN ⟨c, q, w, r, l⟩ k y).toNat * k.toNat ≤ y.length / k.toNat * k.toNat := Nat.mul_le_mul_right _ (by omega)
  have hkk : (k.toNat : Int) = k := by omega
  have hm : rwN ⟨c, q, w, r, l⟩ k y * k = (((rwN ⟨c, q, w, r, l⟩ k y).toNat * k.toNat : Nat) : Int) := by rw [Int.natCast_mul, hkk]; congr 1; omega
  have eN : (if IntKind.i64.wrap (q - rgN ⟨c, q, w, r, l⟩) < IntKind.i64.wrap ((y.length : Int).tdiv k) then IntKind.i64.wrap (q - rgN ⟨c, q, w, r, l⟩) else IntKind.i64.wrap ((y.length : Int).tdiv k)) = rwN ⟨c, q, w, r, l⟩ k y := by
    rw [eF, IntWalk.i64_in (q - _) (by omega), len_div k1 (by omega), hN]
    split <;> omega
  rw [eN, len_div k1 (by omega), IntWalk.i64_in (w + _) (by omega), IntWalk.i64_in (rwN ⟨c, q, w, r, l⟩ k y * k) (by omega), hm, Int.toNat_natCast, Nat.sub_zero, IntWalk.i64_in (_ - rwN ⟨c, q, w, r, l⟩ k y) (by omega)]
  refine ⟨by omega, by kernel_rfl, hl, fun h3 => ?_, fun h3 => ⟨by kernel_rfl, ⟨by omega, by omega, by omega⟩, ⟨hl, by rw [List.length_take]; omega⟩, ?_⟩⟩
  · have e : rwE ⟨c, q, w, r, l⟩ k y = 2 := by unfold rwE; rw [if_neg (by rw [h]; decide), if_neg (by simpa using hk), if_pos (of_decide_eq_true h3)]
    simp [rwR, rwL, e, rg0, LI_nil]
  have e : rwE ⟨c, q, w, r, l⟩ k y = 0 := by unfold rwE; rw [if_neg (by rw [h]; decide), if_neg (by simpa using hk), if_neg (of_decide_eq_false h3)]
  simp [rwR, rwL, e]
def E_rgwrite : List V → Boxes → Toks → Name → Option Ent
  | [.agg [.d (.int .i64 c), .d (.int .i64 q), .d (.int .i64 w), .d (.int .i64 r), .d (.list q_l)], .agg [.d (.int .i64 k), .d (.list q_y)]], [], [], _ => some ⟨(ints q_l).length ≤ 1000000 ∧ (ints q_y).length ≤ 1000000 ∧ q_l = LI .i32 (ints q_l) ∧ q_y = LI .i32 (ints q_y), .tup [.agg [.int .i64 (rwR ⟨c, q, w, r, (ints q_l)⟩ k (ints q_y)).c, .int .i64 (rwR ⟨c, q, w, r, (ints q_l)⟩ k (ints q_y)).q, .int .i64 (rwR ⟨c, q, w, r, (ints q_l)⟩ k (ints q_y)).w, .int .i64 (rwR ⟨c, q, w, r, (ints q_l)⟩ k (ints q_y)).r, .list (LI .i32 (rwR ⟨c, q, w, r, (ints q_l)⟩ k (ints q_y)).l)], .int .i64 (rwL ⟨c, q, w, r, (ints q_l)⟩ k (ints q_y)), .int .i64 (rwE ⟨c, q, w, r, (ints q_l)⟩ k (ints q_y))], [], []⟩
  | _, _, _, _ => none
def E_rgwrite_eq := And.intro (@E_rgwrite.eq_1) (@E_rgwrite.eq_1)
theorem E_rgwrite_ok : Snd Tryz.prog 64 E_rgwrite := by
  intro vs b k n e h hn hp
  unfold E_rgwrite at h
  split at h
  · cases h; obtain ⟨hp0, hp1, hq0, hq1⟩ := hp; obtain ⟨_, rfl⟩ := LI_ex hq0; obtain ⟨_, rfl⟩ := LI_ex hq1; simp only [ints_LI, bys_LB, blks_LK, lls_LL] at hp0 hp1 ⊢; exact (spec_rgwrite _ _ _ _ _ _ _ hp0 hp1).lift rfl _
  · cases h
theorem spec_rgread (c q w r : Int) (l : List Int) (i : Int) (hl : l.length ≤ 1000000) : Spec Tryz.prog 0 66 [.agg [.d (.int .i64 c), .d (.int .i64 q), .d (.int .i64 w), .d (.int .i64 r), .d (.list (LI .i32 l))], vI .i64 i] [] [] (.tup [.agg [.int .i64 (rdC ⟨c, q, w, r, l⟩ i), .list (LI .i32 (rdO ⟨c, q, w, r, l⟩ i))], .int .i64 (rdM ⟨c, q, w, r, l⟩ i), .agg [.int .i64 (rdR ⟨c, q, w, r, l⟩ i).c, .int .i64 (rdR ⟨c, q, w, r, l⟩ i).q, .int .i64 (rdR ⟨c, q, w, r, l⟩ i).w, .int .i64 (rdR ⟨c, q, w, r, l⟩ i).r, .list (LI .i32 (rdR ⟨c, q, w, r, l⟩ i).l)], .int .i64 (rdE ⟨c, q, w, r, l⟩ i)]) [] [] := by
  refine sE (md := fun s => if s = 33 then 2 else 0) (L := [(124, E_rgvalid), (130, E_rgfill), (131, E_clone)]) [(1000007, [10001])] 1053687 (tabs_cons E_rgvalid_ok (tabs_cons E_rgfill_ok (tabs_cons E_clone_ok tabs_nil))) Tryz.func66 rfl rfl rfl ?_
  simp (maxSteps := 1000000) only [↓gPre, gPost, gCore, gDef, gSt, gS0, Nat.reduceShiftRight, Nat.reduceMod, ↓reduceIte, reduceCtorEq, Nat.reduceEqDiff, Nat.reduceLT, Nat.reduceLeDiff, Nat.reduceAdd, Nat.reduceMul, Int.reduceLE, Int.reduceLT, Int.reduceNeg, Int.reduceAdd, Int.reduceToNat, E_rgvalid_eq, E_rgfill_eq, E_clone_eq, rg_eta, Nat.reduceDiv, Nat.reduceSub, Tryz.ntmps66, Tryz.results66, gTT]
  refine ⟨hl, fun h => ?_, fun h => ⟨fun h2 => ?_, fun h2 => ?_⟩⟩
  · have e : rdE ⟨c, q, w, r, l⟩ i = 1 := by unfold rdE; rw [if_pos h]
    simp [rdC, rdO, rdM, rdR, e, rg0, LI_nil]
  · have hv : rgV ⟨c, q, w, r, l⟩ = true := by simpa using h
    have e : rdE ⟨c, q, w, r, l⟩ i = 2 := by unfold rdE; rw [if_neg (by rw [hv]; decide), if_pos h2]
    simp [rdC, rdO, rdM, rdR, e, rg0, LI_nil]
  have hv : rgV ⟨c, q, w, r, l⟩ = true := by simpa using h
  have hi : 0 ≤ i ∧ i ≤ 65536 := by simp only [Bool.or_eq_false_iff, decide_eq_false_iff_not] at h2; omega
  obtain ⟨v1, v2, v3, v4, v5⟩ := rgV_in hv
  simp only at v1 v2 v3 v4 v5
  obtain ⟨⟨k1, k2⟩, k3, k4, k5⟩ := blk_in v3 hl
  have hz : ((l.length / c.toNat : Nat) : Int) ≤ 65536 := Int.ofNat_le.2 k4
  have eF : rgN ⟨c, q, w, r, l⟩ = w - r := by unfold rgN; rw [if_pos hv]
  have hN : rdN ⟨c, q, w, r, l⟩ i = min i (w - r) := rfl
  have eK : (if w - r < i then w - r else i) = rdN ⟨c, q, w, r, l⟩ i := by rw [hN]; split <;> omega
  have hcc : (c.toNat : Int) = c := by omega
  have hm : rdN ⟨c, q, w, r, l⟩ i * c = (((rdN ⟨c, q, w, r, l⟩ i).toNat * c.toNat : Nat) : Int) := by rw [Int.natCast_mul, hcc]; congr 1; omega
  have hmi : i * c = ((i.toNat * c.toNat : Nat) : Int) := by rw [Int.natCast_mul, hcc]; congr 1; omega
  have hle : (rdN ⟨c, q, w, r, l⟩ i).toNat * c.toNat ≤ l.length := by rw [k3]; exact Nat.mul_le_mul_right _ (by omega)
  have hlei : (rdN ⟨c, q, w, r, l⟩ i).toNat * c.toNat ≤ i.toNat * c.toNat := Nat.mul_le_mul_right _ (by omega)
  have hib := Nat.mul_le_mul (show i.toNat ≤ 65536 by omega) (show c.toNat ≤ 8 by omega)
  have hsub : i.toNat * c.toNat - (rdN ⟨c, q, w, r, l⟩ i).toNat * c.toNat = (i - rdN ⟨c, q, w, r, l⟩ i).toNat * c.toNat := by rw [← Nat.sub_mul]; congr 1; omega
  have htl : (l.take ((rdN ⟨c, q, w, r, l⟩ i).toNat * c.toNat)).length = (rdN ⟨c, q, w, r, l⟩ i).toNat * c.toNat := by rw [List.length_take]; omega
  have e : rdE ⟨c, q, w, r, l⟩ i = 0 := by unfold rdE; rw [if_neg (by rw [hv]; decide), if_neg (by rw [h2]; decide)]
  rw [eF, eK, hm, hmi, IntWalk.i64_in _ (by omega), IntWalk.i64_in _ (by omega), Int.toNat_natCast, Int.toNat_natCast, Nat.sub_zero]
  refine ⟨hl, by kernel_rfl, ⟨by omega, by omega, by omega, by omega⟩, by kernel_rfl, ⟨by omega, by omega, by omega⟩, ⟨by rw [List.length_replicate], by omega⟩, by rw [List.length_append, htl, List.length_drop, List.length_replicate]; omega, ⟨by omega, by omega, by omega⟩, by rw [List.length_take, List.length_drop]; omega, by kernel_rfl, ?_⟩
  have htk : (l.drop ((rdN ⟨c, q, w, r, l⟩ i).toNat * c.toNat)).take (l.length - (rdN ⟨c, q, w, r, l⟩ i).toNat * c.toNat) = l.drop ((rdN ⟨c, q, w, r, l⟩ i).toNat * c.toNat) := List.take_of_length_le (by rw [List.length_drop]; omega)
  rw [htk, htl, List.drop_replicate, hsub, IntWalk.i64_in (r + _) (by omega), IntWalk.i64_in (i - _) (by omega)]
  simp [rdC, rdO, rdM, rdR, e]
def E_rgread : List V → Boxes → Toks → Name → Option Ent
  | [.agg [.d (.int .i64 c), .d (.int .i64 q), .d (.int .i64 w), .d (.int .i64 r), .d (.list q_l)], .c (.d (.int .i64 i))], [], [], _ => some ⟨(ints q_l).length ≤ 1000000 ∧ q_l = LI .i32 (ints q_l), .tup [.agg [.int .i64 (rdC ⟨c, q, w, r, (ints q_l)⟩ i), .list (LI .i32 (rdO ⟨c, q, w, r, (ints q_l)⟩ i))], .int .i64 (rdM ⟨c, q, w, r, (ints q_l)⟩ i), .agg [.int .i64 (rdR ⟨c, q, w, r, (ints q_l)⟩ i).c, .int .i64 (rdR ⟨c, q, w, r, (ints q_l)⟩ i).q, .int .i64 (rdR ⟨c, q, w, r, (ints q_l)⟩ i).w, .int .i64 (rdR ⟨c, q, w, r, (ints q_l)⟩ i).r, .list (LI .i32 (rdR ⟨c, q, w, r, (ints q_l)⟩ i).l)], .int .i64 (rdE ⟨c, q, w, r, (ints q_l)⟩ i)], [], []⟩
  | _, _, _, _ => none
def E_rgread_eq := And.intro (@E_rgread.eq_1) (@E_rgread.eq_1)
theorem E_rgread_ok : Snd Tryz.prog 66 E_rgread := by
  intro vs b k n e h hn hp
  unfold E_rgread at h
  split at h
  · cases h; obtain ⟨hp0, hq0⟩ := hp; obtain ⟨_, rfl⟩ := LI_ex hq0; simp only [ints_LI, bys_LB, blks_LK, lls_LL] at hp0 ⊢; exact (spec_rgread _ _ _ _ _ _ hp0).lift rfl _
  · cases h
end Go.Vam
