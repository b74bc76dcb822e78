/- Take, Finish, Convert, program and reference. Conditions: none. -/
import Derived.Test.YtjciocipdoophaaGreatCvE
set_option linter.unusedVariables false
set_option linter.defProp false
set_option linter.unusedSimpArgs false
set_option maxRecDepth 40000
set_option maxHeartbeats 4000000
namespace Go.Vam
open Go.Proofs

def rcE (x : Rs) (n : Int) : Int := if rsV x = false then 1 else if (decide (n < 0) || decide (65536 < n)) = true then 2 else 0
theorem rcE_ok {x : Rs} {n : Int} (h : rcE x n = 0) : rsV x = true ∧ 0 ≤ n ∧ n ≤ 65536 := by
  unfold rcE at h
  split at h
  · cases h
  · split at h
    · cases h
    · rename_i h1 h2
      simp only [Bool.or_eq_true, decide_eq_true_eq, not_or] at h2
      exact ⟨by simpa using h1, by omega, by omega⟩
theorem rcE_of {x : Rs} {n : Int} (h : rsV x = true) (hn : 0 ≤ n ∧ n ≤ 65536) : rcE x n = 0 := by
  unfold rcE
  rw [if_neg (by rw [h]; decide), if_neg (by simp only [Bool.or_eq_true, decide_eq_true_eq]; omega)]
theorem rcE_phC {x : Rs} {n : Int} (h : rsV x = true) : phC x.p n = rcE x n := by
  have e1 : phC x.p n = if (decide (n < 0) || decide (65536 < n)) = true then 2 else 0 := by unfold phC; rw [if_neg (by rw [(rsV_in h).1]; decide)]
  have e2 : rcE x n = if (decide (n < 0) || decide (65536 < n)) = true then 2 else 0 := by unfold rcE; rw [if_neg (by rw [h]; decide)]
  rw [e1, e2]
def tkE (x : Rs) (n : Int) : Int := if rcE x n ≠ 0 then rcE x n else if ((x.l.length / x.c.toNat : Nat) : Int) < ned x.p n then 4 else poE x n
def tkC (x : Rs) (n : Int) : Int := if tkE x n = 0 then x.c else 0
def tkO (x : Rs) (n : Int) : List Int := if tkE x n = 0 then outO x n.toNat else []
def tkR (x : Rs) (n : Int) : Rs := if tkE x n = 0 then poR x n else rs0
theorem ned_two {p : Ph} (h : phV p = true) {n : Int} (hn : 1 ≤ n ∧ n ≤ 65536) : 2 ≤ ned p n := by
  have := qAt_in h (n := n - 1) (by omega)
  unfold ned
  rw [if_neg (by omega)]
  omega
/-- What is left at the end. -/
def lefX (x : Rs) : Int := ((x.l.length / x.c.toNat : Nat) : Int) * prt x.p - x.p.f
def cnt (x : Rs) (n : Int) : Int := if 0 < lefX x then min n ((lefX x + stp x.p - 1) / stp x.p) else 0
theorem lef_in {x : Rs} (hv : rsV x = true) (hl : x.l.length ≤ 1000000) : -50331648000 ≤ lefX x ∧ lefX x ≤ 3400000000000000 := by
  obtain ⟨⟨k1, k2⟩, k3, k4, k5⟩ := blk_in (rsV_in hv).2 hl
  have hp := phV_in (rsV_in hv).1
  have hpr := prt_in (rsV_in hv).1
  have hb := mulb (x := ((x.l.length / x.c.toNat : Nat) : Int)) (y := prt x.p) (A := 65536) (B := 50331648000) (Int.natCast_nonneg _) (Int.ofNat_le.2 k4) (by omega) hpr.2
  unfold lefX
  generalize ((x.l.length / x.c.toNat : Nat) : Int) * prt x.p = m at *
  omega
theorem cnt_in {x : Rs} (hv : rsV x = true) (hl : x.l.length ≤ 1000000) {n : Int} (hn : 0 ≤ n) : 0 ≤ cnt x n ∧ cnt x n ≤ n ∧ (0 < cnt x n → 0 < x.l.length) := by
  have h1 := lef_in hv hl
  have h2 := stp_in (rsV_in hv).1
  have hp := phV_in (rsV_in hv).1
  unfold cnt
  split
  · rename_i h
    have : 0 ≤ (lefX x + stp x.p - 1) / stp x.p := Int.ediv_nonneg (by omega) (by omega)
    refine ⟨by omega, by omega, fun _ => ?_⟩
    rcases Nat.eq_zero_or_pos x.l.length with h0 | h0
    · unfold lefX at h
      rw [h0, Nat.zero_div] at h
      simp at h
      omega
    · exact h0
  · exact ⟨Int.le_refl _, hn, fun h => by omega⟩
theorem cnt_iff {x : Rs} (hv : rsV x = true) {n : Int} {k : Nat} (hk : (k : Int) < n) : qAt x.p k < ((x.l.length / x.c.toNat : Nat) : Int) ↔ (k : Int) < cnt x n := by
  have hp := phV_in (rsV_in hv).1
  have hpr := prt_in (rsV_in hv).1
  have hs := stp_in (rsV_in hv).1
  have e1 : qAt x.p k < ((x.l.length / x.c.toNat : Nat) : Int) ↔ (k : Int) * stp x.p < lefX x := by
    unfold qAt lefX ahd
    rw [Int.ediv_lt_iff_lt_mul (by omega)]
    constructor <;> intro h <;> omega
  rw [e1]
  unfold cnt
  split
  · rename_i h
    have e2 : (k : Int) < (lefX x + stp x.p - 1) / stp x.p ↔ (k : Int) * stp x.p < lefX x := by
      rw [Int.lt_iff_add_one_le, Int.le_ediv_iff_mul_le (by omega), Int.add_mul, Int.one_mul]
      constructor <;> intro h <;> omega
    rw [← e2]
    omega
  · rename_i h
    have : 0 ≤ (k : Int) * stp x.p := Int.mul_nonneg (by omega) (by omega)
    constructor <;> intro h <;> omega
def fiE (x : Rs) (n : Int) : Int := if rcE x n ≠ 0 then rcE x n else poE x (cnt x n)
def fiC (x : Rs) (n : Int) : Int := if fiE x n = 0 then x.c else 0
def fiO (x : Rs) (n : Int) : List Int := if fiE x n = 0 then outO x (cnt x n).toNat else []
def fiR (x : Rs) (n : Int) : Rs := if fiE x n = 0 then poR x (cnt x n) else rs0
def cvN (x : Rs) (k : Int) (y : List Int) : Int := ((mkN (feR x k y).p (((feR x k y).l.length / (feR x k y).c.toNat : Nat) : Int) : Nat) : Int)
def cvE (x : Rs) (k : Int) (y : List Int) : Int := if feE x k y ≠ 0 then feE x k y else tkE (feR x k y) (cvN x k y)
def cvC (x : Rs) (k : Int) (y : List Int) : Int := if cvE x k y = 0 then x.c else 0
def cvO (x : Rs) (k : Int) (y : List Int) : List Int := if cvE x k y = 0 then outO (feR x k y) (cvN x k y).toNat else []
def cvR (x : Rs) (k : Int) (y : List Int) : Rs := if cvE x k y = 0 then poR (feR x k y) (cvN x k y) else rs0
theorem feR_ok {x : Rs} {k : Int} {y : List Int} (h : feE x k y = 0) (hl : x.l.length ≤ 1000000) (hy : y.length ≤ 1000000) : feR x k y = { x with l := x.l ++ y } ∧ rsV (feR x k y) = true ∧ (feR x k y).l.length ≤ 600000 := by
  obtain ⟨h1, h2, h3, h4⟩ := feE_ok h
  obtain ⟨⟨k1, k2⟩, k3, k4, k5⟩ := blk_in (rsV_in h1).2 hl
  rw [h3] at h2
  obtain ⟨_, m3, m4, m5⟩ := blk_in h2 hy
  have e : feR x k y = { x with l := x.l ++ y } := by unfold feR; rw [if_pos h]
  have hlen : (x.l ++ y).length = (x.l.length / x.c.toNat + y.length / x.c.toNat) * x.c.toNat := by rw [List.length_append, Nat.add_mul]; omega
  have hdv : (x.l.length + y.length) / x.c.toNat = x.l.length / x.c.toNat + y.length / x.c.toNat := by
    rw [← List.length_append, hlen, Nat.mul_div_cancel _ (by omega)]
  have hz : x.l.length / x.c.toNat + y.length / x.c.toNat ≤ 65536 := by omega
  have hb := Nat.mul_le_mul hz (show x.c.toNat ≤ 8 by omega)
  rw [e]
  refine ⟨rfl, ?_, by show (x.l ++ y).length ≤ _; omega⟩
  unfold rsV
  rw [(rsV_in h1).1, Bool.true_and]
  exact blkV_mk ⟨k1, k2⟩ hlen hz (by rw [List.all_append, k5, m5]; rfl)


theorem spec_rscheck (c n d a p f : Int) (l : List Int) (i : Int) (hl : l.length ≤ 1000000) : Spec Tryz.prog 0 80 [.agg [.d (.int .i64 c), .d (.int .i64 n), .d (.int .i64 d), .d (.int .i64 a), .d (.int .i64 p), .d (.int .i64 f), .d (.list (LI .i32 l))], vI .i64 i] [] [] (vI .i64 (rcE ⟨c, ⟨n, d, a, p, f⟩, l⟩ i)) [] [] := by
  refine spec_of_E (X := ⟨Tryz.prog, tt, Tryz.f80.ntmps, 1, fun _ => 0, (tab [(46, E_rsvalid)])⟩) (M := []) (m := 567) rfl rfl ⟨tt_ok, tab_ok (tabs_cons E_rsvalid_ok tabs_nil) _ rfl rfl⟩ tt_mixed Tryz.func80 rfl (by decide) (by show (2 : Nat) ≤ _; exact Nat.le_of_ble_eq_true rfl) ⟨fun m hm => (V.bare_has rfl m hm).elim, by simp, by simp⟩ ?_
  simp only [↓gPre, gPost, gCore, gDef, Nat.reduceShiftRight, Nat.reduceMod, if_true, if_false, ↓reduceIte, reduceCtorEq, Nat.reduceEqDiff, Nat.reduceLT, Nat.reduceLeDiff, implies_true, forall_const, eq_self, ne_eq, not_true_eq_false, not_false_eq_true, imp_self, Nat.reduceAdd, Nat.reduceMul, Int.reduceLE, Int.reduceLT, Int.reduceNeg, Int.reduceAdd, Int.reduceToNat, E_rsvalid_eq, Tryz.ntmps80, Tryz.results80, gTT]
  refine ⟨hl, fun h => by unfold rcE; rw [if_pos h], fun h => ?_⟩
  have hv : rsV ⟨c, ⟨n, d, a, p, f⟩, l⟩ = true := by simpa using h
  exact ⟨fun h2 => by unfold rcE; rw [if_neg (by rw [hv]; decide), if_pos h2], fun h2 => by unfold rcE; rw [if_neg (by rw [hv]; decide), if_neg (by rw [h2]; decide)]⟩
def E_rscheck : List V → Boxes → Toks → Name → Option Ent
  | [.agg [.d (.int .i64 c), .d (.int .i64 n), .d (.int .i64 d), .d (.int .i64 a), .d (.int .i64 p), .d (.int .i64 f), .d (.list q_l)], .c (.d (.int .i64 i))], [], [], _ => some ⟨(ints q_l).length ≤ 1000000 ∧ q_l = LI .i32 (ints q_l), vI .i64 (rcE ⟨c, ⟨n, d, a, p, f⟩, (ints q_l)⟩ i), [], []⟩
  | _, _, _, _ => none
def E_rscheck_eq := And.intro (@E_rscheck.eq_1) (@E_rscheck.eq_1)
theorem E_rscheck_ok : Snd Tryz.prog 80 E_rscheck := by
  intro vs b k n e h hn hp
  unfold E_rscheck at h
  split at h
  · cases h; obtain ⟨hp0, hq0⟩ := hp; obtain ⟨_, rfl⟩ := LI_ex hq0; simp only [ints_LI, bys_LB, blks_LK, lls_LL] at hp0 ⊢; exact (spec_rscheck _ _ _ _ _ _ _ _ hp0).lift rfl _
  · cases h

theorem spec_take (c n d a p f : Int) (l : List Int) (i : Int) (hl : l.length ≤ 1000000) : Spec Tryz.prog 0 100 [.agg [.d (.int .i64 c), .d (.int .i64 n), .d (.int .i64 d), .d (.int .i64 a), .d (.int .i64 p), .d (.int .i64 f), .d (.list (LI .i32 l))], vI .i64 i] [] [] (.tup [.agg [.int .i64 (tkC ⟨c, ⟨n, d, a, p, f⟩, l⟩ i), .list (LI .i32 (tkO ⟨c, ⟨n, d, a, p, f⟩, l⟩ i))], .agg [.int .i64 (tkR ⟨c, ⟨n, d, a, p, f⟩, l⟩ i).c, .int .i64 (tkR ⟨c, ⟨n, d, a, p, f⟩, l⟩ i).p.n, .int .i64 (tkR ⟨c, ⟨n, d, a, p, f⟩, l⟩ i).p.d, .int .i64 (tkR ⟨c, ⟨n, d, a, p, f⟩, l⟩ i).p.a, .int .i64 (tkR ⟨c, ⟨n, d, a, p, f⟩, l⟩ i).p.p, .int .i64 (tkR ⟨c, ⟨n, d, a, p, f⟩, l⟩ i).p.f, .list (LI .i32 (tkR ⟨c, ⟨n, d, a, p, f⟩, l⟩ i).l)], .int .i64 (tkE ⟨c, ⟨n, d, a, p, f⟩, l⟩ i)]) [] [] := by
  refine spec_of_E (X := ⟨Tryz.prog, tt, Tryz.f100.ntmps, 1, fun _ => 0, (tab [(80, E_rscheck), (118, E_pneed), (81, E_produce)])⟩) (M := []) (m := 4294984183) rfl rfl ⟨tt_ok, tab_ok (tabs_cons E_rscheck_ok (tabs_cons E_pneed_ok (tabs_cons E_produce_ok tabs_nil))) _ rfl rfl⟩ tt_mixed Tryz.func100 rfl (by decide) (by show (2 : Nat) ≤ _; exact Nat.le_of_ble_eq_true rfl) ⟨fun m hm => (V.bare_has rfl m hm).elim, by simp, by simp⟩ ?_
  simp only [↓gPre, gPost, gCore, gDef, Nat.reduceShiftRight, Nat.reduceMod, if_true, if_false, ↓reduceIte, reduceCtorEq, Nat.reduceEqDiff, Nat.reduceLT, Nat.reduceLeDiff, implies_true, forall_const, eq_self, ne_eq, not_true_eq_false, not_false_eq_true, imp_self, Nat.reduceAdd, Nat.reduceMul, Int.reduceLE, Int.reduceLT, Int.reduceNeg, Int.reduceAdd, Int.reduceToNat, E_rscheck_eq, E_pneed_eq, E_produce_eq, Tryz.ntmps100, Tryz.results100, gTT]
  refine ⟨hl, fun h => ?_, fun h => ?_⟩
  · have hne : rcE ⟨c, ⟨n, d, a, p, f⟩, l⟩ i ≠ 0 := by simpa using h
    have e : tkE ⟨c, ⟨n, d, a, p, f⟩, l⟩ i = rcE ⟨c, ⟨n, d, a, p, f⟩, l⟩ i := by unfold tkE; rw [if_pos hne]
    simp [tkC, tkO, tkR, e, hne, rs0, LI_nil]
  have he : rcE ⟨c, ⟨n, d, a, p, f⟩, l⟩ i = 0 := by simpa using h
  obtain ⟨hv, hi⟩ := rcE_ok he
  obtain ⟨⟨k1, k2⟩, k3, k4, k5⟩ := blk_in (rsV_in hv).2 hl
  have hp := (rsV_in hv).1
  simp only at k1 k2 hp k3
  have hN : neE ⟨n, d, a, p, f⟩ i = ned ⟨n, d, a, p, f⟩ i := by unfold neE; rw [if_pos (phC_of hp hi)]
  rw [len_div k1 (by omega), hN]
  refine ⟨by omega, fun h2 => ?_, fun h2 => ?_⟩
  · have e : tkE ⟨c, ⟨n, d, a, p, f⟩, l⟩ i = 4 := by unfold tkE; rw [if_neg (by rw [he]; decide), if_pos (of_decide_eq_true h2)]
    simp [tkC, tkO, tkR, e, rs0, LI_nil]
  have e : tkE ⟨c, ⟨n, d, a, p, f⟩, l⟩ i = poE ⟨c, ⟨n, d, a, p, f⟩, l⟩ i := by unfold tkE; rw [if_neg (by rw [he]; decide), if_neg (of_decide_eq_false h2)]
  have hne : 0 < i → 0 < l.length := fun h0 => by
    have h3 := ned_two hp (n := i) (by omega)
    have h4 := of_decide_eq_false h2
    rcases Nat.eq_zero_or_pos l.length with h5 | h5
    · rw [h5, Nat.zero_div] at h4; simp at h4; omega
    · exact h5
  refine ⟨⟨hl, hv, hi, hne⟩, ?_⟩
  by_cases h6 : poE ⟨c, ⟨n, d, a, p, f⟩, l⟩ i = 0
  · simp [tkC, tkO, tkR, e, h6, poC, poO]
  · simp [tkC, tkO, tkR, e, h6, poC, poO, poR]
def E_take : List V → Boxes → Toks → Name → Option Ent
  | [.agg [.d (.int .i64 c), .d (.int .i64 n), .d (.int .i64 d), .d (.int .i64 a), .d (.int .i64 p), .d (.int .i64 f), .d (.list q_l)], .c (.d (.int .i64 i))], [], [], _ => some ⟨(ints q_l).length ≤ 1000000 ∧ q_l = LI .i32 (ints q_l), .tup [.agg [.int .i64 (tkC ⟨c, ⟨n, d, a, p, f⟩, (ints q_l)⟩ i), .list (LI .i32 (tkO ⟨c, ⟨n, d, a, p, f⟩, (ints q_l)⟩ i))], .agg [.int .i64 (tkR ⟨c, ⟨n, d, a, p, f⟩, (ints q_l)⟩ i).c, .int .i64 (tkR ⟨c, ⟨n, d, a, p, f⟩, (ints q_l)⟩ i).p.n, .int .i64 (tkR ⟨c, ⟨n, d, a, p, f⟩, (ints q_l)⟩ i).p.d, .int .i64 (tkR ⟨c, ⟨n, d, a, p, f⟩, (ints q_l)⟩ i).p.a, .int .i64 (tkR ⟨c, ⟨n, d, a, p, f⟩, (ints q_l)⟩ i).p.p, .int .i64 (tkR ⟨c, ⟨n, d, a, p, f⟩, (ints q_l)⟩ i).p.f, .list (LI .i32 (tkR ⟨c, ⟨n, d, a, p, f⟩, (ints q_l)⟩ i).l)], .int .i64 (tkE ⟨c, ⟨n, d, a, p, f⟩, (ints q_l)⟩ i)], [], []⟩
  | _, _, _, _ => none
def E_take_eq := And.intro (@E_take.eq_1) (@E_take.eq_1)
theorem E_take_ok : Snd Tryz.prog 100 E_take := by
  intro vs b k n e h hn hp
  unfold E_take at h
  split at h
  · cases h; obtain ⟨hp0, hq0⟩ := hp; obtain ⟨_, rfl⟩ := LI_ex hq0; simp only [ints_LI, bys_LB, blks_LK, lls_LL] at hp0 ⊢; exact (spec_take _ _ _ _ _ _ _ _ hp0).lift rfl _
  · cases h

theorem spec_rtake (c n d a p f : Int) (l : List Int) (i : Int) (hl : l.length ≤ 1000000) : Spec Tryz.prog 0 75 [.agg [.d (.int .i64 c), .d (.int .i64 n), .d (.int .i64 d), .d (.int .i64 a), .d (.int .i64 p), .d (.int .i64 f), .d (.list (LI .i32 l))], vI .i64 i] [] [] (.tup [.agg [.int .i64 (tkC ⟨c, ⟨n, d, a, p, f⟩, l⟩ i), .list (LI .i32 (tkO ⟨c, ⟨n, d, a, p, f⟩, l⟩ i))], .agg [.int .i64 (tkR ⟨c, ⟨n, d, a, p, f⟩, l⟩ i).c, .int .i64 (tkR ⟨c, ⟨n, d, a, p, f⟩, l⟩ i).p.n, .int .i64 (tkR ⟨c, ⟨n, d, a, p, f⟩, l⟩ i).p.d, .int .i64 (tkR ⟨c, ⟨n, d, a, p, f⟩, l⟩ i).p.a, .int .i64 (tkR ⟨c, ⟨n, d, a, p, f⟩, l⟩ i).p.p, .int .i64 (tkR ⟨c, ⟨n, d, a, p, f⟩, l⟩ i).p.f, .list (LI .i32 (tkR ⟨c, ⟨n, d, a, p, f⟩, l⟩ i).l)], .int .i64 (tkE ⟨c, ⟨n, d, a, p, f⟩, l⟩ i)]) [] [] := by
  refine spec_of_E (X := ⟨Tryz.prog, tt, Tryz.f75.ntmps, 1, fun _ => 0, (tab [(63, E_rrsvalid), (101, E_rpneed), (74, E_rwaiting), (86, E_rpassed), (87, E_rframes)])⟩) (M := []) (m := 1100593763319) rfl rfl ⟨tt_ok, tab_ok (tabs_cons E_rrsvalid_ok (tabs_cons E_rpneed_ok (tabs_cons E_rwaiting_ok (tabs_cons E_rpassed_ok (tabs_cons E_rframes_ok tabs_nil))))) _ rfl rfl⟩ tt_mixed Tryz.func75 rfl (by decide) (by show (2 : Nat) ≤ _; exact Nat.le_of_ble_eq_true rfl) ⟨fun m hm => (V.bare_has rfl m hm).elim, by simp, by simp⟩ ?_
  simp only [↓gPre, gPost, gCore, gDef, Nat.reduceShiftRight, Nat.reduceMod, if_true, if_false, ↓reduceIte, reduceCtorEq, Nat.reduceEqDiff, Nat.reduceLT, Nat.reduceLeDiff, implies_true, forall_const, eq_self, ne_eq, not_true_eq_false, not_false_eq_true, imp_self, Nat.reduceAdd, Nat.reduceMul, Int.reduceLE, Int.reduceLT, Int.reduceNeg, Int.reduceAdd, Int.reduceToNat, E_rrsvalid_eq, E_rpneed_eq, E_rwaiting_eq, E_rpassed_eq, E_rframes_eq, Tryz.ntmps75, Tryz.results75, gTT]
  refine ⟨hl, fun h => ?_, fun h => ?_⟩
  · have e : tkE ⟨c, ⟨n, d, a, p, f⟩, l⟩ i = 1 := by simp [tkE, rcE, h]
    simp [tkC, tkO, tkR, e, rs0, LI_nil]
  have hv : rsV ⟨c, ⟨n, d, a, p, f⟩, l⟩ = true := by simpa using h
  have hpc := rcE_phC (n := i) hv
  simp only at hpc
  rw [hpc]
  refine ⟨fun h2 => ?_, fun h2 => ⟨hl, fun h3 => ?_, fun h3 => ?_⟩⟩
  · have hne : rcE ⟨c, ⟨n, d, a, p, f⟩, l⟩ i ≠ 0 := by simpa using h2
    have e : tkE ⟨c, ⟨n, d, a, p, f⟩, l⟩ i = rcE ⟨c, ⟨n, d, a, p, f⟩, l⟩ i := by unfold tkE; rw [if_pos hne]
    simp [tkC, tkO, tkR, e, hne, rs0, LI_nil]
  all_goals
    have he : rcE ⟨c, ⟨n, d, a, p, f⟩, l⟩ i = 0 := by simpa using h2
    obtain ⟨_, hi⟩ := rcE_ok he
    have hp := (rsV_in hv).1
    simp only at hp
    have hN : neE ⟨n, d, a, p, f⟩ i = ned ⟨n, d, a, p, f⟩ i := by unfold neE; rw [if_pos (phC_of hp hi)]
    have hW : waN ⟨c, ⟨n, d, a, p, f⟩, l⟩ = ((l.length / c.toNat : Nat) : Int) := by unfold waN; rw [if_pos hv]
    rw [hW, hN] at h3
  · have e : tkE ⟨c, ⟨n, d, a, p, f⟩, l⟩ i = 4 := by unfold tkE; rw [if_neg (by rw [he]; decide), if_pos (of_decide_eq_true h3)]
    simp [tkC, tkO, tkR, e, rs0, LI_nil]
  have e : tkE ⟨c, ⟨n, d, a, p, f⟩, l⟩ i = poE ⟨c, ⟨n, d, a, p, f⟩, l⟩ i := by unfold tkE; rw [if_neg (by rw [he]; decide), if_neg (of_decide_eq_false h3)]
  have hne : 0 < i → 0 < l.length := fun h0 => by
    have h3' := ned_two hp (n := i) (by omega)
    have h4 := of_decide_eq_false h3
    rcases Nat.eq_zero_or_pos l.length with h5 | h5
    · rw [h5, Nat.zero_div] at h4; simp at h4; omega
    · exact h5
  refine ⟨⟨hl, hv, hi⟩, fun h6 => ?_, fun h6 => ⟨by kernel_rfl, ⟨hl, hv, hi, hne⟩, ?_⟩⟩
  · have h7 : poE ⟨c, ⟨n, d, a, p, f⟩, l⟩ i ≠ 0 := by simpa using h6
    simp [tkC, tkO, tkR, e, h7, rs0, LI_nil]
  · have h7 : poE ⟨c, ⟨n, d, a, p, f⟩, l⟩ i = 0 := by simpa using h6
    simp [tkC, tkO, tkR, e, h7]
def E_rtake : List V → Boxes → Toks → Name → Option Ent
  | [.agg [.d (.int .i64 c), .d (.int .i64 n), .d (.int .i64 d), .d (.int .i64 a), .d (.int .i64 p), .d (.int .i64 f), .d (.list q_l)], .c (.d (.int .i64 i))], [], [], _ => some ⟨(ints q_l).length ≤ 1000000 ∧ q_l = LI .i32 (ints q_l), .tup [.agg [.int .i64 (tkC ⟨c, ⟨n, d, a, p, f⟩, (ints q_l)⟩ i), .list (LI .i32 (tkO ⟨c, ⟨n, d, a, p, f⟩, (ints q_l)⟩ i))], .agg [.int .i64 (tkR ⟨c, ⟨n, d, a, p, f⟩, (ints q_l)⟩ i).c, .int .i64 (tkR ⟨c, ⟨n, d, a, p, f⟩, (ints q_l)⟩ i).p.n, .int .i64 (tkR ⟨c, ⟨n, d, a, p, f⟩, (ints q_l)⟩ i).p.d, .int .i64 (tkR ⟨c, ⟨n, d, a, p, f⟩, (ints q_l)⟩ i).p.a, .int .i64 (tkR ⟨c, ⟨n, d, a, p, f⟩, (ints q_l)⟩ i).p.p, .int .i64 (tkR ⟨c, ⟨n, d, a, p, f⟩, (ints q_l)⟩ i).p.f, .list (LI .i32 (tkR ⟨c, ⟨n, d, a, p, f⟩, (ints q_l)⟩ i).l)], .int .i64 (tkE ⟨c, ⟨n, d, a, p, f⟩, (ints q_l)⟩ i)], [], []⟩
  | _, _, _, _ => none
def E_rtake_eq := And.intro (@E_rtake.eq_1) (@E_rtake.eq_1)
theorem E_rtake_ok : Snd Tryz.prog 75 E_rtake := by
  intro vs b k n e h hn hp
  unfold E_rtake at h
  split at h
  · cases h; obtain ⟨hp0, hq0⟩ := hp; obtain ⟨_, rfl⟩ := LI_ex hq0; simp only [ints_LI, bys_LB, blks_LK, lls_LL] at hp0 ⊢; exact (spec_rtake _ _ _ _ _ _ _ _ hp0).lift rfl _
  · cases h

theorem spec_finish (c n d a p f : Int) (l : List Int) (i : Int) (hl : l.length ≤ 1000000) : Spec Tryz.prog 0 42 [.agg [.d (.int .i64 c), .d (.int .i64 n), .d (.int .i64 d), .d (.int .i64 a), .d (.int .i64 p), .d (.int .i64 f), .d (.list (LI .i32 l))], vI .i64 i] [] [] (.tup [.agg [.int .i64 (fiC ⟨c, ⟨n, d, a, p, f⟩, l⟩ i), .list (LI .i32 (fiO ⟨c, ⟨n, d, a, p, f⟩, l⟩ i))], .agg [.int .i64 (fiR ⟨c, ⟨n, d, a, p, f⟩, l⟩ i).c, .int .i64 (fiR ⟨c, ⟨n, d, a, p, f⟩, l⟩ i).p.n, .int .i64 (fiR ⟨c, ⟨n, d, a, p, f⟩, l⟩ i).p.d, .int .i64 (fiR ⟨c, ⟨n, d, a, p, f⟩, l⟩ i).p.a, .int .i64 (fiR ⟨c, ⟨n, d, a, p, f⟩, l⟩ i).p.p, .int .i64 (fiR ⟨c, ⟨n, d, a, p, f⟩, l⟩ i).p.f, .list (LI .i32 (fiR ⟨c, ⟨n, d, a, p, f⟩, l⟩ i).l)], .int .i64 (fiE ⟨c, ⟨n, d, a, p, f⟩, l⟩ i)]) [] [] := by
  refine spec_of_E (X := ⟨Tryz.prog, tt, Tryz.f42.ntmps, 1, fun _ => 0, (tab [(80, E_rscheck), (81, E_produce)])⟩) (M := [(6, [0, 0, 0, 0, 0, 210556476788727, 0, 0, 0, 0, 0, 175921860513783, 0])]) (m := 140737488424951) rfl rfl ⟨tt_ok, tab_ok (tabs_cons E_rscheck_ok (tabs_cons E_produce_ok tabs_nil)) _ rfl rfl⟩ tt_mixed Tryz.func42 rfl (by decide) (by show (2 : Nat) ≤ _; exact Nat.le_of_ble_eq_true rfl) ⟨fun m hm => (V.bare_has rfl m hm).elim, by simp, by simp⟩ ?_
  simp only [↓gPre, gPost, gCore, gDef, Nat.reduceShiftRight, Nat.reduceMod, if_true, if_false, ↓reduceIte, reduceCtorEq, Nat.reduceEqDiff, Nat.reduceLT, Nat.reduceLeDiff, implies_true, forall_const, eq_self, ne_eq, not_true_eq_false, not_false_eq_true, imp_self, Nat.reduceAdd, Nat.reduceMul, Int.reduceLE, Int.reduceLT, Int.reduceNeg, Int.reduceAdd, Int.reduceToNat, E_rscheck_eq, E_produce_eq, Tryz.ntmps42, Tryz.results42, gTT]
  refine ⟨hl, fun h => ?_, fun h => ⟨by kernel_rfl, ?_⟩⟩
  · have hne : rcE ⟨c, ⟨n, d, a, p, f⟩, l⟩ i ≠ 0 := by simpa using h
    have e : fiE ⟨c, ⟨n, d, a, p, f⟩, l⟩ i = rcE ⟨c, ⟨n, d, a, p, f⟩, l⟩ i := by unfold fiE; rw [if_pos hne]
    simp [fiC, fiO, fiR, e, hne, rs0, LI_nil]
  have he : rcE ⟨c, ⟨n, d, a, p, f⟩, l⟩ i = 0 := by simpa using h
  obtain ⟨hv, hi⟩ := rcE_ok he
  obtain ⟨⟨k1, k2⟩, k3, k4, k5⟩ := blk_in (rsV_in hv).2 hl
  have hp := (rsV_in hv).1
  simp only at k1 k2 hp k3 k4
  have hpi := phV_in hp
  simp only at hpi
  have hpr := prt_in hp
  have hst := stp_in hp
  have hlf := lef_in hv hl
  have hct := cnt_in hv hl hi.1
  have hP : IntKind.i64.wrap (d * 65536) = prt ⟨n, d, a, p, f⟩ := rfl
  have hS : IntKind.i64.wrap (n * IntKind.i64.wrap (65536 + a)) = stp ⟨n, d, a, p, f⟩ := rfl
  have hL : IntKind.i64.wrap (IntKind.i64.wrap (IntKind.i64.wrap ((l.length : Int).tdiv c) * prt ⟨n, d, a, p, f⟩) - f) = lefX ⟨c, ⟨n, d, a, p, f⟩, l⟩ := by
    have e1 : lefX ⟨c, ⟨n, d, a, p, f⟩, l⟩ = ((l.length / c.toNat : Nat) : Int) * prt ⟨n, d, a, p, f⟩ - f := rfl
    rw [e1] at hlf
    rw [len_div k1 (by omega), e1]
    generalize ((l.length / c.toNat : Nat) : Int) * prt ⟨n, d, a, p, f⟩ = m at *
    rw [IntWalk.i64_in m (by omega), IntWalk.i64_in (m - f) (by omega)]
  rw [hP, hS, hL]
  have e : fiE ⟨c, ⟨n, d, a, p, f⟩, l⟩ i = poE ⟨c, ⟨n, d, a, p, f⟩, l⟩ (cnt ⟨c, ⟨n, d, a, p, f⟩, l⟩ i) := by unfold fiE; rw [if_neg (by rw [he]; decide)]
  have hfin : ([D.agg [D.int .i64 (fiC ⟨c, ⟨n, d, a, p, f⟩, l⟩ i), D.list (LI .i32 (fiO ⟨c, ⟨n, d, a, p, f⟩, l⟩ i))], D.agg [D.int .i64 (fiR ⟨c, ⟨n, d, a, p, f⟩, l⟩ i).c, D.int .i64 (fiR ⟨c, ⟨n, d, a, p, f⟩, l⟩ i).p.n, D.int .i64 (fiR ⟨c, ⟨n, d, a, p, f⟩, l⟩ i).p.d, D.int .i64 (fiR ⟨c, ⟨n, d, a, p, f⟩, l⟩ i).p.a, D.int .i64 (fiR ⟨c, ⟨n, d, a, p, f⟩, l⟩ i).p.p, D.int .i64 (fiR ⟨c, ⟨n, d, a, p, f⟩, l⟩ i).p.f, D.list (LI .i32 (fiR ⟨c, ⟨n, d, a, p, f⟩, l⟩ i).l)], D.int .i64 (fiE ⟨c, ⟨n, d, a, p, f⟩, l⟩ i)] : List D) =
      [D.agg [D.int .i64 (poC ⟨c, ⟨n, d, a, p, f⟩, l⟩ (cnt ⟨c, ⟨n, d, a, p, f⟩, l⟩ i)), D.list (LI .i32 (poO ⟨c, ⟨n, d, a, p, f⟩, l⟩ (cnt ⟨c, ⟨n, d, a, p, f⟩, l⟩ i)))], D.agg [D.int .i64 (poR ⟨c, ⟨n, d, a, p, f⟩, l⟩ (cnt ⟨c, ⟨n, d, a, p, f⟩, l⟩ i)).c, D.int .i64 (poR ⟨c, ⟨n, d, a, p, f⟩, l⟩ (cnt ⟨c, ⟨n, d, a, p, f⟩, l⟩ i)).p.n, D.int .i64 (poR ⟨c, ⟨n, d, a, p, f⟩, l⟩ (cnt ⟨c, ⟨n, d, a, p, f⟩, l⟩ i)).p.d, D.int .i64 (poR ⟨c, ⟨n, d, a, p, f⟩, l⟩ (cnt ⟨c, ⟨n, d, a, p, f⟩, l⟩ i)).p.a, D.int .i64 (poR ⟨c, ⟨n, d, a, p, f⟩, l⟩ (cnt ⟨c, ⟨n, d, a, p, f⟩, l⟩ i)).p.p, D.int .i64 (poR ⟨c, ⟨n, d, a, p, f⟩, l⟩ (cnt ⟨c, ⟨n, d, a, p, f⟩, l⟩ i)).p.f, D.list (LI .i32 (poR ⟨c, ⟨n, d, a, p, f⟩, l⟩ (cnt ⟨c, ⟨n, d, a, p, f⟩, l⟩ i)).l)], D.int .i64 (poE ⟨c, ⟨n, d, a, p, f⟩, l⟩ (cnt ⟨c, ⟨n, d, a, p, f⟩, l⟩ i))] := by
    by_cases h6 : poE ⟨c, ⟨n, d, a, p, f⟩, l⟩ (cnt ⟨c, ⟨n, d, a, p, f⟩, l⟩ i) = 0
    · simp [fiC, fiO, fiR, e, h6, poC, poO]
    · simp [fiC, fiO, fiR, e, h6, poC, poO, poR]
  rw [hfin]
  refine ⟨by omega, fun h2 => ?_, fun h2 => ?_⟩
  · have h3 := of_decide_eq_true h2
    have hcn : (if IntKind.i64.wrap ((IntKind.i64.wrap (IntKind.i64.wrap (lefX ⟨c, ⟨n, d, a, p, f⟩, l⟩ + stp ⟨n, d, a, p, f⟩) - 1)).tdiv (stp ⟨n, d, a, p, f⟩)) < i then IntKind.i64.wrap ((IntKind.i64.wrap (IntKind.i64.wrap (lefX ⟨c, ⟨n, d, a, p, f⟩, l⟩ + stp ⟨n, d, a, p, f⟩) - 1)).tdiv (stp ⟨n, d, a, p, f⟩)) else i) = cnt ⟨c, ⟨n, d, a, p, f⟩, l⟩ i := by
      have e1 : cnt ⟨c, ⟨n, d, a, p, f⟩, l⟩ i = min i ((lefX ⟨c, ⟨n, d, a, p, f⟩, l⟩ + stp ⟨n, d, a, p, f⟩ - 1) / stp ⟨n, d, a, p, f⟩) := by unfold cnt; rw [if_pos h3]
      rw [e1, IntWalk.i64_in (lefX ⟨c, ⟨n, d, a, p, f⟩, l⟩ + stp ⟨n, d, a, p, f⟩) (by omega), IntWalk.i64_in (lefX ⟨c, ⟨n, d, a, p, f⟩, l⟩ + stp ⟨n, d, a, p, f⟩ - 1) (by omega), Int.tdiv_eq_ediv_of_nonneg (by omega)]
      have h4 : 0 ≤ (lefX ⟨c, ⟨n, d, a, p, f⟩, l⟩ + stp ⟨n, d, a, p, f⟩ - 1) / stp ⟨n, d, a, p, f⟩ := Int.ediv_nonneg (by omega) (by omega)
      have h5 : (lefX ⟨c, ⟨n, d, a, p, f⟩, l⟩ + stp ⟨n, d, a, p, f⟩ - 1) / stp ⟨n, d, a, p, f⟩ ≤ lefX ⟨c, ⟨n, d, a, p, f⟩, l⟩ + stp ⟨n, d, a, p, f⟩ - 1 := Int.ediv_le_self _ (by omega)
      generalize (lefX ⟨c, ⟨n, d, a, p, f⟩, l⟩ + stp ⟨n, d, a, p, f⟩ - 1) / stp ⟨n, d, a, p, f⟩ = q at *
      rw [IntWalk.i64_in q (by omega)]
      split <;> omega
    rw [hcn]
    exact ⟨by omega, ⟨hl, hv, ⟨hct.1, by omega⟩, hct.2.2⟩, rfl⟩
  · have e1 : cnt ⟨c, ⟨n, d, a, p, f⟩, l⟩ i = 0 := by unfold cnt; rw [if_neg (of_decide_eq_false h2)]
    rw [e1]
    exact ⟨⟨hl, hv⟩, rfl⟩
def E_finish : List V → Boxes → Toks → Name → Option Ent
  | [.agg [.d (.int .i64 c), .d (.int .i64 n), .d (.int .i64 d), .d (.int .i64 a), .d (.int .i64 p), .d (.int .i64 f), .d (.list q_l)], .c (.d (.int .i64 i))], [], [], _ => some ⟨(ints q_l).length ≤ 1000000 ∧ q_l = LI .i32 (ints q_l), .tup [.agg [.int .i64 (fiC ⟨c, ⟨n, d, a, p, f⟩, (ints q_l)⟩ i), .list (LI .i32 (fiO ⟨c, ⟨n, d, a, p, f⟩, (ints q_l)⟩ i))], .agg [.int .i64 (fiR ⟨c, ⟨n, d, a, p, f⟩, (ints q_l)⟩ i).c, .int .i64 (fiR ⟨c, ⟨n, d, a, p, f⟩, (ints q_l)⟩ i).p.n, .int .i64 (fiR ⟨c, ⟨n, d, a, p, f⟩, (ints q_l)⟩ i).p.d, .int .i64 (fiR ⟨c, ⟨n, d, a, p, f⟩, (ints q_l)⟩ i).p.a, .int .i64 (fiR ⟨c, ⟨n, d, a, p, f⟩, (ints q_l)⟩ i).p.p, .int .i64 (fiR ⟨c, ⟨n, d, a, p, f⟩, (ints q_l)⟩ i).p.f, .list (LI .i32 (fiR ⟨c, ⟨n, d, a, p, f⟩, (ints q_l)⟩ i).l)], .int .i64 (fiE ⟨c, ⟨n, d, a, p, f⟩, (ints q_l)⟩ i)], [], []⟩
  | _, _, _, _ => none
def E_finish_eq := And.intro (@E_finish.eq_1) (@E_finish.eq_1)
theorem E_finish_ok : Snd Tryz.prog 42 E_finish := by
  intro vs b k n e h hn hp
  unfold E_finish at h
  split at h
  · cases h; obtain ⟨hp0, hq0⟩ := hp; obtain ⟨_, rfl⟩ := LI_ex hq0; simp only [ints_LI, bys_LB, blks_LK, lls_LL] at hp0 ⊢; exact (spec_finish _ _ _ _ _ _ _ _ hp0).lift rfl _
  · cases h

theorem spec_rfinish (c n d a p f : Int) (l : List Int) (i : Int) (hl : l.length ≤ 1000000) : Spec Tryz.prog 0 44 [.agg [.d (.int .i64 c), .d (.int .i64 n), .d (.int .i64 d), .d (.int .i64 a), .d (.int .i64 p), .d (.int .i64 f), .d (.list (LI .i32 l))], vI .i64 i] [] [] (.tup [.agg [.int .i64 (fiC ⟨c, ⟨n, d, a, p, f⟩, l⟩ i), .list (LI .i32 (fiO ⟨c, ⟨n, d, a, p, f⟩, l⟩ i))], .agg [.int .i64 (fiR ⟨c, ⟨n, d, a, p, f⟩, l⟩ i).c, .int .i64 (fiR ⟨c, ⟨n, d, a, p, f⟩, l⟩ i).p.n, .int .i64 (fiR ⟨c, ⟨n, d, a, p, f⟩, l⟩ i).p.d, .int .i64 (fiR ⟨c, ⟨n, d, a, p, f⟩, l⟩ i).p.a, .int .i64 (fiR ⟨c, ⟨n, d, a, p, f⟩, l⟩ i).p.p, .int .i64 (fiR ⟨c, ⟨n, d, a, p, f⟩, l⟩ i).p.f, .list (LI .i32 (fiR ⟨c, ⟨n, d, a, p, f⟩, l⟩ i).l)], .int .i64 (fiE ⟨c, ⟨n, d, a, p, f⟩, l⟩ i)]) [] [] := by
  refine spec_of_E (X := ⟨Tryz.prog, tt, Tryz.f44.ntmps, 1, fun _ => 0, (tab [(63, E_rrsvalid), (74, E_rwaiting), (85, E_rpat), (86, E_rpassed), (87, E_rframes)])⟩) (M := []) (m := 72127964946445303) rfl rfl ⟨tt_ok, tab_ok (tabs_cons E_rrsvalid_ok (tabs_cons E_rwaiting_ok (tabs_cons E_rpat_ok (tabs_cons E_rpassed_ok (tabs_cons E_rframes_ok tabs_nil))))) _ rfl rfl⟩ tt_mixed Tryz.func44 rfl (by decide) (by show (2 : Nat) ≤ _; exact Nat.le_of_ble_eq_true rfl) ⟨fun m hm => (V.bare_has rfl m hm).elim, by simp, by simp⟩ ?_
  simp only [↓gPre, gPost, gCore, gDef, Nat.reduceShiftRight, Nat.reduceMod, if_true, if_false, ↓reduceIte, reduceCtorEq, Nat.reduceEqDiff, Nat.reduceLT, Nat.reduceLeDiff, implies_true, forall_const, eq_self, ne_eq, not_true_eq_false, not_false_eq_true, imp_self, Nat.reduceAdd, Nat.reduceMul, Int.reduceLE, Int.reduceLT, Int.reduceNeg, Int.reduceAdd, Int.reduceToNat, E_rrsvalid_eq, E_rwaiting_eq, E_rpat_eq, E_rpassed_eq, E_rframes_eq, Tryz.ntmps44, Tryz.results44, gTT]
  refine ⟨hl, fun h => ?_, fun h => ⟨fun h2 => ?_, fun h2 => ⟨hl, ?_⟩⟩⟩
  · have e : fiE ⟨c, ⟨n, d, a, p, f⟩, l⟩ i = 1 := by simp [fiE, rcE, h]
    simp [fiC, fiO, fiR, e, rs0, LI_nil]
  · have hv : rsV ⟨c, ⟨n, d, a, p, f⟩, l⟩ = true := by simpa using h
    have e0 : rcE ⟨c, ⟨n, d, a, p, f⟩, l⟩ i = 2 := by unfold rcE; rw [if_neg (by rw [hv]; decide), if_pos h2]
    have e : fiE ⟨c, ⟨n, d, a, p, f⟩, l⟩ i = 2 := by unfold fiE; rw [e0]; rfl
    simp [fiC, fiO, fiR, e, rs0, LI_nil]
  have hv : rsV ⟨c, ⟨n, d, a, p, f⟩, l⟩ = true := by simpa using h
  have he : rcE ⟨c, ⟨n, d, a, p, f⟩, l⟩ i = 0 := by unfold rcE; rw [if_neg (by rw [hv]; decide), if_neg (by rw [h2]; decide)]
  obtain ⟨_, hi⟩ := rcE_ok he
  have hp := (rsV_in hv).1
  simp only at hp
  have hct := cnt_in hv hl hi.1
  have hW : waN ⟨c, ⟨n, d, a, p, f⟩, l⟩ = ((l.length / c.toNat : Nat) : Int) := by unfold waN; rw [if_pos hv]
  rw [hW]
  refine ELoop_keep (fun g => ⟨[(7, vI .i64 (g : Nat))], [], []⟩) (fun g => (g : Int) ≤ cnt ⟨c, ⟨n, d, a, p, f⟩, l⟩ i) (fun g => i.toNat - g) (· + 1) 0 (by simpa using hct.1) ?_ ?_
  · simp only [↓gPre, gPost, gCore, gDef, Nat.reduceShiftRight, Nat.reduceMod, if_true, if_false, ↓reduceIte, reduceCtorEq, Nat.reduceEqDiff, Nat.reduceLT, Nat.reduceLeDiff, implies_true, forall_const, eq_self, ne_eq, not_true_eq_false, not_false_eq_true, imp_self, Nat.reduceAdd, Nat.reduceMul, Int.reduceLE, Int.reduceLT, Int.reduceNeg, Int.reduceAdd, Int.reduceToNat, E_rrsvalid_eq, E_rwaiting_eq, E_rpat_eq, E_rpassed_eq, E_rframes_eq, Tryz.ntmps44, Tryz.results44, gTT]
    rfl
  intro g hg
  simp only [↓gPre, gPost, gCore, gDef, Nat.reduceShiftRight, Nat.reduceMod, if_true, if_false, ↓reduceIte, reduceCtorEq, Nat.reduceEqDiff, Nat.reduceLT, Nat.reduceLeDiff, implies_true, forall_const, eq_self, ne_eq, not_true_eq_false, not_false_eq_true, imp_self, Nat.reduceAdd, Nat.reduceMul, Int.reduceLE, Int.reduceLT, Int.reduceNeg, Int.reduceAdd, Int.reduceToNat, E_rrsvalid_eq, E_rwaiting_eq, E_rpat_eq, E_rpassed_eq, E_rframes_eq, Tryz.ntmps44, Tryz.results44, gTT]
  have key : (g : Int) < i → ((((l.length / c.toNat : Nat) : Int) ≤ IntKind.i64.wrap (atP ⟨n, d, a, p, f⟩ g - p)) ↔ ¬ ((g : Int) < cnt ⟨c, ⟨n, d, a, p, f⟩, l⟩ i)) := fun h => by
    have h1 := cnt_iff hv h
    obtain ⟨_, _, q3⟩ := at_eq hp (g := g) (by omega)
    have q4 := qN_eq hp (g := g) (by omega)
    simp only at q3 h1
    rw [q3, q4.1, ← h1]
    omega
  have fe : (g : Int) = cnt ⟨c, ⟨n, d, a, p, f⟩, l⟩ i → fiE ⟨c, ⟨n, d, a, p, f⟩, l⟩ i = poE ⟨c, ⟨n, d, a, p, f⟩, l⟩ g := fun h => by unfold fiE; rw [if_neg (by rw [he]; decide), h]
  refine ⟨fun h3 => ⟨fun h4 => ?_, fun h4 => ?_⟩, fun h3 => ?_⟩
  · have h5 := (key (of_decide_eq_true h3)).1 (of_decide_eq_true h4)
    have hgc : (g : Int) = cnt ⟨c, ⟨n, d, a, p, f⟩, l⟩ i := by omega
    have e := fe hgc
    refine ⟨⟨hl, hv, by omega, by omega⟩, fun h6 => ?_, fun h6 => ⟨by kernel_rfl, ⟨hl, hv, ⟨by omega, by omega⟩, fun h7 => hct.2.2 (by omega)⟩, ?_⟩⟩
    · have h7 : poE ⟨c, ⟨n, d, a, p, f⟩, l⟩ g ≠ 0 := by simpa using h6
      simp [fiC, fiO, fiR, e, h7, rs0, LI_nil]
    · have h7 : poE ⟨c, ⟨n, d, a, p, f⟩, l⟩ g = 0 := by simpa using h6
      simp [fiC, fiO, fiR, e, h7, ← hgc]
  · have h5 : (g : Int) < cnt ⟨c, ⟨n, d, a, p, f⟩, l⟩ i := by
      have := (key (of_decide_eq_true h3)).2
      have h6 := of_decide_eq_false h4
      exact Classical.byContradiction fun h7 => h6 (this h7)
    have := of_decide_eq_true h3
    exact ⟨(wrapN _ (by omega)).symm, by omega, by omega⟩
  · have h5 := of_decide_eq_false h3
    have hgc : (g : Int) = cnt ⟨c, ⟨n, d, a, p, f⟩, l⟩ i := by omega
    have e := fe hgc
    refine ⟨⟨hl, hv, by omega, by omega⟩, fun h6 => ?_, fun h6 => ⟨by kernel_rfl, ⟨hl, hv, ⟨by omega, by omega⟩, fun h7 => hct.2.2 (by omega)⟩, ?_⟩⟩
    · have h7 : poE ⟨c, ⟨n, d, a, p, f⟩, l⟩ g ≠ 0 := by simpa using h6
      simp [fiC, fiO, fiR, e, h7, rs0, LI_nil]
    · have h7 : poE ⟨c, ⟨n, d, a, p, f⟩, l⟩ g = 0 := by simpa using h6
      simp [fiC, fiO, fiR, e, h7, ← hgc]
def E_rfinish : List V → Boxes → Toks → Name → Option Ent
  | [.agg [.d (.int .i64 c), .d (.int .i64 n), .d (.int .i64 d), .d (.int .i64 a), .d (.int .i64 p), .d (.int .i64 f), .d (.list q_l)], .c (.d (.int .i64 i))], [], [], _ => some ⟨(ints q_l).length ≤ 1000000 ∧ q_l = LI .i32 (ints q_l), .tup [.agg [.int .i64 (fiC ⟨c, ⟨n, d, a, p, f⟩, (ints q_l)⟩ i), .list (LI .i32 (fiO ⟨c, ⟨n, d, a, p, f⟩, (ints q_l)⟩ i))], .agg [.int .i64 (fiR ⟨c, ⟨n, d, a, p, f⟩, (ints q_l)⟩ i).c, .int .i64 (fiR ⟨c, ⟨n, d, a, p, f⟩, (ints q_l)⟩ i).p.n, .int .i64 (fiR ⟨c, ⟨n, d, a, p, f⟩, (ints q_l)⟩ i).p.d, .int .i64 (fiR ⟨c, ⟨n, d, a, p, f⟩, (ints q_l)⟩ i).p.a, .int .i64 (fiR ⟨c, ⟨n, d, a, p, f⟩, (ints q_l)⟩ i).p.p, .int .i64 (fiR ⟨c, ⟨n, d, a, p, f⟩, (ints q_l)⟩ i).p.f, .list (LI .i32 (fiR ⟨c, ⟨n, d, a, p, f⟩, (ints q_l)⟩ i).l)], .int .i64 (fiE ⟨c, ⟨n, d, a, p, f⟩, (ints q_l)⟩ i)], [], []⟩
  | _, _, _, _ => none
def E_rfinish_eq := And.intro (@E_rfinish.eq_1) (@E_rfinish.eq_1)
theorem E_rfinish_ok : Snd Tryz.prog 44 E_rfinish := by
  intro vs b k n e h hn hp
  unfold E_rfinish at h
  split at h
  · cases h; obtain ⟨hp0, hq0⟩ := hp; obtain ⟨_, rfl⟩ := LI_ex hq0; simp only [ints_LI, bys_LB, blks_LK, lls_LL] at hp0 ⊢; exact (spec_rfinish _ _ _ _ _ _ _ _ hp0).lift rfl _
  · cases h

theorem spec_convert (c n d a p f : Int) (l : List Int) (k : Int) (y : List Int) (hl : l.length ≤ 1000000) (hy : y.length ≤ 1000000) : Spec Tryz.prog 0 66 [.agg [.d (.int .i64 c), .d (.int .i64 n), .d (.int .i64 d), .d (.int .i64 a), .d (.int .i64 p), .d (.int .i64 f), .d (.list (LI .i32 l))], .agg [.d (.int .i64 k), .d (.list (LI .i32 y))]] [] [] (.tup [.agg [.int .i64 (cvC ⟨c, ⟨n, d, a, p, f⟩, l⟩ k y), .list (LI .i32 (cvO ⟨c, ⟨n, d, a, p, f⟩, l⟩ k y))], .agg [.int .i64 (cvR ⟨c, ⟨n, d, a, p, f⟩, l⟩ k y).c, .int .i64 (cvR ⟨c, ⟨n, d, a, p, f⟩, l⟩ k y).p.n, .int .i64 (cvR ⟨c, ⟨n, d, a, p, f⟩, l⟩ k y).p.d, .int .i64 (cvR ⟨c, ⟨n, d, a, p, f⟩, l⟩ k y).p.a, .int .i64 (cvR ⟨c, ⟨n, d, a, p, f⟩, l⟩ k y).p.p, .int .i64 (cvR ⟨c, ⟨n, d, a, p, f⟩, l⟩ k y).p.f, .list (LI .i32 (cvR ⟨c, ⟨n, d, a, p, f⟩, l⟩ k y).l)], .int .i64 (cvE ⟨c, ⟨n, d, a, p, f⟩, l⟩ k y)]) [] [] := by
  refine spec_of_E (X := ⟨Tryz.prog, tt, Tryz.f66.ntmps, 1, fun _ => 0, (tab [(98, E_feed), (99, E_pmake), (100, E_take)])⟩) (M := [(4, [0, 0, 0, 0, 0, 17066886143, 0, 0, 0, 0, 0, 12885165055, 0, 0])]) (m := 263167) rfl rfl ⟨tt_ok, tab_ok (tabs_cons E_feed_ok (tabs_cons E_pmake_ok (tabs_cons E_take_ok tabs_nil))) _ rfl rfl⟩ tt_mixed Tryz.func66 rfl (by decide) (by show (2 : Nat) ≤ _; exact Nat.le_of_ble_eq_true rfl) ⟨fun m hm => (V.bare_has rfl m hm).elim, by simp, by simp⟩ ?_
  simp only [↓gPre, gPost, gCore, gDef, Nat.reduceShiftRight, Nat.reduceMod, if_true, if_false, ↓reduceIte, reduceCtorEq, Nat.reduceEqDiff, Nat.reduceLT, Nat.reduceLeDiff, implies_true, forall_const, eq_self, ne_eq, not_true_eq_false, not_false_eq_true, imp_self, Nat.reduceAdd, Nat.reduceMul, Int.reduceLE, Int.reduceLT, Int.reduceNeg, Int.reduceAdd, Int.reduceToNat, E_feed_eq, E_pmake_eq, E_take_eq, Tryz.ntmps66, Tryz.results66, gTT]
  refine ⟨⟨hl, hy⟩, fun h => ?_, fun h => ⟨by kernel_rfl, ?_⟩⟩
  · have hne : feE ⟨c, ⟨n, d, a, p, f⟩, l⟩ k y ≠ 0 := by simpa using h
    have e : cvE ⟨c, ⟨n, d, a, p, f⟩, l⟩ k y = feE ⟨c, ⟨n, d, a, p, f⟩, l⟩ k y := by unfold cvE; rw [if_pos hne]
    simp [cvC, cvO, cvR, e, hne, rs0, LI_nil]
  have he : feE ⟨c, ⟨n, d, a, p, f⟩, l⟩ k y = 0 := by simpa using h
  obtain ⟨fe, fv, fl⟩ := feR_ok he hl hy
  have fc : (feR ⟨c, ⟨n, d, a, p, f⟩, l⟩ k y).c = c := by rw [fe]
  obtain ⟨⟨k1, k2⟩, k3, k4, k5⟩ := blk_in (rsV_in fv).2 (by omega)
  have fp := (rsV_in fv).1
  have hz : (((feR ⟨c, ⟨n, d, a, p, f⟩, l⟩ k y).l.length / (feR ⟨c, ⟨n, d, a, p, f⟩, l⟩ k y).c.toNat : Nat) : Int) ≤ 65536 := Int.ofNat_le.2 k4
  have hz0 : 0 ≤ (((feR ⟨c, ⟨n, d, a, p, f⟩, l⟩ k y).l.length / (feR ⟨c, ⟨n, d, a, p, f⟩, l⟩ k y).c.toNat : Nat) : Int) := Int.natCast_nonneg _
  have hM : maN (feR ⟨c, ⟨n, d, a, p, f⟩, l⟩ k y).p (((feR ⟨c, ⟨n, d, a, p, f⟩, l⟩ k y).l.length / (feR ⟨c, ⟨n, d, a, p, f⟩, l⟩ k y).c.toNat : Nat) : Int) = cvN ⟨c, ⟨n, d, a, p, f⟩, l⟩ k y := by
    have e1 : maE (feR ⟨c, ⟨n, d, a, p, f⟩, l⟩ k y).p (((feR ⟨c, ⟨n, d, a, p, f⟩, l⟩ k y).l.length / (feR ⟨c, ⟨n, d, a, p, f⟩, l⟩ k y).c.toNat : Nat) : Int) = 0 := by
      unfold maE
      rw [if_neg (by rw [fp]; decide), if_neg (by simp only [Bool.or_eq_true, decide_eq_true_eq]; omega)]
    unfold maN
    rw [if_pos e1]
    rfl
  have e : cvE ⟨c, ⟨n, d, a, p, f⟩, l⟩ k y = tkE (feR ⟨c, ⟨n, d, a, p, f⟩, l⟩ k y) (cvN ⟨c, ⟨n, d, a, p, f⟩, l⟩ k y) := by unfold cvE; rw [if_neg (by rw [he]; decide)]
  have hfin : ([D.agg [D.int .i64 (cvC ⟨c, ⟨n, d, a, p, f⟩, l⟩ k y), D.list (LI .i32 (cvO ⟨c, ⟨n, d, a, p, f⟩, l⟩ k y))], D.agg [D.int .i64 (cvR ⟨c, ⟨n, d, a, p, f⟩, l⟩ k y).c, D.int .i64 (cvR ⟨c, ⟨n, d, a, p, f⟩, l⟩ k y).p.n, D.int .i64 (cvR ⟨c, ⟨n, d, a, p, f⟩, l⟩ k y).p.d, D.int .i64 (cvR ⟨c, ⟨n, d, a, p, f⟩, l⟩ k y).p.a, D.int .i64 (cvR ⟨c, ⟨n, d, a, p, f⟩, l⟩ k y).p.p, D.int .i64 (cvR ⟨c, ⟨n, d, a, p, f⟩, l⟩ k y).p.f, D.list (LI .i32 (cvR ⟨c, ⟨n, d, a, p, f⟩, l⟩ k y).l)], D.int .i64 (cvE ⟨c, ⟨n, d, a, p, f⟩, l⟩ k y)] : List D) = [D.agg [D.int .i64 (tkC (feR ⟨c, ⟨n, d, a, p, f⟩, l⟩ k y) (cvN ⟨c, ⟨n, d, a, p, f⟩, l⟩ k y)), D.list (LI .i32 (tkO (feR ⟨c, ⟨n, d, a, p, f⟩, l⟩ k y) (cvN ⟨c, ⟨n, d, a, p, f⟩, l⟩ k y)))], D.agg [D.int .i64 (tkR (feR ⟨c, ⟨n, d, a, p, f⟩, l⟩ k y) (cvN ⟨c, ⟨n, d, a, p, f⟩, l⟩ k y)).c, D.int .i64 (tkR (feR ⟨c, ⟨n, d, a, p, f⟩, l⟩ k y) (cvN ⟨c, ⟨n, d, a, p, f⟩, l⟩ k y)).p.n, D.int .i64 (tkR (feR ⟨c, ⟨n, d, a, p, f⟩, l⟩ k y) (cvN ⟨c, ⟨n, d, a, p, f⟩, l⟩ k y)).p.d, D.int .i64 (tkR (feR ⟨c, ⟨n, d, a, p, f⟩, l⟩ k y) (cvN ⟨c, ⟨n, d, a, p, f⟩, l⟩ k y)).p.a, D.int .i64 (tkR (feR ⟨c, ⟨n, d, a, p, f⟩, l⟩ k y) (cvN ⟨c, ⟨n, d, a, p, f⟩, l⟩ k y)).p.p, D.int .i64 (tkR (feR ⟨c, ⟨n, d, a, p, f⟩, l⟩ k y) (cvN ⟨c, ⟨n, d, a, p, f⟩, l⟩ k y)).p.f, D.list (LI .i32 (tkR (feR ⟨c, ⟨n, d, a, p, f⟩, l⟩ k y) (cvN ⟨c, ⟨n, d, a, p, f⟩, l⟩ k y)).l)], D.int .i64 (tkE (feR ⟨c, ⟨n, d, a, p, f⟩, l⟩ k y) (cvN ⟨c, ⟨n, d, a, p, f⟩, l⟩ k y))] := by
    by_cases h6 : tkE (feR ⟨c, ⟨n, d, a, p, f⟩, l⟩ k y) (cvN ⟨c, ⟨n, d, a, p, f⟩, l⟩ k y) = 0
    · simp [cvC, cvO, cvR, tkC, tkO, tkR, e, h6, fc]
    · simp [cvC, cvO, cvR, tkC, tkO, tkR, e, h6]
  rw [hfin, ← hM]
  rw [len_div k1 (by omega)]
  exact ⟨by omega, by omega, rfl⟩
def E_convert : List V → Boxes → Toks → Name → Option Ent
  | [.agg [.d (.int .i64 c), .d (.int .i64 n), .d (.int .i64 d), .d (.int .i64 a), .d (.int .i64 p), .d (.int .i64 f), .d (.list q_l)], .agg [.d (.int .i64 k), .d (.list q_y)]], [], [], _ => some ⟨(ints q_l).length ≤ 1000000 ∧ (ints q_y).length ≤ 1000000 ∧ q_l = LI .i32 (ints q_l) ∧ q_y = LI .i32 (ints q_y), .tup [.agg [.int .i64 (cvC ⟨c, ⟨n, d, a, p, f⟩, (ints q_l)⟩ k (ints q_y)), .list (LI .i32 (cvO ⟨c, ⟨n, d, a, p, f⟩, (ints q_l)⟩ k (ints q_y)))], .agg [.int .i64 (cvR ⟨c, ⟨n, d, a, p, f⟩, (ints q_l)⟩ k (ints q_y)).c, .int .i64 (cvR ⟨c, ⟨n, d, a, p, f⟩, (ints q_l)⟩ k (ints q_y)).p.n, .int .i64 (cvR ⟨c, ⟨n, d, a, p, f⟩, (ints q_l)⟩ k (ints q_y)).p.d, .int .i64 (cvR ⟨c, ⟨n, d, a, p, f⟩, (ints q_l)⟩ k (ints q_y)).p.a, .int .i64 (cvR ⟨c, ⟨n, d, a, p, f⟩, (ints q_l)⟩ k (ints q_y)).p.p, .int .i64 (cvR ⟨c, ⟨n, d, a, p, f⟩, (ints q_l)⟩ k (ints q_y)).p.f, .list (LI .i32 (cvR ⟨c, ⟨n, d, a, p, f⟩, (ints q_l)⟩ k (ints q_y)).l)], .int .i64 (cvE ⟨c, ⟨n, d, a, p, f⟩, (ints q_l)⟩ k (ints q_y))], [], []⟩
  | _, _, _, _ => none
def E_convert_eq := And.intro (@E_convert.eq_1) (@E_convert.eq_1)
theorem E_convert_ok : Snd Tryz.prog 66 E_convert := by
  intro vs b k n e h hn hp
  unfold E_convert at h
  split at h
  · cases h; obtain ⟨hp0, hp1, hq0, hq1⟩ := hp; obtain ⟨_, rfl⟩ := LI_ex hq0; obtain ⟨_, rfl⟩ := LI_ex hq1; simp only [ints_LI, bys_LB, blks_LK, lls_LL] at hp0 hp1 ⊢; exact (spec_convert _ _ _ _ _ _ _ _ _ hp0 hp1).lift rfl _
  · cases h

theorem spec_rconvert (c n d a p f : Int) (l : List Int) (k : Int) (y : List Int) (hl : l.length ≤ 1000000) (hy : y.length ≤ 1000000) : Spec Tryz.prog 0 37 [.agg [.d (.int .i64 c), .d (.int .i64 n), .d (.int .i64 d), .d (.int .i64 a), .d (.int .i64 p), .d (.int .i64 f), .d (.list (LI .i32 l))], .agg [.d (.int .i64 k), .d (.list (LI .i32 y))]] [] [] (.tup [.agg [.int .i64 (cvC ⟨c, ⟨n, d, a, p, f⟩, l⟩ k y), .list (LI .i32 (cvO ⟨c, ⟨n, d, a, p, f⟩, l⟩ k y))], .agg [.int .i64 (cvR ⟨c, ⟨n, d, a, p, f⟩, l⟩ k y).c, .int .i64 (cvR ⟨c, ⟨n, d, a, p, f⟩, l⟩ k y).p.n, .int .i64 (cvR ⟨c, ⟨n, d, a, p, f⟩, l⟩ k y).p.d, .int .i64 (cvR ⟨c, ⟨n, d, a, p, f⟩, l⟩ k y).p.a, .int .i64 (cvR ⟨c, ⟨n, d, a, p, f⟩, l⟩ k y).p.p, .int .i64 (cvR ⟨c, ⟨n, d, a, p, f⟩, l⟩ k y).p.f, .list (LI .i32 (cvR ⟨c, ⟨n, d, a, p, f⟩, l⟩ k y).l)], .int .i64 (cvE ⟨c, ⟨n, d, a, p, f⟩, l⟩ k y)]) [] [] := by
  refine spec_of_E (X := ⟨Tryz.prog, tt, Tryz.f37.ntmps, 1, fun _ => 0, (tab [(72, E_rfeed), (74, E_rwaiting), (73, E_rpmake), (75, E_rtake)])⟩) (M := []) (m := 263167) rfl rfl ⟨tt_ok, tab_ok (tabs_cons E_rfeed_ok (tabs_cons E_rwaiting_ok (tabs_cons E_rpmake_ok (tabs_cons E_rtake_ok tabs_nil)))) _ rfl rfl⟩ tt_mixed Tryz.func37 rfl (by decide) (by show (2 : Nat) ≤ _; exact Nat.le_of_ble_eq_true rfl) ⟨fun m hm => (V.bare_has rfl m hm).elim, by simp, by simp⟩ ?_
  simp only [↓gPre, gPost, gCore, gDef, Nat.reduceShiftRight, Nat.reduceMod, if_true, if_false, ↓reduceIte, reduceCtorEq, Nat.reduceEqDiff, Nat.reduceLT, Nat.reduceLeDiff, implies_true, forall_const, eq_self, ne_eq, not_true_eq_false, not_false_eq_true, imp_self, Nat.reduceAdd, Nat.reduceMul, Int.reduceLE, Int.reduceLT, Int.reduceNeg, Int.reduceAdd, Int.reduceToNat, E_rfeed_eq, E_rwaiting_eq, E_rpmake_eq, E_rtake_eq, Tryz.ntmps37, Tryz.results37, gTT]
  refine ⟨⟨hl, hy⟩, fun h => ?_, fun h => ?_⟩
  · have hne : feE ⟨c, ⟨n, d, a, p, f⟩, l⟩ k y ≠ 0 := by simpa using h
    have e : cvE ⟨c, ⟨n, d, a, p, f⟩, l⟩ k y = feE ⟨c, ⟨n, d, a, p, f⟩, l⟩ k y := by unfold cvE; rw [if_pos hne]
    simp [cvC, cvO, cvR, e, hne, rs0, LI_nil]
  have he : feE ⟨c, ⟨n, d, a, p, f⟩, l⟩ k y = 0 := by simpa using h
  obtain ⟨fe, fv, fl⟩ := feR_ok he hl hy
  have fc : (feR ⟨c, ⟨n, d, a, p, f⟩, l⟩ k y).c = c := by rw [fe]
  obtain ⟨⟨k1, k2⟩, k3, k4, k5⟩ := blk_in (rsV_in fv).2 (by omega)
  have fp := (rsV_in fv).1
  have hz : (((feR ⟨c, ⟨n, d, a, p, f⟩, l⟩ k y).l.length / (feR ⟨c, ⟨n, d, a, p, f⟩, l⟩ k y).c.toNat : Nat) : Int) ≤ 65536 := Int.ofNat_le.2 k4
  have hz0 : 0 ≤ (((feR ⟨c, ⟨n, d, a, p, f⟩, l⟩ k y).l.length / (feR ⟨c, ⟨n, d, a, p, f⟩, l⟩ k y).c.toNat : Nat) : Int) := Int.natCast_nonneg _
  have hM : maN (feR ⟨c, ⟨n, d, a, p, f⟩, l⟩ k y).p (((feR ⟨c, ⟨n, d, a, p, f⟩, l⟩ k y).l.length / (feR ⟨c, ⟨n, d, a, p, f⟩, l⟩ k y).c.toNat : Nat) : Int) = cvN ⟨c, ⟨n, d, a, p, f⟩, l⟩ k y := by
    have e1 : maE (feR ⟨c, ⟨n, d, a, p, f⟩, l⟩ k y).p (((feR ⟨c, ⟨n, d, a, p, f⟩, l⟩ k y).l.length / (feR ⟨c, ⟨n, d, a, p, f⟩, l⟩ k y).c.toNat : Nat) : Int) = 0 := by
      unfold maE
      rw [if_neg (by rw [fp]; decide), if_neg (by simp only [Bool.or_eq_true, decide_eq_true_eq]; omega)]
    unfold maN
    rw [if_pos e1]
    rfl
  have e : cvE ⟨c, ⟨n, d, a, p, f⟩, l⟩ k y = tkE (feR ⟨c, ⟨n, d, a, p, f⟩, l⟩ k y) (cvN ⟨c, ⟨n, d, a, p, f⟩, l⟩ k y) := by unfold cvE; rw [if_neg (by rw [he]; decide)]
  have hfin : ([D.agg [D.int .i64 (cvC ⟨c, ⟨n, d, a, p, f⟩, l⟩ k y), D.list (LI .i32 (cvO ⟨c, ⟨n, d, a, p, f⟩, l⟩ k y))], D.agg [D.int .i64 (cvR ⟨c, ⟨n, d, a, p, f⟩, l⟩ k y).c, D.int .i64 (cvR ⟨c, ⟨n, d, a, p, f⟩, l⟩ k y).p.n, D.int .i64 (cvR ⟨c, ⟨n, d, a, p, f⟩, l⟩ k y).p.d, D.int .i64 (cvR ⟨c, ⟨n, d, a, p, f⟩, l⟩ k y).p.a, D.int .i64 (cvR ⟨c, ⟨n, d, a, p, f⟩, l⟩ k y).p.p, D.int .i64 (cvR ⟨c, ⟨n, d, a, p, f⟩, l⟩ k y).p.f, D.list (LI .i32 (cvR ⟨c, ⟨n, d, a, p, f⟩, l⟩ k y).l)], D.int .i64 (cvE ⟨c, ⟨n, d, a, p, f⟩, l⟩ k y)] : List D) = [D.agg [D.int .i64 (tkC (feR ⟨c, ⟨n, d, a, p, f⟩, l⟩ k y) (cvN ⟨c, ⟨n, d, a, p, f⟩, l⟩ k y)), D.list (LI .i32 (tkO (feR ⟨c, ⟨n, d, a, p, f⟩, l⟩ k y) (cvN ⟨c, ⟨n, d, a, p, f⟩, l⟩ k y)))], D.agg [D.int .i64 (tkR (feR ⟨c, ⟨n, d, a, p, f⟩, l⟩ k y) (cvN ⟨c, ⟨n, d, a, p, f⟩, l⟩ k y)).c, D.int .i64 (tkR (feR ⟨c, ⟨n, d, a, p, f⟩, l⟩ k y) (cvN ⟨c, ⟨n, d, a, p, f⟩, l⟩ k y)).p.n, D.int .i64 (tkR (feR ⟨c, ⟨n, d, a, p, f⟩, l⟩ k y) (cvN ⟨c, ⟨n, d, a, p, f⟩, l⟩ k y)).p.d, D.int .i64 (tkR (feR ⟨c, ⟨n, d, a, p, f⟩, l⟩ k y) (cvN ⟨c, ⟨n, d, a, p, f⟩, l⟩ k y)).p.a, D.int .i64 (tkR (feR ⟨c, ⟨n, d, a, p, f⟩, l⟩ k y) (cvN ⟨c, ⟨n, d, a, p, f⟩, l⟩ k y)).p.p, D.int .i64 (tkR (feR ⟨c, ⟨n, d, a, p, f⟩, l⟩ k y) (cvN ⟨c, ⟨n, d, a, p, f⟩, l⟩ k y)).p.f, D.list (LI .i32 (tkR (feR ⟨c, ⟨n, d, a, p, f⟩, l⟩ k y) (cvN ⟨c, ⟨n, d, a, p, f⟩, l⟩ k y)).l)], D.int .i64 (tkE (feR ⟨c, ⟨n, d, a, p, f⟩, l⟩ k y) (cvN ⟨c, ⟨n, d, a, p, f⟩, l⟩ k y))] := by
    by_cases h6 : tkE (feR ⟨c, ⟨n, d, a, p, f⟩, l⟩ k y) (cvN ⟨c, ⟨n, d, a, p, f⟩, l⟩ k y) = 0
    · simp [cvC, cvO, cvR, tkC, tkO, tkR, e, h6, fc]
    · simp [cvC, cvO, cvR, tkC, tkO, tkR, e, h6]
  rw [hfin, ← hM]
  refine ⟨by kernel_rfl, by omega, by omega, ?_⟩
  have hW : waN (feR ⟨c, ⟨n, d, a, p, f⟩, l⟩ k y) = (((feR ⟨c, ⟨n, d, a, p, f⟩, l⟩ k y).l.length / (feR ⟨c, ⟨n, d, a, p, f⟩, l⟩ k y).c.toNat : Nat) : Int) := if_pos fv
  rw [← hW]
def E_rconvert : List V → Boxes → Toks → Name → Option Ent
  | [.agg [.d (.int .i64 c), .d (.int .i64 n), .d (.int .i64 d), .d (.int .i64 a), .d (.int .i64 p), .d (.int .i64 f), .d (.list q_l)], .agg [.d (.int .i64 k), .d (.list q_y)]], [], [], _ => some ⟨(ints q_l).length ≤ 1000000 ∧ (ints q_y).length ≤ 1000000 ∧ q_l = LI .i32 (ints q_l) ∧ q_y = LI .i32 (ints q_y), .tup [.agg [.int .i64 (cvC ⟨c, ⟨n, d, a, p, f⟩, (ints q_l)⟩ k (ints q_y)), .list (LI .i32 (cvO ⟨c, ⟨n, d, a, p, f⟩, (ints q_l)⟩ k (ints q_y)))], .agg [.int .i64 (cvR ⟨c, ⟨n, d, a, p, f⟩, (ints q_l)⟩ k (ints q_y)).c, .int .i64 (cvR ⟨c, ⟨n, d, a, p, f⟩, (ints q_l)⟩ k (ints q_y)).p.n, .int .i64 (cvR ⟨c, ⟨n, d, a, p, f⟩, (ints q_l)⟩ k (ints q_y)).p.d, .int .i64 (cvR ⟨c, ⟨n, d, a, p, f⟩, (ints q_l)⟩ k (ints q_y)).p.a, .int .i64 (cvR ⟨c, ⟨n, d, a, p, f⟩, (ints q_l)⟩ k (ints q_y)).p.p, .int .i64 (cvR ⟨c, ⟨n, d, a, p, f⟩, (ints q_l)⟩ k (ints q_y)).p.f, .list (LI .i32 (cvR ⟨c, ⟨n, d, a, p, f⟩, (ints q_l)⟩ k (ints q_y)).l)], .int .i64 (cvE ⟨c, ⟨n, d, a, p, f⟩, (ints q_l)⟩ k (ints q_y))], [], []⟩
  | _, _, _, _ => none
def E_rconvert_eq := And.intro (@E_rconvert.eq_1) (@E_rconvert.eq_1)
theorem E_rconvert_ok : Snd Tryz.prog 37 E_rconvert := by
  intro vs b k n e h hn hp
  unfold E_rconvert at h
  split at h
  · cases h; obtain ⟨hp0, hp1, hq0, hq1⟩ := hp; obtain ⟨_, rfl⟩ := LI_ex hq0; obtain ⟨_, rfl⟩ := LI_ex hq1; simp only [ints_LI, bys_LB, blks_LK, lls_LL] at hp0 hp1 ⊢; exact (spec_rconvert _ _ _ _ _ _ _ _ _ hp0 hp1).lift rfl _
  · cases h

end Go.Vam
