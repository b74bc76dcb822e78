/- A part of the proof. Conditions: none. -/
import Derived.Test.YtmpbpijnbmpbhaaGreatWe
set_option linter.unusedVariables false
set_option linter.defProp false
set_option linter.unusedSimpArgs false
set_option maxRecDepth 40000
set_option maxHeartbeats 4000000
namespace Go.Vam
open Go.Proofs
def rcE (x : Rs) (n : Int) : Int := if rsV x = false then 1 else if (decide (n < 0) || decide (65536 < n)) = true then 2 else 0
theorem rcE_ok {x : Rs} {n : Int} (h : rcE x n = 0) : rsV x = true ∧ 0 ≤ n ∧ n ≤ 65536 := by
  unfold rcE at h
  split at h
  · cases h
  · split at h
    · cases h
    · rename_i h1 h2
      simp only [Bool.or_eq_true, decide_eq_true_eq, not_or] at h2
      exact ⟨by simpa using h1, by omega, by omega⟩
theorem rcE_of {x : Rs} {n : Int} (h : rsV x = true) (hn : 0 ≤ n ∧ n ≤ 65536) : rcE x n = 0 := by
  unfold rcE
  rw [if_neg (by rw [h]; decide), if_neg (by simp only [Bool.or_eq_true, decide_eq_true_eq]; omega)]
def tkE (x : Rs) (n : Int) : Int := if rcE x n ≠ 0 then rcE x n else if ((x.l.length / x.c.toNat : Nat) : Int) < ned x.p n then 4 else poE x n
def tkC (x : Rs) (n : Int) : Int := if tkE x n = 0 then x.c else 0
def tkO (x : Rs) (n : Int) : List Int := if tkE x n = 0 then outO x n.toNat else []
def tkR (x : Rs) (n : Int) : Rs := if tkE x n = 0 then poR x n else rs0
theorem ned_two {p : Ph} (h : phV p = true) {n : Int} (hn : 1 ≤ n ∧ n ≤ 65536) : 2 ≤ ned p n := by
  have := qAt_in h (n := n - 1) (by omega)
  unfold ned
  rw [if_neg (by omega)]
  omega
def cvN (x : Rs) (k : Int) (y : List Int) : Int := ((mkN (feR x k y).p (((feR x k y).l.length / (feR x k y).c.toNat : Nat) : Int) : Nat) : Int)
def cvE (x : Rs) (k : Int) (y : List Int) : Int := if feE x k y ≠ 0 then feE x k y else tkE (feR x k y) (cvN x k y)
def cvC (x : Rs) (k : Int) (y : List Int) : Int := if cvE x k y = 0 then x.c else 0
def cvO (x : Rs) (k : Int) (y : List Int) : List Int := if cvE x k y = 0 then outO (feR x k y) (cvN x k y).toNat else []
def cvR (x : Rs) (k : Int) (y : List Int) : Rs := if cvE x k y = 0 then poR (feR x k y) (cvN x k y) else rs0
theorem feR_ok {x : Rs} {k : Int} {y : List Int} (h : feE x k y = 0) (hl : x.l.length ≤ 1000000) (hy : y.length ≤ 1000000) : feR x k y = { x with l := x.l ++ y } ∧ rsV (feR x k y) = true ∧ (feR x k y).l.length ≤ 600000 := by
  obtain ⟨h1, h2, h3, h4⟩ := feE_ok h
  obtain ⟨⟨k1, k2⟩, k3, k4, k5⟩ := blk_in (rsV_in h1).2 hl
  rw [h3] at h2
  obtain ⟨_, m3, m4, m5⟩ := blk_in h2 hy
  have e : feR x k y = { x with l := x.l ++ y } := by unfold feR; rw [if_pos h]
  have hlen : (x.l ++ y).length = (x.l.length / x.c.toNat + y.length / x.c.toNat) * x.c.toNat := by rw [List.length_append, Nat.add_mul]; omega
  have hdv : (x.l.length + y.length) / x.c.toNat = x.l.length / x.c.toNat + y.length / x.c.toNat := by
    rw [← List.length_append, hlen, Nat.mul_div_cancel _ (by omega)]
  have hz : x.l.length / x.c.toNat + y.length / x.c.toNat ≤ 65536 := by omega
  have hb := Nat.mul_le_mul hz (show x.c.toNat ≤ 8 by omega)
  rw [e]
  refine ⟨rfl, ?_, by show (x.l ++ y).length ≤ _; omega⟩
  unfold rsV
  rw [(rsV_in h1).1, Bool.true_and]
  exact blkV_mk ⟨k1, k2⟩ hlen hz (by rw [List.all_append, k5, m5]; rfl)
theorem spec_rscheck (c n d a p f : Int) (l : List Int) (i : Int) (hl : l.length ≤ 1000000) : Spec Tryz.prog 0 163 [.agg [.d (.int .i64 c), .d (.int .i64 n), .d (.int .i64 d), .d (.int .i64 a), .d (.int .i64 p), .d (.int .i64 f), .d (.list (LI .i32 l))], vI .i64 i] [] [] (vI .i64 (rcE ⟨c, ⟨n, d, a, p, f⟩, l⟩ i)) [] [] := by
  refine sE (md := fun _ => 0) (L := [(123, E_rsvalid)]) [] 567 (tabs_cons E_rsvalid_ok tabs_nil) Tryz.func163 rfl rfl rfl ?_
  simp (maxSteps := 1000000) only [↓gPre, gPost, gCore, gDef, gSt, gS0, Nat.reduceShiftRight, Nat.reduceMod, ↓reduceIte, reduceCtorEq, Nat.reduceEqDiff, Nat.reduceLT, Nat.reduceLeDiff, Nat.reduceAdd, Nat.reduceMul, Int.reduceLE, Int.reduceLT, Int.reduceNeg, Int.reduceAdd, Int.reduceToNat, E_rsvalid_eq, Tryz.ntmps163, Tryz.results163, gTT]
  refine ⟨hl, fun h => by unfold rcE; rw [if_pos h], fun h => ?_⟩
  have hv : rsV ⟨c, ⟨n, d, a, p, f⟩, l⟩ = true := by simpa using h
  exact ⟨fun h2 => by unfold rcE; rw [if_neg (by rw [hv]; decide), if_pos h2], fun h2 => by unfold rcE; rw [if_neg (by rw [hv]; decide), if_neg (by rw [h2]; decide)]⟩
def E_rscheck : List V → Boxes → Toks → Name → Option Ent
  | [.agg [.d (.int .i64 c), .d (.int .i64 n), .d (.int .i64 d), .d (.int .i64 a), .d (.int .i64 p), .d (.int .i64 f), .d (.list q_l)], .c (.d (.int .i64 i))], [], [], _ => some ⟨(ints q_l).length ≤ 1000000 ∧ q_l = LI .i32 (ints q_l), vI .i64 (rcE ⟨c, ⟨n, d, a, p, f⟩, (ints q_l)⟩ i), [], []⟩
  | _, _, _, _ => none
def E_rscheck_eq := And.intro (@E_rscheck.eq_1) (@E_rscheck.eq_1)
theorem E_rscheck_ok : Snd Tryz.prog 163 E_rscheck := by
  intro vs b k n e h hn hp
  unfold E_rscheck at h
  split at h
  · cases h; obtain ⟨hp0, hq0⟩ := hp; obtain ⟨_, rfl⟩ := LI_ex hq0; simp only [ints_LI, bys_LB, blks_LK, lls_LL] at hp0 ⊢; exact (spec_rscheck _ _ _ _ _ _ _ _ hp0).lift rfl _
  · cases h
theorem spec_take (c n d a p f : Int) (l : List Int) (i : Int) (hl : l.length ≤ 1000000) : Spec Tryz.prog 0 92 [.agg [.d (.int .i64 c), .d (.int .i64 n), .d (.int .i64 d), .d (.int .i64 a), .d (.int .i64 p), .d (.int .i64 f), .d (.list (LI .i32 l))], vI .i64 i] [] [] (.tup [.agg [.int .i64 (tkC ⟨c, ⟨n, d, a, p, f⟩, l⟩ i), .list (LI .i32 (tkO ⟨c, ⟨n, d, a, p, f⟩, l⟩ i))], .agg [.int .i64 (tkR ⟨c, ⟨n, d, a, p, f⟩, l⟩ i).c, .int .i64 (tkR ⟨c, ⟨n, d, a, p, f⟩, l⟩ i).p.n, .int .i64 (tkR ⟨c, ⟨n, d, a, p, f⟩, l⟩ i).p.d, .int .i64 (tkR ⟨c, ⟨n, d, a, p, f⟩, l⟩ i).p.a, .int .i64 (tkR ⟨c, ⟨n, d, a, p, f⟩, l⟩ i).p.p, .int .i64 (tkR ⟨c, ⟨n, d, a, p, f⟩, l⟩ i).p.f, .list (LI .i32 (tkR ⟨c, ⟨n, d, a, p, f⟩, l⟩ i).l)], .int .i64 (tkE ⟨c, ⟨n, d, a, p, f⟩, l⟩ i)]) [] [] := by
  refine sE (md := fun _ => 0) (L := [(163, E_rscheck), (90, E_pneed), (164, E_produce)]) [] 4294984183 (tabs_cons E_rscheck_ok (tabs_cons E_pneed_ok (tabs_cons E_produce_ok tabs_nil))) Tryz.func92 rfl rfl rfl ?_
  simp (maxSteps := 1000000) only [↓gPre, gPost, gCore, gDef, gSt, gS0, Nat.reduceShiftRight, Nat.reduceMod, ↓reduceIte, reduceCtorEq, Nat.reduceEqDiff, Nat.reduceLT, Nat.reduceLeDiff, Nat.reduceAdd, Nat.reduceMul, Int.reduceLE, Int.reduceLT, Int.reduceNeg, Int.reduceAdd, Int.reduceToNat, E_rscheck_eq, E_pneed_eq, E_produce_eq, Tryz.ntmps92, Tryz.results92, gTT]
  refine ⟨hl, fun h => ?_, fun h => ?_⟩
  · have hne : rcE ⟨c, ⟨n, d, a, p, f⟩, l⟩ i ≠ 0 := by simpa using h
    have e : tkE ⟨c, ⟨n, d, a, p, f⟩, l⟩ i = rcE ⟨c, ⟨n, d, a, p, f⟩, l⟩ i := by unfold tkE; rw [if_pos hne]
    simp [tkC, tkO, tkR, e, hne, rs0, LI_nil]
  have he : rcE ⟨c, ⟨n, d, a, p, f⟩, l⟩ i = 0 := by simpa using h
  obtain ⟨hv, hi⟩ := rcE_ok he
  obtain ⟨⟨k1, k2⟩, k3, k4, k5⟩ := blk_in (rsV_in hv).2 hl
  have hp := (rsV_in hv).1
  simp only at k1 k2 hp k3
  have hN : neE ⟨n, d, a, p, f⟩ i = ned ⟨n, d, a, p, f⟩ i := by unfold neE; rw [if_pos (phC_of hp hi)]
  rw [len_div k1 (by omega), hN]
  refine ⟨by omega, fun h2 => ?_, fun h2 => ?_⟩
  · have e : tkE ⟨c, ⟨n, d, a, p, f⟩, l⟩ i = 4 := by unfold tkE; rw [if_neg (by rw [he]; decide), if_pos (of_decide_eq_true h2)]
    simp [tkC, tkO, tkR, e, rs0, LI_nil]
  have e : tkE ⟨c, ⟨n, d, a, p, f⟩, l⟩ i = poE ⟨c, ⟨n, d, a, p, f⟩, l⟩ i := by unfold tkE; rw [if_neg (by rw [he]; decide), if_neg (of_decide_eq_false h2)]
  have hne : 0 < i → 0 < l.length := fun h0 => by
    have h3 := ned_two hp (n := i) (by omega)
    have h4 := of_decide_eq_false h2
    rcases Nat.eq_zero_or_pos l.length with h5 | h5
    · rw [h5, Nat.zero_div] at h4; simp at h4; omega
    · exact h5
  refine ⟨⟨hl, hv, hi, hne⟩, ?_⟩
  by_cases h6 : poE ⟨c, ⟨n, d, a, p, f⟩, l⟩ i = 0
  · simp [tkC, tkO, tkR, e, h6, poC, poO]
  · simp [tkC, tkO, tkR, e, h6, poC, poO, poR]
def E_take : List V → Boxes → Toks → Name → Option Ent
  | [.agg [.d (.int .i64 c), .d (.int .i64 n), .d (.int .i64 d), .d (.int .i64 a), .d (.int .i64 p), .d (.int .i64 f), .d (.list q_l)], .c (.d (.int .i64 i))], [], [], _ => some ⟨(ints q_l).length ≤ 1000000 ∧ q_l = LI .i32 (ints q_l), .tup [.agg [.int .i64 (tkC ⟨c, ⟨n, d, a, p, f⟩, (ints q_l)⟩ i), .list (LI .i32 (tkO ⟨c, ⟨n, d, a, p, f⟩, (ints q_l)⟩ i))], .agg [.int .i64 (tkR ⟨c, ⟨n, d, a, p, f⟩, (ints q_l)⟩ i).c, .int .i64 (tkR ⟨c, ⟨n, d, a, p, f⟩, (ints q_l)⟩ i).p.n, .int .i64 (tkR ⟨c, ⟨n, d, a, p, f⟩, (ints q_l)⟩ i).p.d, .int .i64 (tkR ⟨c, ⟨n, d, a, p, f⟩, (ints q_l)⟩ i).p.a, .int .i64 (tkR ⟨c, ⟨n, d, a, p, f⟩, (ints q_l)⟩ i).p.p, .int .i64 (tkR ⟨c, ⟨n, d, a, p, f⟩, (ints q_l)⟩ i).p.f, .list (LI .i32 (tkR ⟨c, ⟨n, d, a, p, f⟩, (ints q_l)⟩ i).l)], .int .i64 (tkE ⟨c, ⟨n, d, a, p, f⟩, (ints q_l)⟩ i)], [], []⟩
  | _, _, _, _ => none
def E_take_eq := And.intro (@E_take.eq_1) (@E_take.eq_1)
theorem E_take_ok : Snd Tryz.prog 92 E_take := by
  intro vs b k n e h hn hp
  unfold E_take at h
  split at h
  · cases h; obtain ⟨hp0, hq0⟩ := hp; obtain ⟨_, rfl⟩ := LI_ex hq0; simp only [ints_LI, bys_LB, blks_LK, lls_LL] at hp0 ⊢; exact (spec_take _ _ _ _ _ _ _ _ hp0).lift rfl _
  · cases h
theorem spec_convert (c n d a p f : Int) (l : List Int) (k : Int) (y : List Int) (hl : l.length ≤ 1000000) (hy : y.length ≤ 1000000) : Spec Tryz.prog 0 63 [.agg [.d (.int .i64 c), .d (.int .i64 n), .d (.int .i64 d), .d (.int .i64 a), .d (.int .i64 p), .d (.int .i64 f), .d (.list (LI .i32 l))], .agg [.d (.int .i64 k), .d (.list (LI .i32 y))]] [] [] (.tup [.agg [.int .i64 (cvC ⟨c, ⟨n, d, a, p, f⟩, l⟩ k y), .list (LI .i32 (cvO ⟨c, ⟨n, d, a, p, f⟩, l⟩ k y))], .agg [.int .i64 (cvR ⟨c, ⟨n, d, a, p, f⟩, l⟩ k y).c, .int .i64 (cvR ⟨c, ⟨n, d, a, p, f⟩, l⟩ k y).p.n, .int .i64 (cvR ⟨c, ⟨n, d, a, p, f⟩, l⟩ k y).p.d, .int .i64 (cvR ⟨c, ⟨n, d, a, p, f⟩, l⟩ k y).p.a, .int .i64 (cvR ⟨c, ⟨n, d, a, p, f⟩, l⟩ k y).p.p, .int .i64 (cvR ⟨c, ⟨n, d, a, p, f⟩, l⟩ k y).p.f, .list (LI .i32 (cvR ⟨c, ⟨n, d, a, p, f⟩, l⟩ k y).l)], .int .i64 (cvE ⟨c, ⟨n, d, a, p, f⟩, l⟩ k y)]) [] [] := by
  refine sE (md := fun _ => 0) (L := [(88, E_feed), (91, E_pmake), (92, E_take)]) [(4, [0, 0, 0, 0, 0, 17066886143, 0, 0, 0, 0, 0, 12885165055, 0, 0])] 263167 (tabs_cons E_feed_ok (tabs_cons E_pmake_ok (tabs_cons E_take_ok tabs_nil))) Tryz.func63 rfl rfl rfl ?_
  simp (maxSteps := 1000000) only [↓gPre, gPost, gCore, gDef, gSt, gS0, Nat.reduceShiftRight, Nat.reduceMod, ↓reduceIte, reduceCtorEq, Nat.reduceEqDiff, Nat.reduceLT, Nat.reduceLeDiff, Nat.reduceAdd, Nat.reduceMul, Int.reduceLE, Int.reduceLT, Int.reduceNeg, Int.reduceAdd, Int.reduceToNat, E_feed_eq, E_pmake_eq, E_take_eq, Tryz.ntmps63, Tryz.results63, gTT]
  refine ⟨⟨hl, hy⟩, fun h => ?_, fun h => ⟨by kernel_rfl, ?_⟩⟩
  · have hne : feE ⟨c, ⟨n, d, a, p, f⟩, l⟩ k y ≠ 0 := by simpa using h
    have e : cvE ⟨c, ⟨n, d, a, p, f⟩, l⟩ k y = feE ⟨c, ⟨n, d, a, p, f⟩, l⟩ k y := by unfold cvE; rw [if_pos hne]
    simp [cvC, cvO, cvR, e, hne, rs0, LI_nil]
  have he : feE ⟨c, ⟨n, d, a, p, f⟩, l⟩ k y = 0 := by simpa using h
  obtain ⟨fe, fv, fl⟩ := feR_ok he hl hy
  have fc : (feR ⟨c, ⟨n, d, a, p, f⟩, l⟩ k y).c = c := by rw [fe]
  obtain ⟨⟨k1, k2⟩, k3, k4, k5⟩ := blk_in (rsV_in fv).2 (by omega)
  have fp := (rsV_in fv).1
  have hz : (((feR ⟨c, ⟨n, d, a, p, f⟩, l⟩ k y).l.length / (feR ⟨c, ⟨n, d, a, p, f⟩, l⟩ k y).c.toNat : Nat) : Int) ≤ 65536 := Int.ofNat_le.2 k4
  have hz0 : 0 ≤ (((feR ⟨c, ⟨n, d, a, p, f⟩, l⟩ k y).l.length / (feR ⟨c, ⟨n, d, a, p, f⟩, l⟩ k y).c.toNat : Nat) : Int) := Int.natCast_nonneg _
  have hM : maN (feR ⟨c, ⟨n, d, a, p, f⟩, l⟩ k y).p (((feR ⟨c, ⟨n, d, a, p, f⟩, l⟩ k y).l.length / (feR ⟨c, ⟨n, d, a, p, f⟩, l⟩ k y).c.toNat : Nat) : Int) = cvN ⟨c, ⟨n, d, a, p, f⟩, l⟩ k y := by
    have e1 : maE (feR ⟨c, ⟨n, d, a, p, f⟩, l⟩ k y).p (((feR ⟨c, ⟨n, d, a, p, f⟩, l⟩ k y).l.length / (feR ⟨c, ⟨n, d, a, p, f⟩, l⟩ k y).c.toNat : Nat) : Int) = 0 := by
      unfold maE
      rw [if_neg (by rw [fp]; decide), if_neg (by simp only [Bool.or_eq_true, decide_eq_true_eq]; omega)]
    unfold maN
    rw [if_pos e1]
    rfl
  have e : cvE ⟨c, ⟨n, d, a, p, f⟩, l⟩ k y = tkE (feR ⟨c, ⟨n, d, a, p, f⟩, l⟩ k y) (cvN ⟨c, ⟨n, d, a, p, f⟩, l⟩ k y) := by unfold cvE; rw [if_neg (by rw [he]; decide)]
  have hfin : ([D.agg [D.int .i64 (cvC ⟨c, ⟨n, d, a, p, f⟩, l⟩ k y), D.list (LI .i32 (cvO ⟨c, ⟨n, d, a, p, f⟩, l⟩ k y))], D.agg [D.int .i64 (cvR ⟨c, ⟨n, d, a, p, f⟩, l⟩ k y).c, D.int .i64 (cvR ⟨c, ⟨n, d, a, p, f⟩, l⟩ k y).p.n, D.int .i64 (cvR ⟨c, ⟨n, d, a, p, f⟩, l⟩ k y).p.d, D.int .i64 (cvR ⟨c, ⟨n, d, a, p, f⟩, l⟩ k y).p.a, D.int .i64 (cvR ⟨c, ⟨n, d, a, p, f⟩, l⟩ k y).p.p, D.int .i64 (cvR ⟨c, ⟨n, d, a, p, f⟩, l⟩ k y).p.f, D.list (LI .i32 (cvR ⟨c, ⟨n, d, a, p, f⟩, l⟩ k y).l)], D.int .i64 (cvE ⟨c, ⟨n, d, a, p, f⟩, l⟩ k y)] : List D) = [D.agg [D.int .i64 (tkC (feR ⟨c, ⟨n, d, a, p, f⟩, l⟩ k y) (cvN ⟨c, ⟨n, d, a, p, f⟩, l⟩ k y)), D.list (LI .i32 (tkO (feR ⟨c, ⟨n, d, a, p, f⟩, l⟩ k y) (cvN ⟨c, ⟨n, d, a, p, f⟩, l⟩ k y)))], D.agg [D.int .i64 (tkR (feR ⟨c, ⟨n, d, a, p, f⟩, l⟩ k y) (cvN ⟨c, ⟨n, d, a, p, f⟩, l⟩ k y)).c, D.int .i64 (tkR (feR ⟨c, ⟨n, d, a, p, f⟩, l⟩ k y) (cvN ⟨c, ⟨n, d, a, p, f⟩, l⟩ k y)).p.n, D.int .i64 (tkR (feR ⟨c, ⟨n, d, a, p, f⟩, l⟩ k y) (cvN ⟨c, ⟨n, d, a, p, f⟩, l⟩ k y)).p.d, D.int .i64 (tkR (feR ⟨c, ⟨n, d, a, p, f⟩, l⟩ k y) (cvN ⟨c, ⟨n, d, a, p, f⟩, l⟩ k y)).p.a, D.int .i64 (tkR (feR ⟨c, ⟨n, d, a, p, f⟩, l⟩ k y) (cvN ⟨c, ⟨n, d, a, p, f⟩, l⟩ k y)).p.p, D.int .i64 (tkR (feR ⟨c, ⟨n, d, a, p, f⟩, l⟩ k y) (cvN ⟨c, ⟨n, d, a, p, f⟩, l⟩ k y)).p.f, D.list (LI .i32 (tkR (feR ⟨c, ⟨n, d, a, p, f⟩, l⟩ k y) (cvN ⟨c, ⟨n, d, a, p, f⟩, l⟩ k y)).l)], D.int .i64 (tkE (feR ⟨c, ⟨n, d, a, p, f⟩, l⟩ k y) (cvN ⟨c, ⟨n, d, a, p, f⟩, l⟩ k y))] := by
    by_cases h6 : tkE (feR ⟨c, ⟨n, d, a, p, f⟩, l⟩ k y) (cvN ⟨c, ⟨n, d, a, p, f⟩, l⟩ k y) = 0
    · simp [cvC, cvO, cvR, tkC, tkO, tkR, e, h6, fc]
    · simp [cvC, cvO, cvR, tkC, tkO, tkR, e, h6]
  rw [hfin, ← hM]
  rw [len_div k1 (by omega)]
  exact ⟨by omega, by omega, rfl⟩
def E_convert : List V → Boxes → Toks → Name → Option Ent
  | [.agg [.d (.int .i64 c), .d (.int .i64 n), .d (.int .i64 d), .d (.int .i64 a), .d (.int .i64 p), .d (.int .i64 f), .d (.list q_l)], .agg [.d (.int .i64 k), .d (.list q_y)]], [], [], _ => some ⟨(ints q_l).length ≤ 1000000 ∧ (ints q_y).length ≤ 1000000 ∧ q_l = LI .i32 (ints q_l) ∧ q_y = LI .i32 (ints q_y), .tup [.agg [.int .i64 (cvC ⟨c, ⟨n, d, a, p, f⟩, (ints q_l)⟩ k (ints q_y)), .list (LI .i32 (cvO ⟨c, ⟨n, d, a, p, f⟩, (ints q_l)⟩ k (ints q_y)))], .agg [.int .i64 (cvR ⟨c, ⟨n, d, a, p, f⟩, (ints q_l)⟩ k (ints q_y)).c, .int .i64 (cvR ⟨c, ⟨n, d, a, p, f⟩, (ints q_l)⟩ k (ints q_y)).p.n, .int .i64 (cvR ⟨c, ⟨n, d, a, p, f⟩, (ints q_l)⟩ k (ints q_y)).p.d, .int .i64 (cvR ⟨c, ⟨n, d, a, p, f⟩, (ints q_l)⟩ k (ints q_y)).p.a, .int .i64 (cvR ⟨c, ⟨n, d, a, p, f⟩, (ints q_l)⟩ k (ints q_y)).p.p, .int .i64 (cvR ⟨c, ⟨n, d, a, p, f⟩, (ints q_l)⟩ k (ints q_y)).p.f, .list (LI .i32 (cvR ⟨c, ⟨n, d, a, p, f⟩, (ints q_l)⟩ k (ints q_y)).l)], .int .i64 (cvE ⟨c, ⟨n, d, a, p, f⟩, (ints q_l)⟩ k (ints q_y))], [], []⟩
  | _, _, _, _ => none
def E_convert_eq := And.intro (@E_convert.eq_1) (@E_convert.eq_1)
theorem E_convert_ok : Snd Tryz.prog 63 E_convert := by
  intro vs b k n e h hn hp
  unfold E_convert at h
  split at h
  · cases h; obtain ⟨hp0, hp1, hq0, hq1⟩ := hp; obtain ⟨_, rfl⟩ := LI_ex hq0; obtain ⟨_, rfl⟩ := LI_ex hq1; simp only [ints_LI, bys_LB, blks_LK, lls_LL] at hp0 hp1 ⊢; exact (spec_convert _ _ _ _ _ _ _ _ _ hp0 hp1).lift rfl _
  · cases h
end Go.Vam
