/- A part of the proof. Conditions: none. -/
import Derived.Test.YtmpbpijnbmpbhaaGreatWl
set_option linter.unusedVariables false
set_option linter.defProp false
set_option linter.unusedSimpArgs false
set_option maxRecDepth 40000
set_option maxHeartbeats 4000000
namespace Go.Vam
open Go.Proofs
theorem cvO_len {x : Rs} {k : Int} {y : List Int} (hl : x.l.length ≤ 1000000) (hy : y.length ≤ 1000000) (h : cvE x k y = 0) : (cvO x k y).length ≤ 524288 := by
  obtain ⟨h1, h2⟩ := cvE_tk h
  obtain ⟨f1, f2, f3⟩ := feR_ok h1 hl hy
  have h3 := rcE_ok (tkE_po h2).1
  have e : cvO x k y = outO (feR x k y) (cvN x k y).toNat := if_pos h
  obtain ⟨⟨k1, k2⟩, k3, k4, k5⟩ := blk_in (rsV_in f2).2 (by omega)
  have := Nat.mul_le_mul (show (cvN x k y).toNat ≤ 65536 by omega) (show (feR x k y).c.toNat ≤ 8 by omega)
  rw [e, outO_len]
  omega
theorem spec_sgive (di st q s0 c n d a p f : Int) (l : List Int) (gc gq gw gr : Int) (gl : List Int) (wr pl mi : Int) (k : Int) (y : List Int) (hl : l.length ≤ 1000000) (hg : gl.length ≤ 1000000) (hy : y.length ≤ 1000000) : Spec Tryz.prog 0 16 [.agg (smC ⟨di, st, q, s0, ⟨c, ⟨n, d, a, p, f⟩, l⟩, ⟨gc, gq, gw, gr, gl⟩, wr, pl, mi⟩), .agg [.d (.int .i64 k), .d (.list (LI .i32 y))]] [] [] (.tup [.int .i64 (gvL ⟨di, st, q, s0, ⟨c, ⟨n, d, a, p, f⟩, l⟩, ⟨gc, gq, gw, gr, gl⟩, wr, pl, mi⟩ k y), .agg (smD (gvR ⟨di, st, q, s0, ⟨c, ⟨n, d, a, p, f⟩, l⟩, ⟨gc, gq, gw, gr, gl⟩, wr, pl, mi⟩ k y)), .int .i64 (gvE ⟨di, st, q, s0, ⟨c, ⟨n, d, a, p, f⟩, l⟩, ⟨gc, gq, gw, gr, gl⟩, wr, pl, mi⟩ k y)]) [] [] := by
  refine sE (md := fun _ => 0) (L := [(61, E_sisd), (62, E_bvalid), (53, E_sown), (63, E_convert), (64, E_rgwrite)]) [(7, [0, 0, 0, 0, 0, 288331670816309247, 0, 0, 0, 0, 0, 288318339237822463, 0]), (10, [0, 0, 0, 0, 0, 414964486571573247, 0, 0, 0, 0, 0, 0])] 288300747051778047 (tabs_cons E_sisd_ok (tabs_cons E_bvalid_ok (tabs_cons E_sown_ok (tabs_cons E_convert_ok (tabs_cons E_rgwrite_ok tabs_nil))))) Tryz.func16 rfl rfl rfl ?_
  simp (maxSteps := 1000000) only [↓gPre, gPost, gCore, gDef, gSt, gS0, Nat.reduceShiftRight, Nat.reduceMod, ↓reduceIte, reduceCtorEq, Nat.reduceEqDiff, Nat.reduceLT, Nat.reduceLeDiff, Nat.reduceAdd, Nat.reduceMul, Int.reduceLE, Int.reduceLT, Int.reduceNeg, Int.reduceAdd, Int.reduceToNat, E_sisd_eq, E_bvalid_eq, E_sown_eq, E_convert_eq, E_rgwrite_eq, gE1, Tryz.ntmps16, Tryz.results16, gTT]
  refine ⟨⟨hl, hg⟩, fun _ => hy, fun h => ?_, fun h => ⟨fun h2 => ?_, fun h2 => ⟨fun h3 => ⟨⟨hl, hg⟩, ?_⟩, fun h3 => ⟨⟨hl, hy⟩, fun h4 => ?_, fun h4 => ⟨⟨hg, ?_⟩, fun h5 => ?_, fun h5 => ⟨by kernel_rfl, by kernel_rfl, ?_, by kernel_rfl, ?_⟩⟩⟩⟩⟩⟩
  · have e : gvE ⟨di, st, q, s0, ⟨c, ⟨n, d, a, p, f⟩, l⟩, ⟨gc, gq, gw, gr, gl⟩, wr, pl, mi⟩ k y = 1 := by unfold gvE smR; rw [if_pos h]
    simp [gvL, gvR, e, sm0, rs0, rg0, LI_nil]
  · have hk : k ≠ c := by simpa using h2
    have e : gvE ⟨di, st, q, s0, ⟨c, ⟨n, d, a, p, f⟩, l⟩, ⟨gc, gq, gw, gr, gl⟩, wr, pl, mi⟩ k y = 11 := by unfold gvE smR; rw [if_neg (by rw [h]; decide), if_pos hk]
    simp [gvL, gvR, e, sm0, rs0, rg0, LI_nil]
  all_goals
    have hk : k = c := by simpa using h2
    have hg0 : gvE ⟨di, st, q, s0, ⟨c, ⟨n, d, a, p, f⟩, l⟩, ⟨gc, gq, gw, gr, gl⟩, wr, pl, mi⟩ k y = if st ≠ 3 then 0 else if cvE ⟨c, ⟨n, d, a, p, f⟩, l⟩ k y ≠ 0 then cvE ⟨c, ⟨n, d, a, p, f⟩, l⟩ k y else rwE ⟨gc, gq, gw, gr, gl⟩ (cvC ⟨c, ⟨n, d, a, p, f⟩, l⟩ k y) (cvO ⟨c, ⟨n, d, a, p, f⟩, l⟩ k y) := by
      unfold gvE smR
      rw [if_neg (by rw [h]; decide), if_neg (by simpa using hk)]
  · have hs : st ≠ 3 := by simpa using h3
    have e : gvE ⟨di, st, q, s0, ⟨c, ⟨n, d, a, p, f⟩, l⟩, ⟨gc, gq, gw, gr, gl⟩, wr, pl, mi⟩ k y = 0 := by rw [hg0, if_pos hs]
    have e1 : gvL ⟨di, st, q, s0, ⟨c, ⟨n, d, a, p, f⟩, l⟩, ⟨gc, gq, gw, gr, gl⟩, wr, pl, mi⟩ k y = 0 := by unfold gvL; rw [if_neg (fun h => hs h.2)]
    have e2 : gvR ⟨di, st, q, s0, ⟨c, ⟨n, d, a, p, f⟩, l⟩, ⟨gc, gq, gw, gr, gl⟩, wr, pl, mi⟩ k y = ⟨di, st, q, s0, ⟨c, ⟨n, d, a, p, f⟩, l⟩, ⟨gc, gq, gw, gr, gl⟩, wr, pl, mi⟩ := by unfold gvR; rw [if_pos e, if_neg hs]
    rw [e, e1, e2]
  all_goals
    have hs : st = 3 := by simpa using h3
    rw [if_neg (by simpa using hs)] at hg0
  · have h6 : cvE ⟨c, ⟨n, d, a, p, f⟩, l⟩ k y ≠ 0 := by simpa using h4
    have e : gvE ⟨di, st, q, s0, ⟨c, ⟨n, d, a, p, f⟩, l⟩, ⟨gc, gq, gw, gr, gl⟩, wr, pl, mi⟩ k y = cvE ⟨c, ⟨n, d, a, p, f⟩, l⟩ k y := by rw [hg0, if_pos h6]
    have e0 : gvE ⟨di, st, q, s0, ⟨c, ⟨n, d, a, p, f⟩, l⟩, ⟨gc, gq, gw, gr, gl⟩, wr, pl, mi⟩ k y ≠ 0 := by rw [e]; exact h6
    rw [← e]
    simp [gvL, gvR, e0, sm0, rs0, rg0, LI_nil]
  all_goals
    have h6 : cvE ⟨c, ⟨n, d, a, p, f⟩, l⟩ k y = 0 := by simpa using h4
    rw [if_neg (by simpa using h6)] at hg0
  · have := cvO_len hl hy h6
    omega
  · have h7 : rwE ⟨gc, gq, gw, gr, gl⟩ (cvC ⟨c, ⟨n, d, a, p, f⟩, l⟩ k y) (cvO ⟨c, ⟨n, d, a, p, f⟩, l⟩ k y) ≠ 0 := by simpa using h5
    have e0 : gvE ⟨di, st, q, s0, ⟨c, ⟨n, d, a, p, f⟩, l⟩, ⟨gc, gq, gw, gr, gl⟩, wr, pl, mi⟩ k y ≠ 0 := by rw [hg0]; exact h7
    rw [← hg0]
    simp [gvL, gvR, e0, sm0, rs0, rg0, LI_nil]
  all_goals
    have hb : blkV k y = true := by
      simp only [Bool.or_eq_false_iff, Bool.not_eq_false'] at h
      exact h.2
    obtain ⟨⟨k1, k2⟩, k3, k4, k5⟩ := blk_in hb hy
  · omega
  have h7 : rwE ⟨gc, gq, gw, gr, gl⟩ (cvC ⟨c, ⟨n, d, a, p, f⟩, l⟩ k y) (cvO ⟨c, ⟨n, d, a, p, f⟩, l⟩ k y) = 0 := by simpa using h5
  have e : gvE ⟨di, st, q, s0, ⟨c, ⟨n, d, a, p, f⟩, l⟩, ⟨gc, gq, gw, gr, gl⟩, wr, pl, mi⟩ k y = 0 := by rw [hg0]; exact h7
  have e1 : gvL ⟨di, st, q, s0, ⟨c, ⟨n, d, a, p, f⟩, l⟩, ⟨gc, gq, gw, gr, gl⟩, wr, pl, mi⟩ k y = rwL ⟨gc, gq, gw, gr, gl⟩ (cvC ⟨c, ⟨n, d, a, p, f⟩, l⟩ k y) (cvO ⟨c, ⟨n, d, a, p, f⟩, l⟩ k y) := if_pos ⟨e, hs⟩
  have e2 : gvR ⟨di, st, q, s0, ⟨c, ⟨n, d, a, p, f⟩, l⟩, ⟨gc, gq, gw, gr, gl⟩, wr, pl, mi⟩ k y = ⟨di, st, q, s0, cvR ⟨c, ⟨n, d, a, p, f⟩, l⟩ k y, rwR ⟨gc, gq, gw, gr, gl⟩ (cvC ⟨c, ⟨n, d, a, p, f⟩, l⟩ k y) (cvO ⟨c, ⟨n, d, a, p, f⟩, l⟩ k y), wr, IntKind.i64.wrap (pl + swN k y), IntKind.i64.wrap (mi + rwL ⟨gc, gq, gw, gr, gl⟩ (cvC ⟨c, ⟨n, d, a, p, f⟩, l⟩ k y) (cvO ⟨c, ⟨n, d, a, p, f⟩, l⟩ k y))⟩ := by
    unfold gvR
    rw [if_pos e, if_pos hs, e1]
  have e3 : swN k y = ((y.length / k.toNat : Nat) : Int) := rfl
  rw [len_div k1 (by omega), e, e1, e2, e3]
def E_sgive : List V → Boxes → Toks → Name → Option Ent
  | [.agg [.d (.int .i64 di), .d (.int .i64 st), .d (.int .i64 q), .d (.int .i64 s0), .d (.int .i64 c), .d (.int .i64 n), .d (.int .i64 d), .d (.int .i64 a), .d (.int .i64 p), .d (.int .i64 f), .d (.list q_l), .d (.int .i64 gc), .d (.int .i64 gq), .d (.int .i64 gw), .d (.int .i64 gr), .d (.list q_gl), .d (.int .i64 wr), .d (.int .i64 pl), .d (.int .i64 mi)], .agg [.d (.int .i64 k), .d (.list q_y)]], [], [], _ => some ⟨(ints q_l).length ≤ 1000000 ∧ (ints q_gl).length ≤ 1000000 ∧ (ints q_y).length ≤ 1000000 ∧ q_l = LI .i32 (ints q_l) ∧ q_gl = LI .i32 (ints q_gl) ∧ q_y = LI .i32 (ints q_y), .tup [.int .i64 (gvL ⟨di, st, q, s0, ⟨c, ⟨n, d, a, p, f⟩, (ints q_l)⟩, ⟨gc, gq, gw, gr, (ints q_gl)⟩, wr, pl, mi⟩ k (ints q_y)), .agg (smD (gvR ⟨di, st, q, s0, ⟨c, ⟨n, d, a, p, f⟩, (ints q_l)⟩, ⟨gc, gq, gw, gr, (ints q_gl)⟩, wr, pl, mi⟩ k (ints q_y))), .int .i64 (gvE ⟨di, st, q, s0, ⟨c, ⟨n, d, a, p, f⟩, (ints q_l)⟩, ⟨gc, gq, gw, gr, (ints q_gl)⟩, wr, pl, mi⟩ k (ints q_y))], [], []⟩
  | _, _, _, _ => none
def E_sgive_eq := And.intro (@E_sgive.eq_1) (@E_sgive.eq_1)
theorem E_sgive_ok : Snd Tryz.prog 16 E_sgive := by
  intro vs b k n e h hn hp
  unfold E_sgive at h
  split at h
  · cases h; obtain ⟨hp0, hp1, hp2, hq0, hq1, hq2⟩ := hp; obtain ⟨_, rfl⟩ := LI_ex hq0; obtain ⟨_, rfl⟩ := LI_ex hq1; obtain ⟨_, rfl⟩ := LI_ex hq2; simp only [ints_LI, bys_LB, blks_LK, lls_LL] at hp0 hp1 hp2 ⊢; exact (spec_sgive _ _ _ _ _ _ _ _ _ _ _ _ _ _ _ _ _ _ _ _ _ hp0 hp1 hp2).lift rfl _
  · cases h
end Go.Vam
