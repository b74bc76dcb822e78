/- The reference of streams. Conditions: none. -/
import Derived.Test.YtdhhjfnmocimmaaStM
set_option linter.unusedVariables false
set_option linter.defProp false
set_option linter.unusedSimpArgs false
set_option maxRecDepth 40000
set_option maxHeartbeats 4000000
namespace Go.Vam
open Go.Proofs

theorem smV_di {x : Sm} (h : smV x = true) : x.di = 1 ∨ x.di = 2 := by
  rcases (smV_in h).2 with h2 | h2
  · exact .inl h2.1
  · exact .inr h2.1
theorem noG_eq (x : Rg) : noG x = (x.c == 0 && x.q == 0 && x.w == 0 && x.r == 0 && x.l == []) := by
  unfold noG
  cases x.l <;> rfl
theorem swN_in {k : Int} {y : List Int} (hb : blkV k y = true) (hy : y.length ≤ 1000000) : 0 ≤ swN k y ∧ swN k y ≤ 65536 := by
  obtain ⟨_, _, k4, _⟩ := blk_in hb hy
  exact ⟨Int.natCast_nonneg _, Int.ofNat_le.2 k4⟩
theorem swE_fe {x : Sm} {k : Int} {y : List Int} (hl : x.r.l.length ≤ 1000000) (hy : y.length ≤ 1000000) (h : swE x k y = 0) : smP x = true ∧ blkV k y = true ∧ k = x.r.c ∧ x.st ≤ 4 ∧ swN k y ≤ smO x ∧ feE x.r k y = 0 := by
  unfold swE at h
  split at h
  · cases h
  · rename_i h1
    split at h
    · cases h
    · rename_i h2
      split at h
      · cases h
      · rename_i h3
        split at h
        · cases h
        · rename_i h4
          simp only [Bool.or_eq_true, Bool.not_eq_true', not_or, Bool.not_eq_false] at h1
          have hk : k = x.r.c := by simpa using h2
          refine ⟨h1.1, h1.2, hk, by omega, by omega, ?_⟩
          have hv : smV x = true ∧ x.di = 1 := by have := h1.1; unfold smP at this; simpa using this
          have hb := smB_in (smV_in hv.1).1
          have hn := smN_in hv.1 hl
          obtain ⟨w1, w2, w3⟩ := waN_V hb.2.2.2.1 hl
          obtain ⟨⟨k1, k2⟩, k3, k4, k5⟩ := blk_in (rsV_in hb.2.2.2.1).2 hl
          obtain ⟨_, m3, m4, m5⟩ := blk_in h1.2 hy
          have hO : smO x = x.q - smN x := if_neg (by rw [hv.1]; decide)
          have hN : smN x = waN x.r := by unfold smN; rw [if_neg (by rw [hv.1]; decide), if_neg (by omega)]
          have hsw : swN k y = ((y.length / k.toNat : Nat) : Int) := rfl
          have hdv : (x.r.l.length + y.length) / x.r.c.toNat = x.r.l.length / x.r.c.toNat + y.length / x.r.c.toNat := by
            rw [hk] at m3
            have : x.r.l.length + y.length = (x.r.l.length / x.r.c.toNat + y.length / x.r.c.toNat) * x.r.c.toNat := by rw [Nat.add_mul]; omega
            rw [this, Nat.mul_div_cancel _ (by omega)]
          unfold feE
          rw [if_neg (by rw [hb.2.2.2.1, h1.2]; decide), if_neg (by simpa using hk), if_neg]
          rw [hdv]
          rw [hk] at hsw h4
          omega


theorem spec_rssame20 (di st q s0 c n d a p f : Int) (l : List Int) (gc gq gw gr : Int) (gl : List Int) (wr pl mi : Int) (di2 st2 q2 s02 c2 n2 d2 a2 p2 f2 : Int) (l2 : List Int) (gc2 gq2 gw2 gr2 : Int) (gl2 : List Int) (wr2 pl2 mi2 : Int) (hl : l.length ≤ 1000000000) (hg : gl.length ≤ 1000000000) : Spec Try.prog 0 16 [.agg (smC ⟨di, st, q, s0, ⟨c, ⟨n, d, a, p, f⟩, l⟩, ⟨gc, gq, gw, gr, gl⟩, wr, pl, mi⟩), .agg [.d (.int .i64 di2), .d (.int .i64 st2), .d (.int .i64 q2), .d (.int .i64 s02), .d (.int .i64 c2), .d (.int .i64 n2), .d (.int .i64 d2), .d (.int .i64 a2), .d (.int .i64 p2), .d (.int .i64 f2), .d (.list (LI .i32 l2)), .d (.int .i64 gc2), .d (.int .i64 gq2), .d (.int .i64 gw2), .d (.int .i64 gr2), .d (.list (LI .i32 gl2)), .d (.int .i64 wr2), .d (.int .i64 pl2), .d (.int .i64 mi2)]] [] [] (vB (di == di2 && st == st2 && q == q2 && s0 == s02 && wr == wr2 && pl == pl2 && mi == mi2 && (c == c2 && (n == n2 && (d == d2 && (a == a2 && (p == p2 && f == f2)))) && l == l2) && (gc == gc2 && gq == gq2 && gw == gw2 && gr == gr2 && gl == gl2))) [] [] := by
  refine spec_of_E (X := ⟨Try.prog, tt, Try.f16.ntmps, 1, fun _ => 0, (tab [(40, E_rssame), (41, E_rgsame)])⟩) (M := [(1, [0, 0, 0, 0, 0, 73786976294838205471, 0, 0, 0, 0, 0, 73786976294838140959, 0, 0, 0, 0, 0, 73786976294834143263, 0, 0, 0, 0, 0, 73786976294653657119, 0, 0, 0, 0, 0, 73786976288395755551, 0, 0, 0, 0, 0, 73786975470204485663, 0, 0, 0, 0, 0, 73786941110466117663, 0, 0, 0, 0, 0, 73782472695210835999, 0, 0, 0, 0, 0, 73498745918686494751, 0, 0, 0, 0, 0, 55916692973432078367, 0, 0])]) (m := 31) rfl rfl ⟨tt_ok, tab_ok (tabs_cons E_rssame_ok (tabs_cons E_rgsame_ok tabs_nil)) _ rfl rfl⟩ tt_mixed Try.func16 rfl (by decide) (by show (2 : Nat) ≤ _; exact Nat.le_of_ble_eq_true rfl) ⟨fun m hm => (V.bare_has rfl m hm).elim, by simp, by simp⟩ ?_
  simp only [↓gPre, gPost, gCore, gDef, Nat.reduceShiftRight, Nat.reduceMod, if_true, if_false, ↓reduceIte, reduceCtorEq, Nat.reduceEqDiff, Nat.reduceLT, Nat.reduceLeDiff, implies_true, forall_const, eq_self, ne_eq, not_true_eq_false, not_false_eq_true, imp_self, Nat.reduceAdd, Nat.reduceMul, Int.reduceLE, Int.reduceLT, Int.reduceNeg, Int.reduceAdd, Int.reduceToNat, E_rssame_eq, E_rgsame_eq, rg_eta, sm_eta, ph_eta, rs_eta, smD_eq, smC_eq, Try.ntmps16, Try.results16, gTT]
  exact ⟨fun _ => hl, fun _ => hg⟩
def E_rssame20 : List V → Boxes → Toks → Name → Option Ent
  | [.agg [.d (.int .i64 di), .d (.int .i64 st), .d (.int .i64 q), .d (.int .i64 s0), .d (.int .i64 c), .d (.int .i64 n), .d (.int .i64 d), .d (.int .i64 a), .d (.int .i64 p), .d (.int .i64 f), .d (.list q_l), .d (.int .i64 gc), .d (.int .i64 gq), .d (.int .i64 gw), .d (.int .i64 gr), .d (.list q_gl), .d (.int .i64 wr), .d (.int .i64 pl), .d (.int .i64 mi)], .agg [.d (.int .i64 di2), .d (.int .i64 st2), .d (.int .i64 q2), .d (.int .i64 s02), .d (.int .i64 c2), .d (.int .i64 n2), .d (.int .i64 d2), .d (.int .i64 a2), .d (.int .i64 p2), .d (.int .i64 f2), .d (.list q_l2), .d (.int .i64 gc2), .d (.int .i64 gq2), .d (.int .i64 gw2), .d (.int .i64 gr2), .d (.list q_gl2), .d (.int .i64 wr2), .d (.int .i64 pl2), .d (.int .i64 mi2)]], [], [], _ => some ⟨(ints q_l).length ≤ 1000000000 ∧ (ints q_gl).length ≤ 1000000000 ∧ q_l = LI .i32 (ints q_l) ∧ q_gl = LI .i32 (ints q_gl) ∧ q_l2 = LI .i32 (ints q_l2) ∧ q_gl2 = LI .i32 (ints q_gl2), vB (di == di2 && st == st2 && q == q2 && s0 == s02 && wr == wr2 && pl == pl2 && mi == mi2 && (c == c2 && (n == n2 && (d == d2 && (a == a2 && (p == p2 && f == f2)))) && (ints q_l) == (ints q_l2)) && (gc == gc2 && gq == gq2 && gw == gw2 && gr == gr2 && (ints q_gl) == (ints q_gl2))), [], []⟩
  | _, _, _, _ => none
def E_rssame20_eq := And.intro (@E_rssame20.eq_1) (@E_rssame20.eq_1)
theorem E_rssame20_ok : Snd Try.prog 16 E_rssame20 := by
  intro vs b k n e h hn hp
  unfold E_rssame20 at h
  split at h
  · cases h; obtain ⟨hp0, hp1, hq0, hq1, hq2, hq3⟩ := hp; obtain ⟨_, rfl⟩ := LI_ex hq0; obtain ⟨_, rfl⟩ := LI_ex hq1; obtain ⟨_, rfl⟩ := LI_ex hq2; obtain ⟨_, rfl⟩ := LI_ex hq3; simp only [ints_LI, bys_LB, blks_LK, lls_LL] at hp0 hp1 ⊢; exact (spec_rssame20 _ _ _ _ _ _ _ _ _ _ _ _ _ _ _ _ _ _ _ _ _ _ _ _ _ _ _ _ _ _ _ _ _ _ _ _ _ _ hp0 hp1).lift rfl _
  · cases h

end Go.Vam
