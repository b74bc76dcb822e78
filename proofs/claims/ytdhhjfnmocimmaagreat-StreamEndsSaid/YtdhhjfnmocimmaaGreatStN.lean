/- The reference of streams. Conditions: none. -/
import Derived.Test.YtdhhjfnmocimmaaGreatStM
set_option linter.unusedVariables false
set_option linter.defProp false
set_option linter.unusedSimpArgs false
set_option maxRecDepth 40000
set_option maxHeartbeats 4000000
namespace Go.Vam
open Go.Proofs

theorem smV_di {x : Sm} (h : smV x = true) : x.di = 1 ∨ x.di = 2 := by
  rcases (smV_in h).2 with h2 | h2
  · exact .inl h2.1
  · exact .inr h2.1
theorem noG_eq (x : Rg) : noG x = (x.c == 0 && x.q == 0 && x.w == 0 && x.r == 0 && x.l == []) := by
  unfold noG
  cases x.l <;> rfl
theorem swN_in {k : Int} {y : List Int} (hb : blkV k y = true) (hy : y.length ≤ 1000000) : 0 ≤ swN k y ∧ swN k y ≤ 65536 := by
  obtain ⟨_, _, k4, _⟩ := blk_in hb hy
  exact ⟨Int.natCast_nonneg _, Int.ofNat_le.2 k4⟩
theorem swE_fe {x : Sm} {k : Int} {y : List Int} (hl : x.r.l.length ≤ 1000000) (hy : y.length ≤ 1000000) (h : swE x k y = 0) : smP x = true ∧ blkV k y = true ∧ k = x.r.c ∧ x.st ≤ 4 ∧ swN k y ≤ smO x ∧ feE x.r k y = 0 := by
  unfold swE at h
  split at h
  · cases h
  · rename_i h1
    split at h
    · cases h
    · rename_i h2
      split at h
      · cases h
      · rename_i h3
        split at h
        · cases h
        · rename_i h4
          simp only [Bool.or_eq_true, Bool.not_eq_true', not_or, Bool.not_eq_false] at h1
          have hk : k = x.r.c := by simpa using h2
          refine ⟨h1.1, h1.2, hk, by omega, by omega, ?_⟩
          have hv : smV x = true ∧ x.di = 1 := by have := h1.1; unfold smP at this; simpa using this
          have hb := smB_in (smV_in hv.1).1
          have hn := smN_in hv.1 hl
          obtain ⟨w1, w2, w3⟩ := waN_V hb.2.2.2.1 hl
          obtain ⟨⟨k1, k2⟩, k3, k4, k5⟩ := blk_in (rsV_in hb.2.2.2.1).2 hl
          obtain ⟨_, m3, m4, m5⟩ := blk_in h1.2 hy
          have hO : smO x = x.q - smN x := if_neg (by rw [hv.1]; decide)
          have hN : smN x = waN x.r := by unfold smN; rw [if_neg (by rw [hv.1]; decide), if_neg (by omega)]
          have hsw : swN k y = ((y.length / k.toNat : Nat) : Int) := rfl
          have hdv : (x.r.l.length + y.length) / x.r.c.toNat = x.r.l.length / x.r.c.toNat + y.length / x.r.c.toNat := by
            rw [hk] at m3
            have : x.r.l.length + y.length = (x.r.l.length / x.r.c.toNat + y.length / x.r.c.toNat) * x.r.c.toNat := by rw [Nat.add_mul]; omega
            rw [this, Nat.mul_div_cancel _ (by omega)]
          unfold feE
          rw [if_neg (by rw [hb.2.2.2.1, h1.2]; decide), if_neg (by simpa using hk), if_neg]
          rw [hdv]
          rw [hk] at hsw h4
          omega


theorem spec_rsvalid20 (di st q s0 c n d a p f : Int) (l : List Int) (gc gq gw gr : Int) (gl : List Int) (wr pl mi : Int) (hl : l.length ≤ 1000000) (hg : gl.length ≤ 1000000) : Spec Tryz.prog 0 16 [.agg (smC ⟨di, st, q, s0, ⟨c, ⟨n, d, a, p, f⟩, l⟩, ⟨gc, gq, gw, gr, gl⟩, wr, pl, mi⟩)] [] [] (vB (smV ⟨di, st, q, s0, ⟨c, ⟨n, d, a, p, f⟩, l⟩, ⟨gc, gq, gw, gr, gl⟩, wr, pl, mi⟩)) [] [] := by
  refine spec_of_E (X := ⟨Tryz.prog, tt, Tryz.f16.ntmps, 1, fun _ => 0, (tab [(50, E_rrsvalid), (51, E_rwaiting), (52, E_rgsame), (53, E_rrgvalid)])⟩) (M := [(1, [0, 0, 0, 0, 0, 151131868352893142695751, 0, 0, 0, 0, 0, 151131868352893142681607, 0, 0, 0, 0, 0, 151131868352893141647367, 0, 0, 0, 0, 0, 151131868352893075587079, 0, 0, 0, 0, 0, 151131868352888847728647, 0, 0, 0, 0, 0, 151131868352618264788999, 0, 0, 0, 0, 0, 151131868335850712465415, 0, 0, 0, 0, 0, 151131867226993235853319, 0, 0, 0, 0, 0, 151131796295299104768007, 0, 0, 0, 0]), (5, [0, 0, 0, 0, 0, 301065851262499771383815, 0, 0, 0, 0, 0, 226688579157302859268103, 0]), (7, [0, 0, 0, 0, 0, 633810944134994756586790977543, 0, 0, 0, 0, 0, 632587511205544751861988327431, 0, 0, 0, 0, 0, 565738749084134217017435619335, 0, 0, 0])]) (m := 151130715431388535848967) rfl rfl ⟨tt_ok, tab_ok (tabs_cons E_rrsvalid_ok (tabs_cons E_rwaiting_ok (tabs_cons E_rgsame_ok (tabs_cons E_rrgvalid_ok tabs_nil)))) _ rfl rfl⟩ tt_mixed Tryz.func16 rfl (by decide) (by show (1 : Nat) ≤ _; exact Nat.le_of_ble_eq_true rfl) ⟨fun m hm => (V.bare_has rfl m hm).elim, by simp, by simp⟩ ?_
  simp only [↓gPre, gPost, gCore, gDef, Nat.reduceShiftRight, Nat.reduceMod, if_true, if_false, ↓reduceIte, reduceCtorEq, Nat.reduceEqDiff, Nat.reduceLT, Nat.reduceLeDiff, implies_true, forall_const, eq_self, ne_eq, not_true_eq_false, not_false_eq_true, imp_self, Nat.reduceAdd, Nat.reduceMul, Int.reduceLE, Int.reduceLT, Int.reduceNeg, Int.reduceAdd, Int.reduceToNat, E_rrsvalid_eq, E_rwaiting_eq, E_rgsame_eq, E_rrgvalid_eq, rg_eta, sm_eta, ph_eta, rs_eta, smD_eq, smC_eq, Tryz.ntmps16, Tryz.results16, gTT]
  refine ⟨fun _ => hl, fun h => sm_no fun h1 => ?_, fun h => ?_⟩
  · have h2 := smB_in (smV_in h1).1
    simp only at h2
    have ha : (a != 0) = false := by simp [h2.2.2.2.2.1]
    rw [h2.2.2.2.1, ha] at h
    simp only [Bool.not_true, Bool.or_false, Bool.or_eq_true, decide_eq_true_eq] at h
    omega
  have hB : smB ⟨di, st, q, s0, ⟨c, ⟨n, d, a, p, f⟩, l⟩, ⟨gc, gq, gw, gr, gl⟩, wr, pl, mi⟩ = true := by
    simp only [Bool.or_eq_false_iff, decide_eq_false_iff_not, Bool.not_eq_false', bne_eq_false_iff_eq] at h
    simp only [smB, Bool.and_eq_true, decide_eq_true_eq, beq_iff_eq]
    obtain ⟨⟨⟨⟨⟨⟨⟨⟨⟨⟨h1, h2⟩, h3⟩, h4⟩, h5⟩, h6⟩, h7⟩, h8⟩, h9⟩, h10⟩, h11⟩ := h
    exact ⟨⟨⟨⟨⟨⟨⟨⟨⟨⟨by omega, by omega⟩, by omega⟩, by omega⟩, by omega⟩, by omega⟩, h7⟩, h8⟩, by omega⟩, by omega⟩, by omega⟩
  refine ⟨fun h => ⟨by kernel_rfl, hl, fun _ => by omega, ?_⟩, fun h => ⟨fun h2 => ⟨hg, ?_⟩, fun h2 => ?_⟩⟩
  · have hd : di = 1 := by simpa using h
    unfold smV
    rw [hB, if_pos hd, noG_eq]
    rfl
  · have hd : di = 2 := by simpa using h2
    have hd1 : ¬ di = 1 := by omega
    unfold smV
    rw [hB, if_neg hd1, if_pos hd]
    rfl
  · have hd : ¬ di = 2 := by simpa using h2
    have hd1 : ¬ di = 1 := by simpa using h
    unfold smV
    rw [hB, if_neg hd1, if_neg hd]
    rfl
def E_rsvalid20 : List V → Boxes → Toks → Name → Option Ent
  | [.agg [.d (.int .i64 di), .d (.int .i64 st), .d (.int .i64 q), .d (.int .i64 s0), .d (.int .i64 c), .d (.int .i64 n), .d (.int .i64 d), .d (.int .i64 a), .d (.int .i64 p), .d (.int .i64 f), .d (.list q_l), .d (.int .i64 gc), .d (.int .i64 gq), .d (.int .i64 gw), .d (.int .i64 gr), .d (.list q_gl), .d (.int .i64 wr), .d (.int .i64 pl), .d (.int .i64 mi)]], [], [], _ => some ⟨(ints q_l).length ≤ 1000000 ∧ (ints q_gl).length ≤ 1000000 ∧ q_l = LI .i32 (ints q_l) ∧ q_gl = LI .i32 (ints q_gl), vB (smV ⟨di, st, q, s0, ⟨c, ⟨n, d, a, p, f⟩, (ints q_l)⟩, ⟨gc, gq, gw, gr, (ints q_gl)⟩, wr, pl, mi⟩), [], []⟩
  | _, _, _, _ => none
def E_rsvalid20_eq := And.intro (@E_rsvalid20.eq_1) (@E_rsvalid20.eq_1)
theorem E_rsvalid20_ok : Snd Tryz.prog 16 E_rsvalid20 := by
  intro vs b k n e h hn hp
  unfold E_rsvalid20 at h
  split at h
  · cases h; obtain ⟨hp0, hp1, hq0, hq1⟩ := hp; obtain ⟨_, rfl⟩ := LI_ex hq0; obtain ⟨_, rfl⟩ := LI_ex hq1; simp only [ints_LI, bys_LB, blks_LK, lls_LL] at hp0 hp1 ⊢; exact (spec_rsvalid20 _ _ _ _ _ _ _ _ _ _ _ _ _ _ _ _ _ _ _ hp0 hp1).lift rfl _
  · cases h

theorem spec_rsnew20 (di ch n d q s0 : Int) : Spec Tryz.prog 0 22 [vI .i64 di, vI .i64 ch, .agg [.d (.int .i64 n), .d (.int .i64 d)], vI .i64 q, vI .i64 s0] [] [] (.tup [.agg (smD (snR di ch n d q s0)), .int .i64 (snE di ch n d q s0)]) [] [] := by
  refine spec_of_E (X := ⟨Tryz.prog, tt, Tryz.f22.ntmps, 1, fun _ => 0, (tab [(58, E_rrsnew), (59, E_rrgnew), (16, E_rsvalid20)])⟩) (M := []) (m := 34393300127) rfl rfl ⟨tt_ok, tab_ok (tabs_cons E_rrsnew_ok (tabs_cons E_rrgnew_ok (tabs_cons E_rsvalid20_ok tabs_nil))) _ rfl rfl⟩ tt_mixed Tryz.func22 rfl (by decide) (by show (5 : Nat) ≤ _; exact Nat.le_of_ble_eq_true rfl) ⟨fun m hm => (V.bare_has rfl m hm).elim, by simp, by simp⟩ ?_
  simp only [↓gPre, gPost, gCore, gDef, Nat.reduceShiftRight, Nat.reduceMod, if_true, if_false, ↓reduceIte, reduceCtorEq, Nat.reduceEqDiff, Nat.reduceLT, Nat.reduceLeDiff, implies_true, forall_const, eq_self, ne_eq, not_true_eq_false, not_false_eq_true, imp_self, Nat.reduceAdd, Nat.reduceMul, Int.reduceLE, Int.reduceLT, Int.reduceNeg, Int.reduceAdd, Int.reduceToNat, E_rrsnew_eq, E_rrgnew_eq, E_rsvalid20_eq, rg_eta, sm_eta, ph_eta, rs_eta, smD_eq, smC_eq, Tryz.ntmps22, Tryz.results22, gTT]
  have hr : (nwR ch n d).l.length ≤ 1000000 := by
    unfold nwR
    split <;> exact Nat.zero_le _
  have hg : (rnR ch q).l.length ≤ 1000000 := by
    unfold rnR
    split <;> exact Nat.zero_le _
  refine ⟨fun h => ⟨⟨hr, hg⟩, fun h2 => ?_, fun h2 => ?_⟩, fun h => ⟨hr, fun h2 => ?_, fun h2 => ?_⟩⟩
  · have hd : di = 2 := by simpa using h
    have e : smV (snS di ch n d q s0) = false := by unfold snS; rw [if_pos hd]; exact h2
    simp [snR, snE, e, sm0, rs0, rg0, LI_nil]
  · have hd : di = 2 := by simpa using h
    have e : smV (snS di ch n d q s0) = true := by unfold snS; rw [if_pos hd]; simpa using h2
    unfold snR snE
    rw [if_pos e, if_pos e]
    unfold snS
    rw [if_pos hd]
  · have hd : ¬ di = 2 := by simpa using h
    have e : smV (snS di ch n d q s0) = false := by unfold snS; rw [if_neg hd]; exact h2
    simp [snR, snE, e, sm0, rs0, rg0, LI_nil]
  · have hd : ¬ di = 2 := by simpa using h
    have e : smV (snS di ch n d q s0) = true := by unfold snS; rw [if_neg hd]; simpa [rg0] using h2
    unfold snR snE
    rw [if_pos e, if_pos e]
    unfold snS
    rw [if_neg hd]
    rfl
def E_rsnew20 : List V → Boxes → Toks → Name → Option Ent
  | [.c (.d (.int .i64 di)), .c (.d (.int .i64 ch)), .agg [.d (.int .i64 n), .d (.int .i64 d)], .c (.d (.int .i64 q)), .c (.d (.int .i64 s0))], [], [], _ => some ⟨True, .tup [.agg (smD (snR di ch n d q s0)), .int .i64 (snE di ch n d q s0)], [], []⟩
  | _, _, _, _ => none
def E_rsnew20_eq := And.intro (@E_rsnew20.eq_1) (@E_rsnew20.eq_1)
theorem E_rsnew20_ok : Snd Tryz.prog 22 E_rsnew20 := by
  intro vs b k n e h hn hp
  unfold E_rsnew20 at h
  split at h
  · cases h; exact (spec_rsnew20 _ _ _ _ _ _).lift rfl _
  · cases h

theorem spec_rswaiting (di st q s0 c n d a p f : Int) (l : List Int) (gc gq gw gr : Int) (gl : List Int) (wr pl mi : Int) (hl : l.length ≤ 1000000) (hg : gl.length ≤ 1000000) : Spec Tryz.prog 0 18 [.agg (smC ⟨di, st, q, s0, ⟨c, ⟨n, d, a, p, f⟩, l⟩, ⟨gc, gq, gw, gr, gl⟩, wr, pl, mi⟩)] [] [] (vI .i64 (smN ⟨di, st, q, s0, ⟨c, ⟨n, d, a, p, f⟩, l⟩, ⟨gc, gq, gw, gr, gl⟩, wr, pl, mi⟩)) [] [] := by
  refine spec_of_E (X := ⟨Tryz.prog, tt, Tryz.f18.ntmps, 1, fun _ => 0, (tab [(16, E_rsvalid20), (55, E_rrgfill), (51, E_rwaiting)])⟩) (M := []) (m := 143) rfl rfl ⟨tt_ok, tab_ok (tabs_cons E_rsvalid20_ok (tabs_cons E_rrgfill_ok (tabs_cons E_rwaiting_ok tabs_nil))) _ rfl rfl⟩ tt_mixed Tryz.func18 rfl (by decide) (by show (1 : Nat) ≤ _; exact Nat.le_of_ble_eq_true rfl) ⟨by simp [V.has, C.has, smC_eq], by simp [C.has], by simp⟩ ?_
  simp only [↓gPre, gPost, gCore, gDef, Nat.reduceShiftRight, Nat.reduceMod, if_true, if_false, ↓reduceIte, reduceCtorEq, Nat.reduceEqDiff, Nat.reduceLT, Nat.reduceLeDiff, implies_true, forall_const, eq_self, ne_eq, not_true_eq_false, not_false_eq_true, imp_self, Nat.reduceAdd, Nat.reduceMul, Int.reduceLE, Int.reduceLT, Int.reduceNeg, Int.reduceAdd, Int.reduceToNat, E_rsvalid20_eq, E_rrgfill_eq, E_rwaiting_eq, rg_eta, sm_eta, ph_eta, rs_eta, smD_eq, smC_eq, Tryz.ntmps18, Tryz.results18, gTT]
  refine ⟨⟨hl, hg⟩, fun h => by simp [smN, h], fun h => ?_⟩
  have hv : smV ⟨di, st, q, s0, ⟨c, ⟨n, d, a, p, f⟩, l⟩, ⟨gc, gq, gw, gr, gl⟩, wr, pl, mi⟩ = true := by simpa using h
  have hdi := smV_di hv
  simp only at hdi
  refine ⟨fun h2 => ⟨hl, ?_⟩, fun h2 => ⟨hg, ?_⟩⟩
  · have hd : di = 1 := by simpa using h2
    unfold smN
    rw [if_neg (by rw [hv]; decide), if_neg (by show ¬ di = 2; omega)]
  · have hd : di = 2 := by
      have : ¬ di = 1 := by simpa using h2
      omega
    unfold smN
    rw [if_neg (by rw [hv]; decide), if_pos hd]
def E_rswaiting : List V → Boxes → Toks → Name → Option Ent
  | [.agg [.d (.int .i64 di), .d (.int .i64 st), .d (.int .i64 q), .d (.int .i64 s0), .d (.int .i64 c), .d (.int .i64 n), .d (.int .i64 d), .d (.int .i64 a), .d (.int .i64 p), .d (.int .i64 f), .d (.list q_l), .d (.int .i64 gc), .d (.int .i64 gq), .d (.int .i64 gw), .d (.int .i64 gr), .d (.list q_gl), .d (.int .i64 wr), .d (.int .i64 pl), .d (.int .i64 mi)]], [], [], _ => some ⟨(ints q_l).length ≤ 1000000 ∧ (ints q_gl).length ≤ 1000000 ∧ q_l = LI .i32 (ints q_l) ∧ q_gl = LI .i32 (ints q_gl), vI .i64 (smN ⟨di, st, q, s0, ⟨c, ⟨n, d, a, p, f⟩, (ints q_l)⟩, ⟨gc, gq, gw, gr, (ints q_gl)⟩, wr, pl, mi⟩), [], []⟩
  | _, _, _, _ => none
def E_rswaiting_eq := And.intro (@E_rswaiting.eq_1) (@E_rswaiting.eq_1)
theorem E_rswaiting_ok : Snd Tryz.prog 18 E_rswaiting := by
  intro vs b k n e h hn hp
  unfold E_rswaiting at h
  split at h
  · cases h; obtain ⟨hp0, hp1, hq0, hq1⟩ := hp; obtain ⟨_, rfl⟩ := LI_ex hq0; obtain ⟨_, rfl⟩ := LI_ex hq1; simp only [ints_LI, bys_LB, blks_LK, lls_LL] at hp0 hp1 ⊢; exact (spec_rswaiting _ _ _ _ _ _ _ _ _ _ _ _ _ _ _ _ _ _ _ hp0 hp1).lift rfl _
  · cases h

theorem spec_rsroom (di st q s0 c n d a p f : Int) (l : List Int) (gc gq gw gr : Int) (gl : List Int) (wr pl mi : Int) (hl : l.length ≤ 1000000) (hg : gl.length ≤ 1000000) : Spec Tryz.prog 0 20 [.agg (smC ⟨di, st, q, s0, ⟨c, ⟨n, d, a, p, f⟩, l⟩, ⟨gc, gq, gw, gr, gl⟩, wr, pl, mi⟩)] [] [] (vI .i64 (smO ⟨di, st, q, s0, ⟨c, ⟨n, d, a, p, f⟩, l⟩, ⟨gc, gq, gw, gr, gl⟩, wr, pl, mi⟩)) [] [] := by
  refine spec_of_E (X := ⟨Tryz.prog, tt, Tryz.f20.ntmps, 1, fun _ => 0, (tab [(16, E_rsvalid20), (18, E_rswaiting)])⟩) (M := []) (m := 39) rfl rfl ⟨tt_ok, tab_ok (tabs_cons E_rsvalid20_ok (tabs_cons E_rswaiting_ok tabs_nil)) _ rfl rfl⟩ tt_mixed Tryz.func20 rfl (by decide) (by show (1 : Nat) ≤ _; exact Nat.le_of_ble_eq_true rfl) ⟨fun m hm => (V.bare_has rfl m hm).elim, by simp, by simp⟩ ?_
  simp only [↓gPre, gPost, gCore, gDef, Nat.reduceShiftRight, Nat.reduceMod, if_true, if_false, ↓reduceIte, reduceCtorEq, Nat.reduceEqDiff, Nat.reduceLT, Nat.reduceLeDiff, implies_true, forall_const, eq_self, ne_eq, not_true_eq_false, not_false_eq_true, imp_self, Nat.reduceAdd, Nat.reduceMul, Int.reduceLE, Int.reduceLT, Int.reduceNeg, Int.reduceAdd, Int.reduceToNat, E_rsvalid20_eq, E_rswaiting_eq, rg_eta, sm_eta, ph_eta, rs_eta, smD_eq, smC_eq, Tryz.ntmps20, Tryz.results20, gTT]
  refine ⟨⟨hl, hg⟩, fun h => by simp [smO, h], fun h => ⟨by kernel_rfl, ⟨hl, hg⟩, ?_⟩⟩
  have hv : smV ⟨di, st, q, s0, ⟨c, ⟨n, d, a, p, f⟩, l⟩, ⟨gc, gq, gw, gr, gl⟩, wr, pl, mi⟩ = true := by simpa using h
  have hn := smN_in hv hl
  simp only at hn
  rw [IntWalk.i64_in (q - _) (by omega)]
  unfold smO
  rw [if_neg (by rw [hv]; decide)]
def E_rsroom : List V → Boxes → Toks → Name → Option Ent
  | [.agg [.d (.int .i64 di), .d (.int .i64 st), .d (.int .i64 q), .d (.int .i64 s0), .d (.int .i64 c), .d (.int .i64 n), .d (.int .i64 d), .d (.int .i64 a), .d (.int .i64 p), .d (.int .i64 f), .d (.list q_l), .d (.int .i64 gc), .d (.int .i64 gq), .d (.int .i64 gw), .d (.int .i64 gr), .d (.list q_gl), .d (.int .i64 wr), .d (.int .i64 pl), .d (.int .i64 mi)]], [], [], _ => some ⟨(ints q_l).length ≤ 1000000 ∧ (ints q_gl).length ≤ 1000000 ∧ q_l = LI .i32 (ints q_l) ∧ q_gl = LI .i32 (ints q_gl), vI .i64 (smO ⟨di, st, q, s0, ⟨c, ⟨n, d, a, p, f⟩, (ints q_l)⟩, ⟨gc, gq, gw, gr, (ints q_gl)⟩, wr, pl, mi⟩), [], []⟩
  | _, _, _, _ => none
def E_rsroom_eq := And.intro (@E_rsroom.eq_1) (@E_rsroom.eq_1)
theorem E_rsroom_ok : Snd Tryz.prog 20 E_rsroom := by
  intro vs b k n e h hn hp
  unfold E_rsroom at h
  split at h
  · cases h; obtain ⟨hp0, hp1, hq0, hq1⟩ := hp; obtain ⟨_, rfl⟩ := LI_ex hq0; obtain ⟨_, rfl⟩ := LI_ex hq1; simp only [ints_LI, bys_LB, blks_LK, lls_LL] at hp0 hp1 ⊢; exact (spec_rsroom _ _ _ _ _ _ _ _ _ _ _ _ _ _ _ _ _ _ _ hp0 hp1).lift rfl _
  · cases h

theorem spec_rsplays (di st q s0 c n d a p f : Int) (l : List Int) (gc gq gw gr : Int) (gl : List Int) (wr pl mi : Int) (hl : l.length ≤ 1000000) (hg : gl.length ≤ 1000000) : Spec Tryz.prog 0 44 [.agg (smC ⟨di, st, q, s0, ⟨c, ⟨n, d, a, p, f⟩, l⟩, ⟨gc, gq, gw, gr, gl⟩, wr, pl, mi⟩)] [] [] (vB (smP ⟨di, st, q, s0, ⟨c, ⟨n, d, a, p, f⟩, l⟩, ⟨gc, gq, gw, gr, gl⟩, wr, pl, mi⟩)) [] [] := by
  refine spec_of_E (X := ⟨Tryz.prog, tt, Tryz.f44.ntmps, 1, fun _ => 0, (tab [(16, E_rsvalid20)])⟩) (M := []) (m := 7) rfl rfl ⟨tt_ok, tab_ok (tabs_cons E_rsvalid20_ok tabs_nil) _ rfl rfl⟩ tt_mixed Tryz.func44 rfl (by decide) (by show (1 : Nat) ≤ _; exact Nat.le_of_ble_eq_true rfl) ⟨fun m hm => (V.bare_has rfl m hm).elim, by simp, by simp⟩ ?_
  simp only [↓gPre, gPost, gCore, gDef, Nat.reduceShiftRight, Nat.reduceMod, if_true, if_false, ↓reduceIte, reduceCtorEq, Nat.reduceEqDiff, Nat.reduceLT, Nat.reduceLeDiff, implies_true, forall_const, eq_self, ne_eq, not_true_eq_false, not_false_eq_true, imp_self, Nat.reduceAdd, Nat.reduceMul, Int.reduceLE, Int.reduceLT, Int.reduceNeg, Int.reduceAdd, Int.reduceToNat, E_rsvalid20_eq, rg_eta, sm_eta, ph_eta, rs_eta, smD_eq, smC_eq, Tryz.ntmps44, Tryz.results44, gTT]
  exact ⟨⟨hl, hg⟩, rfl⟩
def E_rsplays : List V → Boxes → Toks → Name → Option Ent
  | [.agg [.d (.int .i64 di), .d (.int .i64 st), .d (.int .i64 q), .d (.int .i64 s0), .d (.int .i64 c), .d (.int .i64 n), .d (.int .i64 d), .d (.int .i64 a), .d (.int .i64 p), .d (.int .i64 f), .d (.list q_l), .d (.int .i64 gc), .d (.int .i64 gq), .d (.int .i64 gw), .d (.int .i64 gr), .d (.list q_gl), .d (.int .i64 wr), .d (.int .i64 pl), .d (.int .i64 mi)]], [], [], _ => some ⟨(ints q_l).length ≤ 1000000 ∧ (ints q_gl).length ≤ 1000000 ∧ q_l = LI .i32 (ints q_l) ∧ q_gl = LI .i32 (ints q_gl), vB (smP ⟨di, st, q, s0, ⟨c, ⟨n, d, a, p, f⟩, (ints q_l)⟩, ⟨gc, gq, gw, gr, (ints q_gl)⟩, wr, pl, mi⟩), [], []⟩
  | _, _, _, _ => none
def E_rsplays_eq := And.intro (@E_rsplays.eq_1) (@E_rsplays.eq_1)
theorem E_rsplays_ok : Snd Tryz.prog 44 E_rsplays := by
  intro vs b k n e h hn hp
  unfold E_rsplays at h
  split at h
  · cases h; obtain ⟨hp0, hp1, hq0, hq1⟩ := hp; obtain ⟨_, rfl⟩ := LI_ex hq0; obtain ⟨_, rfl⟩ := LI_ex hq1; simp only [ints_LI, bys_LB, blks_LK, lls_LL] at hp0 hp1 ⊢; exact (spec_rsplays _ _ _ _ _ _ _ _ _ _ _ _ _ _ _ _ _ _ _ hp0 hp1).lift rfl _
  · cases h

theorem spec_rsrecords (di st q s0 c n d a p f : Int) (l : List Int) (gc gq gw gr : Int) (gl : List Int) (wr pl mi : Int) (hl : l.length ≤ 1000000) (hg : gl.length ≤ 1000000) : Spec Tryz.prog 0 77 [.agg (smC ⟨di, st, q, s0, ⟨c, ⟨n, d, a, p, f⟩, l⟩, ⟨gc, gq, gw, gr, gl⟩, wr, pl, mi⟩)] [] [] (vB (smR ⟨di, st, q, s0, ⟨c, ⟨n, d, a, p, f⟩, l⟩, ⟨gc, gq, gw, gr, gl⟩, wr, pl, mi⟩)) [] [] := by
  refine spec_of_E (X := ⟨Tryz.prog, tt, Tryz.f77.ntmps, 1, fun _ => 0, (tab [(16, E_rsvalid20)])⟩) (M := []) (m := 7) rfl rfl ⟨tt_ok, tab_ok (tabs_cons E_rsvalid20_ok tabs_nil) _ rfl rfl⟩ tt_mixed Tryz.func77 rfl (by decide) (by show (1 : Nat) ≤ _; exact Nat.le_of_ble_eq_true rfl) ⟨fun m hm => (V.bare_has rfl m hm).elim, by simp, by simp⟩ ?_
  simp only [↓gPre, gPost, gCore, gDef, Nat.reduceShiftRight, Nat.reduceMod, if_true, if_false, ↓reduceIte, reduceCtorEq, Nat.reduceEqDiff, Nat.reduceLT, Nat.reduceLeDiff, implies_true, forall_const, eq_self, ne_eq, not_true_eq_false, not_false_eq_true, imp_self, Nat.reduceAdd, Nat.reduceMul, Int.reduceLE, Int.reduceLT, Int.reduceNeg, Int.reduceAdd, Int.reduceToNat, E_rsvalid20_eq, rg_eta, sm_eta, ph_eta, rs_eta, smD_eq, smC_eq, Tryz.ntmps77, Tryz.results77, gTT]
  exact ⟨⟨hl, hg⟩, rfl⟩
def E_rsrecords : List V → Boxes → Toks → Name → Option Ent
  | [.agg [.d (.int .i64 di), .d (.int .i64 st), .d (.int .i64 q), .d (.int .i64 s0), .d (.int .i64 c), .d (.int .i64 n), .d (.int .i64 d), .d (.int .i64 a), .d (.int .i64 p), .d (.int .i64 f), .d (.list q_l), .d (.int .i64 gc), .d (.int .i64 gq), .d (.int .i64 gw), .d (.int .i64 gr), .d (.list q_gl), .d (.int .i64 wr), .d (.int .i64 pl), .d (.int .i64 mi)]], [], [], _ => some ⟨(ints q_l).length ≤ 1000000 ∧ (ints q_gl).length ≤ 1000000 ∧ q_l = LI .i32 (ints q_l) ∧ q_gl = LI .i32 (ints q_gl), vB (smR ⟨di, st, q, s0, ⟨c, ⟨n, d, a, p, f⟩, (ints q_l)⟩, ⟨gc, gq, gw, gr, (ints q_gl)⟩, wr, pl, mi⟩), [], []⟩
  | _, _, _, _ => none
def E_rsrecords_eq := And.intro (@E_rsrecords.eq_1) (@E_rsrecords.eq_1)
theorem E_rsrecords_ok : Snd Tryz.prog 77 E_rsrecords := by
  intro vs b k n e h hn hp
  unfold E_rsrecords at h
  split at h
  · cases h; obtain ⟨hp0, hp1, hq0, hq1⟩ := hp; obtain ⟨_, rfl⟩ := LI_ex hq0; obtain ⟨_, rfl⟩ := LI_ex hq1; simp only [ints_LI, bys_LB, blks_LK, lls_LL] at hp0 hp1 ⊢; exact (spec_rsrecords _ _ _ _ _ _ _ _ _ _ _ _ _ _ _ _ _ _ _ hp0 hp1).lift rfl _
  · cases h

theorem spec_rsowes (di st q s0 c n d a p f : Int) (l : List Int) (gc gq gw gr : Int) (gl : List Int) (wr pl mi : Int) (i : Int) (hl : l.length ≤ 1000000) (hg : gl.length ≤ 1000000) : Spec Tryz.prog 0 14 [.agg (smC ⟨di, st, q, s0, ⟨c, ⟨n, d, a, p, f⟩, l⟩, ⟨gc, gq, gw, gr, gl⟩, wr, pl, mi⟩), vI .i64 i] [] [] (.tup [.int .i64 (owN ⟨di, st, q, s0, ⟨c, ⟨n, d, a, p, f⟩, l⟩, ⟨gc, gq, gw, gr, gl⟩, wr, pl, mi⟩ i), .int .i64 (owE ⟨di, st, q, s0, ⟨c, ⟨n, d, a, p, f⟩, l⟩, ⟨gc, gq, gw, gr, gl⟩, wr, pl, mi⟩ i)]) [] [] := by
  refine spec_of_E (X := ⟨Tryz.prog, tt, Tryz.f14.ntmps, 1, fun _ => 0, (tab [(44, E_rsplays), (45, E_rpneed), (18, E_rswaiting)])⟩) (M := []) (m := 1049847) rfl rfl ⟨tt_ok, tab_ok (tabs_cons E_rsplays_ok (tabs_cons E_rpneed_ok (tabs_cons E_rswaiting_ok tabs_nil))) _ rfl rfl⟩ tt_mixed Tryz.func14 rfl (by decide) (by show (2 : Nat) ≤ _; exact Nat.le_of_ble_eq_true rfl) ⟨by simp [V.has, C.has, smC_eq], by simp [C.has], by simp⟩ ?_
  simp only [↓gPre, gPost, gCore, gDef, Nat.reduceShiftRight, Nat.reduceMod, if_true, if_false, ↓reduceIte, reduceCtorEq, Nat.reduceEqDiff, Nat.reduceLT, Nat.reduceLeDiff, implies_true, forall_const, eq_self, ne_eq, not_true_eq_false, not_false_eq_true, imp_self, Nat.reduceAdd, Nat.reduceMul, Int.reduceLE, Int.reduceLT, Int.reduceNeg, Int.reduceAdd, Int.reduceToNat, E_rsplays_eq, E_rpneed_eq, E_rswaiting_eq, rg_eta, sm_eta, ph_eta, rs_eta, smD_eq, smC_eq, Tryz.ntmps14, Tryz.results14, gTT]
  refine ⟨⟨hl, hg⟩, fun h => ?_, fun h => ?_⟩
  · have e : owE ⟨di, st, q, s0, ⟨c, ⟨n, d, a, p, f⟩, l⟩, ⟨gc, gq, gw, gr, gl⟩, wr, pl, mi⟩ i = 1 := by unfold owE; rw [if_pos h]
    simp [owN, e]
  have hP : smP ⟨di, st, q, s0, ⟨c, ⟨n, d, a, p, f⟩, l⟩, ⟨gc, gq, gw, gr, gl⟩, wr, pl, mi⟩ = true := by simpa using h
  have hv : smV ⟨di, st, q, s0, ⟨c, ⟨n, d, a, p, f⟩, l⟩, ⟨gc, gq, gw, gr, gl⟩, wr, pl, mi⟩ = true ∧ di = 1 := by have := hP; unfold smP at this; simpa using this
  have hb := smB_in (smV_in hv.1).1
  have hn := smN_in hv.1 hl
  simp only at hb hn
  have hp := (rsV_in hb.2.2.2.1).1
  simp only at hp
  have hc : phC ⟨n, d, a, p, f⟩ i = owE ⟨di, st, q, s0, ⟨c, ⟨n, d, a, p, f⟩, l⟩, ⟨gc, gq, gw, gr, gl⟩, wr, pl, mi⟩ i := by
    unfold phC owE
    rw [if_neg (show ¬ phV ⟨n, d, a, p, f⟩ = false by rw [hp]; decide), if_neg (show ¬ smP ⟨di, st, q, s0, ⟨c, ⟨n, d, a, p, f⟩, l⟩, ⟨gc, gq, gw, gr, gl⟩, wr, pl, mi⟩ = false by rw [hP]; decide)]
  refine ⟨fun h2 => ?_, fun h2 => ⟨⟨hl, hg⟩, ?_⟩⟩
  · have h3 : owE ⟨di, st, q, s0, ⟨c, ⟨n, d, a, p, f⟩, l⟩, ⟨gc, gq, gw, gr, gl⟩, wr, pl, mi⟩ i ≠ 0 := by rw [← hc]; simpa using h2
    simp [owN, hc, h3]
  have h3 : phC ⟨n, d, a, p, f⟩ i = 0 := by simpa using h2
  have e : owE ⟨di, st, q, s0, ⟨c, ⟨n, d, a, p, f⟩, l⟩, ⟨gc, gq, gw, gr, gl⟩, wr, pl, mi⟩ i = 0 := by rw [← hc]; exact h3
  have hi := (phC_ok h3).2
  have hN : neE ⟨n, d, a, p, f⟩ i = ned ⟨n, d, a, p, f⟩ i := by unfold neE; rw [if_pos h3]
  have hned := ned_in2 hp hi
  rw [hN, IntWalk.i64_in (_ - smN _) (by omega)]
  have e2 : owN ⟨di, st, q, s0, ⟨c, ⟨n, d, a, p, f⟩, l⟩, ⟨gc, gq, gw, gr, gl⟩, wr, pl, mi⟩ i = max 0 (ned ⟨n, d, a, p, f⟩ i - smN ⟨di, st, q, s0, ⟨c, ⟨n, d, a, p, f⟩, l⟩, ⟨gc, gq, gw, gr, gl⟩, wr, pl, mi⟩) := by unfold owN; rw [if_pos e]
  rw [e2, e]
  have e3 : (if 0 < ned ⟨n, d, a, p, f⟩ i - smN ⟨di, st, q, s0, ⟨c, ⟨n, d, a, p, f⟩, l⟩, ⟨gc, gq, gw, gr, gl⟩, wr, pl, mi⟩ then ned ⟨n, d, a, p, f⟩ i - smN ⟨di, st, q, s0, ⟨c, ⟨n, d, a, p, f⟩, l⟩, ⟨gc, gq, gw, gr, gl⟩, wr, pl, mi⟩ else 0) = max 0 (ned ⟨n, d, a, p, f⟩ i - smN ⟨di, st, q, s0, ⟨c, ⟨n, d, a, p, f⟩, l⟩, ⟨gc, gq, gw, gr, gl⟩, wr, pl, mi⟩) := by split <;> omega
  rw [e3]
def E_rsowes : List V → Boxes → Toks → Name → Option Ent
  | [.agg [.d (.int .i64 di), .d (.int .i64 st), .d (.int .i64 q), .d (.int .i64 s0), .d (.int .i64 c), .d (.int .i64 n), .d (.int .i64 d), .d (.int .i64 a), .d (.int .i64 p), .d (.int .i64 f), .d (.list q_l), .d (.int .i64 gc), .d (.int .i64 gq), .d (.int .i64 gw), .d (.int .i64 gr), .d (.list q_gl), .d (.int .i64 wr), .d (.int .i64 pl), .d (.int .i64 mi)], .c (.d (.int .i64 i))], [], [], _ => some ⟨(ints q_l).length ≤ 1000000 ∧ (ints q_gl).length ≤ 1000000 ∧ q_l = LI .i32 (ints q_l) ∧ q_gl = LI .i32 (ints q_gl), .tup [.int .i64 (owN ⟨di, st, q, s0, ⟨c, ⟨n, d, a, p, f⟩, (ints q_l)⟩, ⟨gc, gq, gw, gr, (ints q_gl)⟩, wr, pl, mi⟩ i), .int .i64 (owE ⟨di, st, q, s0, ⟨c, ⟨n, d, a, p, f⟩, (ints q_l)⟩, ⟨gc, gq, gw, gr, (ints q_gl)⟩, wr, pl, mi⟩ i)], [], []⟩
  | _, _, _, _ => none
def E_rsowes_eq := And.intro (@E_rsowes.eq_1) (@E_rsowes.eq_1)
theorem E_rsowes_ok : Snd Tryz.prog 14 E_rsowes := by
  intro vs b k n e h hn hp
  unfold E_rsowes at h
  split at h
  · cases h; obtain ⟨hp0, hp1, hq0, hq1⟩ := hp; obtain ⟨_, rfl⟩ := LI_ex hq0; obtain ⟨_, rfl⟩ := LI_ex hq1; simp only [ints_LI, bys_LB, blks_LK, lls_LL] at hp0 hp1 ⊢; exact (spec_rsowes _ _ _ _ _ _ _ _ _ _ _ _ _ _ _ _ _ _ _ _ hp0 hp1).lift rfl _
  · cases h

theorem spec_rswrite (di st q s0 c n d a p f : Int) (l : List Int) (gc gq gw gr : Int) (gl : List Int) (wr pl mi : Int) (k : Int) (y : List Int) (hl : l.length ≤ 1000000) (hg : gl.length ≤ 1000000) (hy : y.length ≤ 1000000) : Spec Tryz.prog 0 33 [.agg (smC ⟨di, st, q, s0, ⟨c, ⟨n, d, a, p, f⟩, l⟩, ⟨gc, gq, gw, gr, gl⟩, wr, pl, mi⟩), .agg [.d (.int .i64 k), .d (.list (LI .i32 y))]] [] [] (.tup [.agg (smD (swR ⟨di, st, q, s0, ⟨c, ⟨n, d, a, p, f⟩, l⟩, ⟨gc, gq, gw, gr, gl⟩, wr, pl, mi⟩ k y)), .int .i64 (swE ⟨di, st, q, s0, ⟨c, ⟨n, d, a, p, f⟩, l⟩, ⟨gc, gq, gw, gr, gl⟩, wr, pl, mi⟩ k y)]) [] [] := by
  refine spec_of_E (X := ⟨Tryz.prog, tt, Tryz.f33.ntmps, 1, fun _ => 0, (tab [(44, E_rsplays), (69, E_rbvalid), (26, E_frames), (20, E_rsroom), (75, E_rfeed)])⟩) (M := []) (m := 72127964996960767) rfl rfl ⟨tt_ok, tab_ok (tabs_cons E_rsplays_ok (tabs_cons E_rbvalid_ok (tabs_cons E_frames_ok (tabs_cons E_rsroom_ok (tabs_cons E_rfeed_ok tabs_nil))))) _ rfl rfl⟩ tt_mixed Tryz.func33 rfl (by decide) (by show (2 : Nat) ≤ _; exact Nat.le_of_ble_eq_true rfl) ⟨fun m hm => (V.bare_has rfl m hm).elim, by simp, by simp⟩ ?_
  simp only [↓gPre, gPost, gCore, gDef, Nat.reduceShiftRight, Nat.reduceMod, if_true, if_false, ↓reduceIte, reduceCtorEq, Nat.reduceEqDiff, Nat.reduceLT, Nat.reduceLeDiff, implies_true, forall_const, eq_self, ne_eq, not_true_eq_false, not_false_eq_true, imp_self, Nat.reduceAdd, Nat.reduceMul, Int.reduceLE, Int.reduceLT, Int.reduceNeg, Int.reduceAdd, Int.reduceToNat, E_rsplays_eq, E_rbvalid_eq, E_frames_eq, E_rsroom_eq, E_rfeed_eq, rg_eta, sm_eta, ph_eta, rs_eta, smD_eq, smC_eq, Tryz.ntmps33, Tryz.results33, gTT]
  refine ⟨⟨hl, hg⟩, fun _ => hy, fun h => ?_, fun h => ⟨fun h2 => ?_, fun h2 => ⟨fun h3 => ?_, fun h3 => ⟨by kernel_rfl, hy, ⟨hl, hg⟩, fun h4 => ?_, fun h4 => ⟨⟨hl, hy⟩, fun h5 => ?_, fun h5 => ⟨fun _ => hy, fun h6 => ⟨by kernel_rfl, hy, ?_⟩, fun h6 => ⟨by kernel_rfl, hy, ?_⟩⟩⟩⟩⟩⟩⟩
  · have e : swE ⟨di, st, q, s0, ⟨c, ⟨n, d, a, p, f⟩, l⟩, ⟨gc, gq, gw, gr, gl⟩, wr, pl, mi⟩ k y = 1 := by unfold swE; rw [if_pos h]
    simp [swR, e, sm0, rs0, rg0, LI_nil]
  · have hk : k ≠ c := by simpa using h2
    have e : swE ⟨di, st, q, s0, ⟨c, ⟨n, d, a, p, f⟩, l⟩, ⟨gc, gq, gw, gr, gl⟩, wr, pl, mi⟩ k y = 11 := by unfold swE; rw [if_neg (by rw [h]; decide), if_pos hk]
    simp [swR, e, sm0, rs0, rg0, LI_nil]
  · have hk : k = c := by simpa using h2
    have e : swE ⟨di, st, q, s0, ⟨c, ⟨n, d, a, p, f⟩, l⟩, ⟨gc, gq, gw, gr, gl⟩, wr, pl, mi⟩ k y = 9 := by unfold swE; rw [if_neg (by rw [h]; decide), if_neg (by simpa using hk), if_pos (of_decide_eq_true h3)]
    simp [swR, e, sm0, rs0, rg0, LI_nil]
  all_goals
    have hk : k = c := by simpa using h2
    have hb : blkV k y = true := by
      simp only [Bool.or_eq_false_iff, Bool.not_eq_false'] at h
      exact h.2
    have hN : swN k y = ((y.length / k.toNat : Nat) : Int) := rfl
    rw [if_pos hb, ← hN] at h4
  · have e : swE ⟨di, st, q, s0, ⟨c, ⟨n, d, a, p, f⟩, l⟩, ⟨gc, gq, gw, gr, gl⟩, wr, pl, mi⟩ k y = 10 := by unfold swE; rw [if_neg (by rw [h]; decide), if_neg (by simpa using hk), if_neg (of_decide_eq_false h3), if_pos (of_decide_eq_true h4)]
    simp [swR, e, sm0, rs0, rg0, LI_nil]
  all_goals
    have e : swE ⟨di, st, q, s0, ⟨c, ⟨n, d, a, p, f⟩, l⟩, ⟨gc, gq, gw, gr, gl⟩, wr, pl, mi⟩ k y = 0 := by unfold swE; rw [if_neg (by rw [h]; decide), if_neg (by simpa using hk), if_neg (of_decide_eq_false h3), if_neg (of_decide_eq_false h4)]
  · exact absurd (swE_fe (x := ⟨di, st, q, s0, ⟨c, ⟨n, d, a, p, f⟩, l⟩, ⟨gc, gq, gw, gr, gl⟩, wr, pl, mi⟩) hl hy e).2.2.2.2.2 (by simpa using h5)
  all_goals
    rw [if_pos hb, ← hN] at h6 ⊢
  · have h7 : st = 1 ∧ 0 < swN k y := by simpa using h6
    have e2 : swR ⟨di, st, q, s0, ⟨c, ⟨n, d, a, p, f⟩, l⟩, ⟨gc, gq, gw, gr, gl⟩, wr, pl, mi⟩ k y = ⟨di, 2, q, s0, feR ⟨c, ⟨n, d, a, p, f⟩, l⟩ k y, ⟨gc, gq, gw, gr, gl⟩, IntKind.i64.wrap (wr + swN k y), pl, mi⟩ := by unfold swR; rw [if_pos e, if_pos h7]
    rw [e2, e]
  · have h7 : ¬ (st = 1 ∧ 0 < swN k y) := by
      intro h7
      rw [Bool.and_eq_false_iff] at h6
      rcases h6 with h6 | h6
      · simp at h6; exact h6 h7.1
      · have := of_decide_eq_false h6; omega
    have e2 : swR ⟨di, st, q, s0, ⟨c, ⟨n, d, a, p, f⟩, l⟩, ⟨gc, gq, gw, gr, gl⟩, wr, pl, mi⟩ k y = ⟨di, st, q, s0, feR ⟨c, ⟨n, d, a, p, f⟩, l⟩ k y, ⟨gc, gq, gw, gr, gl⟩, IntKind.i64.wrap (wr + swN k y), pl, mi⟩ := by unfold swR; rw [if_pos e, if_neg h7]
    rw [e2, e]
def E_rswrite : List V → Boxes → Toks → Name → Option Ent
  | [.agg [.d (.int .i64 di), .d (.int .i64 st), .d (.int .i64 q), .d (.int .i64 s0), .d (.int .i64 c), .d (.int .i64 n), .d (.int .i64 d), .d (.int .i64 a), .d (.int .i64 p), .d (.int .i64 f), .d (.list q_l), .d (.int .i64 gc), .d (.int .i64 gq), .d (.int .i64 gw), .d (.int .i64 gr), .d (.list q_gl), .d (.int .i64 wr), .d (.int .i64 pl), .d (.int .i64 mi)], .agg [.d (.int .i64 k), .d (.list q_y)]], [], [], _ => some ⟨(ints q_l).length ≤ 1000000 ∧ (ints q_gl).length ≤ 1000000 ∧ (ints q_y).length ≤ 1000000 ∧ q_l = LI .i32 (ints q_l) ∧ q_gl = LI .i32 (ints q_gl) ∧ q_y = LI .i32 (ints q_y), .tup [.agg (smD (swR ⟨di, st, q, s0, ⟨c, ⟨n, d, a, p, f⟩, (ints q_l)⟩, ⟨gc, gq, gw, gr, (ints q_gl)⟩, wr, pl, mi⟩ k (ints q_y))), .int .i64 (swE ⟨di, st, q, s0, ⟨c, ⟨n, d, a, p, f⟩, (ints q_l)⟩, ⟨gc, gq, gw, gr, (ints q_gl)⟩, wr, pl, mi⟩ k (ints q_y))], [], []⟩
  | _, _, _, _ => none
def E_rswrite_eq := And.intro (@E_rswrite.eq_1) (@E_rswrite.eq_1)
theorem E_rswrite_ok : Snd Tryz.prog 33 E_rswrite := by
  intro vs b k n e h hn hp
  unfold E_rswrite at h
  split at h
  · cases h; obtain ⟨hp0, hp1, hp2, hq0, hq1, hq2⟩ := hp; obtain ⟨_, rfl⟩ := LI_ex hq0; obtain ⟨_, rfl⟩ := LI_ex hq1; obtain ⟨_, rfl⟩ := LI_ex hq2; simp only [ints_LI, bys_LB, blks_LK, lls_LL] at hp0 hp1 hp2 ⊢; exact (spec_rswrite _ _ _ _ _ _ _ _ _ _ _ _ _ _ _ _ _ _ _ _ _ hp0 hp1 hp2).lift rfl _
  · cases h

theorem spec_rsread (di st q s0 c n d a p f : Int) (l : List Int) (gc gq gw gr : Int) (gl : List Int) (wr pl mi : Int) (i : Int) (hl : l.length ≤ 1000000) (hg : gl.length ≤ 1000000) : Spec Tryz.prog 0 35 [.agg (smC ⟨di, st, q, s0, ⟨c, ⟨n, d, a, p, f⟩, l⟩, ⟨gc, gq, gw, gr, gl⟩, wr, pl, mi⟩), vI .i64 i] [] [] (.tup [.agg [.int .i64 (srC ⟨di, st, q, s0, ⟨c, ⟨n, d, a, p, f⟩, l⟩, ⟨gc, gq, gw, gr, gl⟩, wr, pl, mi⟩ i), .list (LI .i32 (srO ⟨di, st, q, s0, ⟨c, ⟨n, d, a, p, f⟩, l⟩, ⟨gc, gq, gw, gr, gl⟩, wr, pl, mi⟩ i))], .agg (smD (srR ⟨di, st, q, s0, ⟨c, ⟨n, d, a, p, f⟩, l⟩, ⟨gc, gq, gw, gr, gl⟩, wr, pl, mi⟩ i)), .int .i64 (srE ⟨di, st, q, s0, ⟨c, ⟨n, d, a, p, f⟩, l⟩, ⟨gc, gq, gw, gr, gl⟩, wr, pl, mi⟩ i)]) [] [] := by
  refine spec_of_E (X := ⟨Tryz.prog, tt, Tryz.f35.ntmps, 1, fun _ => 0, (tab [(77, E_rsrecords), (18, E_rswaiting), (78, E_rrgread)])⟩) (M := [(8, [0, 0, 0, 0, 0, 8263655507447, 0, 0, 0, 0, 0, 7696719824375, 0, 0, 0])]) (m := 138429943) rfl rfl ⟨tt_ok, tab_ok (tabs_cons E_rsrecords_ok (tabs_cons E_rswaiting_ok (tabs_cons E_rrgread_ok tabs_nil))) _ rfl rfl⟩ tt_mixed Tryz.func35 rfl (by decide) (by show (2 : Nat) ≤ _; exact Nat.le_of_ble_eq_true rfl) ⟨fun m hm => (V.bare_has rfl m hm).elim, by simp, by simp⟩ ?_
  simp only [↓gPre, gPost, gCore, gDef, Nat.reduceShiftRight, Nat.reduceMod, if_true, if_false, ↓reduceIte, reduceCtorEq, Nat.reduceEqDiff, Nat.reduceLT, Nat.reduceLeDiff, implies_true, forall_const, eq_self, ne_eq, not_true_eq_false, not_false_eq_true, imp_self, Nat.reduceAdd, Nat.reduceMul, Int.reduceLE, Int.reduceLT, Int.reduceNeg, Int.reduceAdd, Int.reduceToNat, E_rsrecords_eq, E_rswaiting_eq, E_rrgread_eq, rg_eta, sm_eta, ph_eta, rs_eta, smD_eq, smC_eq, Tryz.ntmps35, Tryz.results35, gTT]
  refine ⟨⟨hl, hg⟩, fun h => ?_, fun h => ⟨fun h2 => ?_, fun h2 => ⟨fun h3 => ?_, fun h3 => ⟨⟨hl, hg⟩, hg, by kernel_rfl, ?_⟩⟩⟩⟩
  · have e : srE ⟨di, st, q, s0, ⟨c, ⟨n, d, a, p, f⟩, l⟩, ⟨gc, gq, gw, gr, gl⟩, wr, pl, mi⟩ i = 1 := by unfold srE; rw [if_pos h]
    simp [srC, srO, srR, e, sm0, rs0, rg0, LI_nil]
  · have hv : smR ⟨di, st, q, s0, ⟨c, ⟨n, d, a, p, f⟩, l⟩, ⟨gc, gq, gw, gr, gl⟩, wr, pl, mi⟩ = true := by simpa using h
    have e : srE ⟨di, st, q, s0, ⟨c, ⟨n, d, a, p, f⟩, l⟩, ⟨gc, gq, gw, gr, gl⟩, wr, pl, mi⟩ i = 2 := by unfold srE; rw [if_neg (by rw [hv]; decide), if_pos h2]
    simp [srC, srO, srR, e, sm0, rs0, rg0, LI_nil]
  · have hv : smR ⟨di, st, q, s0, ⟨c, ⟨n, d, a, p, f⟩, l⟩, ⟨gc, gq, gw, gr, gl⟩, wr, pl, mi⟩ = true := by simpa using h
    have hs7 : st = 7 := by simpa using h3
    have e : srE ⟨di, st, q, s0, ⟨c, ⟨n, d, a, p, f⟩, l⟩, ⟨gc, gq, gw, gr, gl⟩, wr, pl, mi⟩ i = 9 := by unfold srE; rw [if_neg (by rw [hv]; decide), if_neg (by rw [h2]; decide), if_pos hs7]
    simp [srC, srO, srR, e, sm0, rs0, rg0, LI_nil]
  have hv : smR ⟨di, st, q, s0, ⟨c, ⟨n, d, a, p, f⟩, l⟩, ⟨gc, gq, gw, gr, gl⟩, wr, pl, mi⟩ = true := by simpa using h
  have hs7 : ¬ st = 7 := by simpa using h3
  have e : srE ⟨di, st, q, s0, ⟨c, ⟨n, d, a, p, f⟩, l⟩, ⟨gc, gq, gw, gr, gl⟩, wr, pl, mi⟩ i = 0 := by unfold srE; rw [if_neg (by rw [hv]; decide), if_neg (by rw [h2]; decide), if_neg hs7]
  have eK : (if smN ⟨di, st, q, s0, ⟨c, ⟨n, d, a, p, f⟩, l⟩, ⟨gc, gq, gw, gr, gl⟩, wr, pl, mi⟩ < i then smN ⟨di, st, q, s0, ⟨c, ⟨n, d, a, p, f⟩, l⟩, ⟨gc, gq, gw, gr, gl⟩, wr, pl, mi⟩ else i) = srN ⟨di, st, q, s0, ⟨c, ⟨n, d, a, p, f⟩, l⟩, ⟨gc, gq, gw, gr, gl⟩, wr, pl, mi⟩ i := by unfold srN; split <;> omega
  rw [eK]
  simp [srC, srO, srR, e]
def E_rsread : List V → Boxes → Toks → Name → Option Ent
  | [.agg [.d (.int .i64 di), .d (.int .i64 st), .d (.int .i64 q), .d (.int .i64 s0), .d (.int .i64 c), .d (.int .i64 n), .d (.int .i64 d), .d (.int .i64 a), .d (.int .i64 p), .d (.int .i64 f), .d (.list q_l), .d (.int .i64 gc), .d (.int .i64 gq), .d (.int .i64 gw), .d (.int .i64 gr), .d (.list q_gl), .d (.int .i64 wr), .d (.int .i64 pl), .d (.int .i64 mi)], .c (.d (.int .i64 i))], [], [], _ => some ⟨(ints q_l).length ≤ 1000000 ∧ (ints q_gl).length ≤ 1000000 ∧ q_l = LI .i32 (ints q_l) ∧ q_gl = LI .i32 (ints q_gl), .tup [.agg [.int .i64 (srC ⟨di, st, q, s0, ⟨c, ⟨n, d, a, p, f⟩, (ints q_l)⟩, ⟨gc, gq, gw, gr, (ints q_gl)⟩, wr, pl, mi⟩ i), .list (LI .i32 (srO ⟨di, st, q, s0, ⟨c, ⟨n, d, a, p, f⟩, (ints q_l)⟩, ⟨gc, gq, gw, gr, (ints q_gl)⟩, wr, pl, mi⟩ i))], .agg (smD (srR ⟨di, st, q, s0, ⟨c, ⟨n, d, a, p, f⟩, (ints q_l)⟩, ⟨gc, gq, gw, gr, (ints q_gl)⟩, wr, pl, mi⟩ i)), .int .i64 (srE ⟨di, st, q, s0, ⟨c, ⟨n, d, a, p, f⟩, (ints q_l)⟩, ⟨gc, gq, gw, gr, (ints q_gl)⟩, wr, pl, mi⟩ i)], [], []⟩
  | _, _, _, _ => none
def E_rsread_eq := And.intro (@E_rsread.eq_1) (@E_rsread.eq_1)
theorem E_rsread_ok : Snd Tryz.prog 35 E_rsread := by
  intro vs b k n e h hn hp
  unfold E_rsread at h
  split at h
  · cases h; obtain ⟨hp0, hp1, hq0, hq1⟩ := hp; obtain ⟨_, rfl⟩ := LI_ex hq0; obtain ⟨_, rfl⟩ := LI_ex hq1; simp only [ints_LI, bys_LB, blks_LK, lls_LL] at hp0 hp1 ⊢; exact (spec_rsread _ _ _ _ _ _ _ _ _ _ _ _ _ _ _ _ _ _ _ _ hp0 hp1).lift rfl _
  · cases h

theorem spec_rsempty (di st q s0 c n d a p f : Int) (l : List Int) (gc gq gw gr : Int) (gl : List Int) (wr pl mi : Int) (hl : l.length ≤ 1000000) (hg : gl.length ≤ 1000000) : Spec Tryz.prog 0 79 [.agg (smC ⟨di, st, q, s0, ⟨c, ⟨n, d, a, p, f⟩, l⟩, ⟨gc, gq, gw, gr, gl⟩, wr, pl, mi⟩)] [] [] (.agg (smC (smE ⟨di, st, q, s0, ⟨c, ⟨n, d, a, p, f⟩, l⟩, ⟨gc, gq, gw, gr, gl⟩, wr, pl, mi⟩))) [] [] := by
  refine spec_of_E (X := ⟨Tryz.prog, tt, Tryz.f79.ntmps, 1, fun _ => 0, (tab [(58, E_rrsnew), (111, E_rrgclear)])⟩) (M := [(1, [0, 0, 0, 0, 0, 155215, 0, 0, 0, 0, 0, 151559, 0])]) (m := 131079) rfl rfl ⟨tt_ok, tab_ok (tabs_cons E_rrsnew_ok (tabs_cons E_rrgclear_ok tabs_nil)) _ rfl rfl⟩ tt_mixed Tryz.func79 rfl (by decide) (by show (1 : Nat) ≤ _; exact Nat.le_of_ble_eq_true rfl) ⟨fun m hm => (V.bare_has rfl m hm).elim, by simp, by simp⟩ ?_
  simp only [↓gPre, gPost, gCore, gDef, Nat.reduceShiftRight, Nat.reduceMod, if_true, if_false, ↓reduceIte, reduceCtorEq, Nat.reduceEqDiff, Nat.reduceLT, Nat.reduceLeDiff, implies_true, forall_const, eq_self, ne_eq, not_true_eq_false, not_false_eq_true, imp_self, Nat.reduceAdd, Nat.reduceMul, Int.reduceLE, Int.reduceLT, Int.reduceNeg, Int.reduceAdd, Int.reduceToNat, E_rrsnew_eq, E_rrgclear_eq, rg_eta, sm_eta, ph_eta, rs_eta, smD_eq, smC_eq, Tryz.ntmps79, Tryz.results79, gTT]
  refine ⟨fun h => ?_, fun h => ?_⟩
  · have hd : di = 2 := by simpa using h
    simp [smE, hd, hg]
  · have hd : ¬ di = 2 := by simpa using h
    simp [smE, hd]
def E_rsempty : List V → Boxes → Toks → Name → Option Ent
  | [.agg [.d (.int .i64 di), .d (.int .i64 st), .d (.int .i64 q), .d (.int .i64 s0), .d (.int .i64 c), .d (.int .i64 n), .d (.int .i64 d), .d (.int .i64 a), .d (.int .i64 p), .d (.int .i64 f), .d (.list q_l), .d (.int .i64 gc), .d (.int .i64 gq), .d (.int .i64 gw), .d (.int .i64 gr), .d (.list q_gl), .d (.int .i64 wr), .d (.int .i64 pl), .d (.int .i64 mi)]], [], [], _ => some ⟨(ints q_l).length ≤ 1000000 ∧ (ints q_gl).length ≤ 1000000 ∧ q_l = LI .i32 (ints q_l) ∧ q_gl = LI .i32 (ints q_gl), .agg (smC (smE ⟨di, st, q, s0, ⟨c, ⟨n, d, a, p, f⟩, (ints q_l)⟩, ⟨gc, gq, gw, gr, (ints q_gl)⟩, wr, pl, mi⟩)), [], []⟩
  | _, _, _, _ => none
def E_rsempty_eq := And.intro (@E_rsempty.eq_1) (@E_rsempty.eq_1)
theorem E_rsempty_ok : Snd Tryz.prog 79 E_rsempty := by
  intro vs b k n e h hn hp
  unfold E_rsempty at h
  split at h
  · cases h; obtain ⟨hp0, hp1, hq0, hq1⟩ := hp; obtain ⟨_, rfl⟩ := LI_ex hq0; obtain ⟨_, rfl⟩ := LI_ex hq1; simp only [ints_LI, bys_LB, blks_LK, lls_LL] at hp0 hp1 ⊢; exact (spec_rsempty _ _ _ _ _ _ _ _ _ _ _ _ _ _ _ _ _ _ _ hp0 hp1).lift rfl _
  · cases h

theorem spec_rsgive (di st q s0 c n d a p f : Int) (l : List Int) (gc gq gw gr : Int) (gl : List Int) (wr pl mi : Int) (k : Int) (y : List Int) (hl : l.length ≤ 1000000) (hg : gl.length ≤ 1000000) (hy : y.length ≤ 1000000) : Spec Tryz.prog 0 40 [.agg (smC ⟨di, st, q, s0, ⟨c, ⟨n, d, a, p, f⟩, l⟩, ⟨gc, gq, gw, gr, gl⟩, wr, pl, mi⟩), .agg [.d (.int .i64 k), .d (.list (LI .i32 y))]] [] [] (.tup [.int .i64 (gvL ⟨di, st, q, s0, ⟨c, ⟨n, d, a, p, f⟩, l⟩, ⟨gc, gq, gw, gr, gl⟩, wr, pl, mi⟩ k y), .agg (smD (gvR ⟨di, st, q, s0, ⟨c, ⟨n, d, a, p, f⟩, l⟩, ⟨gc, gq, gw, gr, gl⟩, wr, pl, mi⟩ k y)), .int .i64 (gvE ⟨di, st, q, s0, ⟨c, ⟨n, d, a, p, f⟩, l⟩, ⟨gc, gq, gw, gr, gl⟩, wr, pl, mi⟩ k y)]) [] [] := by
  refine spec_of_E (X := ⟨Tryz.prog, tt, Tryz.f40.ntmps, 1, fun _ => 0, (tab [(77, E_rsrecords), (69, E_rbvalid), (87, E_rconvert), (88, E_rrgwrite), (26, E_frames)])⟩) (M := [(7, [0, 0, 0, 0, 0, 9010365787017215, 0, 0, 0, 0, 0, 9009949175189503, 0]), (10, [0, 0, 0, 0, 0, 12967641279369215, 0, 0, 0, 0, 0, 0])]) (m := 9009399419375615) rfl rfl ⟨tt_ok, tab_ok (tabs_cons E_rsrecords_ok (tabs_cons E_rbvalid_ok (tabs_cons E_rconvert_ok (tabs_cons E_rrgwrite_ok (tabs_cons E_frames_ok tabs_nil))))) _ rfl rfl⟩ tt_mixed Tryz.func40 rfl (by decide) (by show (2 : Nat) ≤ _; exact Nat.le_of_ble_eq_true rfl) ⟨fun m hm => (V.bare_has rfl m hm).elim, by simp, by simp⟩ ?_
  simp only [↓gPre, gPost, gCore, gDef, Nat.reduceShiftRight, Nat.reduceMod, if_true, if_false, ↓reduceIte, reduceCtorEq, Nat.reduceEqDiff, Nat.reduceLT, Nat.reduceLeDiff, implies_true, forall_const, eq_self, ne_eq, not_true_eq_false, not_false_eq_true, imp_self, Nat.reduceAdd, Nat.reduceMul, Int.reduceLE, Int.reduceLT, Int.reduceNeg, Int.reduceAdd, Int.reduceToNat, E_rsrecords_eq, E_rbvalid_eq, E_rconvert_eq, E_rrgwrite_eq, E_frames_eq, rg_eta, sm_eta, ph_eta, rs_eta, smD_eq, smC_eq, Tryz.ntmps40, Tryz.results40, gTT]
  refine ⟨⟨hl, hg⟩, fun _ => hy, fun h => ?_, fun h => ⟨fun h2 => ?_, fun h2 => ⟨fun h3 => ⟨by kernel_rfl, ?_⟩, fun h3 => ⟨⟨hl, hy⟩, fun h4 => ?_, fun h4 => ⟨⟨hg, ?_⟩, fun h5 => ?_, fun h5 => ⟨by kernel_rfl, by kernel_rfl, hy, by kernel_rfl, ?_⟩⟩⟩⟩⟩⟩
  · have e : gvE ⟨di, st, q, s0, ⟨c, ⟨n, d, a, p, f⟩, l⟩, ⟨gc, gq, gw, gr, gl⟩, wr, pl, mi⟩ k y = 1 := by unfold gvE; rw [if_pos h]
    simp [gvL, gvR, e, sm0, rs0, rg0, LI_nil]
  · have hk : k ≠ c := by simpa using h2
    have e : gvE ⟨di, st, q, s0, ⟨c, ⟨n, d, a, p, f⟩, l⟩, ⟨gc, gq, gw, gr, gl⟩, wr, pl, mi⟩ k y = 11 := by unfold gvE; rw [if_neg (by rw [h]; decide), if_pos hk]
    simp [gvL, gvR, e, sm0, rs0, rg0, LI_nil]
  all_goals
    have hk : k = c := by simpa using h2
    have hg0 : gvE ⟨di, st, q, s0, ⟨c, ⟨n, d, a, p, f⟩, l⟩, ⟨gc, gq, gw, gr, gl⟩, wr, pl, mi⟩ k y = if st ≠ 3 then 0 else if cvE ⟨c, ⟨n, d, a, p, f⟩, l⟩ k y ≠ 0 then cvE ⟨c, ⟨n, d, a, p, f⟩, l⟩ k y else rwE ⟨gc, gq, gw, gr, gl⟩ (cvC ⟨c, ⟨n, d, a, p, f⟩, l⟩ k y) (cvO ⟨c, ⟨n, d, a, p, f⟩, l⟩ k y) := by
      unfold gvE
      rw [if_neg (by rw [h]; decide), if_neg (by simpa using hk)]
  · have hs : st ≠ 3 := by simpa using h3
    have e : gvE ⟨di, st, q, s0, ⟨c, ⟨n, d, a, p, f⟩, l⟩, ⟨gc, gq, gw, gr, gl⟩, wr, pl, mi⟩ k y = 0 := by rw [hg0, if_pos hs]
    have e1 : gvL ⟨di, st, q, s0, ⟨c, ⟨n, d, a, p, f⟩, l⟩, ⟨gc, gq, gw, gr, gl⟩, wr, pl, mi⟩ k y = 0 := by unfold gvL; rw [if_neg (fun h => hs h.2)]
    have e2 : gvR ⟨di, st, q, s0, ⟨c, ⟨n, d, a, p, f⟩, l⟩, ⟨gc, gq, gw, gr, gl⟩, wr, pl, mi⟩ k y = ⟨di, st, q, s0, ⟨c, ⟨n, d, a, p, f⟩, l⟩, ⟨gc, gq, gw, gr, gl⟩, wr, pl, mi⟩ := by unfold gvR; rw [if_pos e, if_neg hs]
    rw [e, e1, e2]
  all_goals
    have hs : st = 3 := by simpa using h3
    rw [if_neg (by simpa using hs)] at hg0
  · have h6 : cvE ⟨c, ⟨n, d, a, p, f⟩, l⟩ k y ≠ 0 := by simpa using h4
    have e : gvE ⟨di, st, q, s0, ⟨c, ⟨n, d, a, p, f⟩, l⟩, ⟨gc, gq, gw, gr, gl⟩, wr, pl, mi⟩ k y = cvE ⟨c, ⟨n, d, a, p, f⟩, l⟩ k y := by rw [hg0, if_pos h6]
    have e0 : gvE ⟨di, st, q, s0, ⟨c, ⟨n, d, a, p, f⟩, l⟩, ⟨gc, gq, gw, gr, gl⟩, wr, pl, mi⟩ k y ≠ 0 := by rw [e]; exact h6
    rw [← e]
    simp [gvL, gvR, e0, sm0, rs0, rg0, LI_nil]
  all_goals
    have h6 : cvE ⟨c, ⟨n, d, a, p, f⟩, l⟩ k y = 0 := by simpa using h4
    rw [if_neg (by simpa using h6)] at hg0
  · have := cvO_len hl hy h6
    omega
  · have h7 : rwE ⟨gc, gq, gw, gr, gl⟩ (cvC ⟨c, ⟨n, d, a, p, f⟩, l⟩ k y) (cvO ⟨c, ⟨n, d, a, p, f⟩, l⟩ k y) ≠ 0 := by simpa using h5
    have e0 : gvE ⟨di, st, q, s0, ⟨c, ⟨n, d, a, p, f⟩, l⟩, ⟨gc, gq, gw, gr, gl⟩, wr, pl, mi⟩ k y ≠ 0 := by rw [hg0]; exact h7
    rw [← hg0]
    simp [gvL, gvR, e0, sm0, rs0, rg0, LI_nil]
  have hb : blkV k y = true := by
    simp only [Bool.or_eq_false_iff, Bool.not_eq_false'] at h
    exact h.2
  have h7 : rwE ⟨gc, gq, gw, gr, gl⟩ (cvC ⟨c, ⟨n, d, a, p, f⟩, l⟩ k y) (cvO ⟨c, ⟨n, d, a, p, f⟩, l⟩ k y) = 0 := by simpa using h5
  have e : gvE ⟨di, st, q, s0, ⟨c, ⟨n, d, a, p, f⟩, l⟩, ⟨gc, gq, gw, gr, gl⟩, wr, pl, mi⟩ k y = 0 := by rw [hg0]; exact h7
  have e1 : gvL ⟨di, st, q, s0, ⟨c, ⟨n, d, a, p, f⟩, l⟩, ⟨gc, gq, gw, gr, gl⟩, wr, pl, mi⟩ k y = rwL ⟨gc, gq, gw, gr, gl⟩ (cvC ⟨c, ⟨n, d, a, p, f⟩, l⟩ k y) (cvO ⟨c, ⟨n, d, a, p, f⟩, l⟩ k y) := if_pos ⟨e, hs⟩
  have e2 : gvR ⟨di, st, q, s0, ⟨c, ⟨n, d, a, p, f⟩, l⟩, ⟨gc, gq, gw, gr, gl⟩, wr, pl, mi⟩ k y = ⟨di, st, q, s0, cvR ⟨c, ⟨n, d, a, p, f⟩, l⟩ k y, rwR ⟨gc, gq, gw, gr, gl⟩ (cvC ⟨c, ⟨n, d, a, p, f⟩, l⟩ k y) (cvO ⟨c, ⟨n, d, a, p, f⟩, l⟩ k y), wr, IntKind.i64.wrap (pl + swN k y), IntKind.i64.wrap (mi + rwL ⟨gc, gq, gw, gr, gl⟩ (cvC ⟨c, ⟨n, d, a, p, f⟩, l⟩ k y) (cvO ⟨c, ⟨n, d, a, p, f⟩, l⟩ k y))⟩ := by
    unfold gvR
    rw [if_pos e, if_pos hs, e1]
  have e3 : swN k y = ((y.length / k.toNat : Nat) : Int) := rfl
  rw [if_pos hb, e, e1, e2, e3]
def E_rsgive : List V → Boxes → Toks → Name → Option Ent
  | [.agg [.d (.int .i64 di), .d (.int .i64 st), .d (.int .i64 q), .d (.int .i64 s0), .d (.int .i64 c), .d (.int .i64 n), .d (.int .i64 d), .d (.int .i64 a), .d (.int .i64 p), .d (.int .i64 f), .d (.list q_l), .d (.int .i64 gc), .d (.int .i64 gq), .d (.int .i64 gw), .d (.int .i64 gr), .d (.list q_gl), .d (.int .i64 wr), .d (.int .i64 pl), .d (.int .i64 mi)], .agg [.d (.int .i64 k), .d (.list q_y)]], [], [], _ => some ⟨(ints q_l).length ≤ 1000000 ∧ (ints q_gl).length ≤ 1000000 ∧ (ints q_y).length ≤ 1000000 ∧ q_l = LI .i32 (ints q_l) ∧ q_gl = LI .i32 (ints q_gl) ∧ q_y = LI .i32 (ints q_y), .tup [.int .i64 (gvL ⟨di, st, q, s0, ⟨c, ⟨n, d, a, p, f⟩, (ints q_l)⟩, ⟨gc, gq, gw, gr, (ints q_gl)⟩, wr, pl, mi⟩ k (ints q_y)), .agg (smD (gvR ⟨di, st, q, s0, ⟨c, ⟨n, d, a, p, f⟩, (ints q_l)⟩, ⟨gc, gq, gw, gr, (ints q_gl)⟩, wr, pl, mi⟩ k (ints q_y))), .int .i64 (gvE ⟨di, st, q, s0, ⟨c, ⟨n, d, a, p, f⟩, (ints q_l)⟩, ⟨gc, gq, gw, gr, (ints q_gl)⟩, wr, pl, mi⟩ k (ints q_y))], [], []⟩
  | _, _, _, _ => none
def E_rsgive_eq := And.intro (@E_rsgive.eq_1) (@E_rsgive.eq_1)
theorem E_rsgive_ok : Snd Tryz.prog 40 E_rsgive := by
  intro vs b k n e h hn hp
  unfold E_rsgive at h
  split at h
  · cases h; obtain ⟨hp0, hp1, hp2, hq0, hq1, hq2⟩ := hp; obtain ⟨_, rfl⟩ := LI_ex hq0; obtain ⟨_, rfl⟩ := LI_ex hq1; obtain ⟨_, rfl⟩ := LI_ex hq2; simp only [ints_LI, bys_LB, blks_LK, lls_LL] at hp0 hp1 hp2 ⊢; exact (spec_rsgive _ _ _ _ _ _ _ _ _ _ _ _ _ _ _ _ _ _ _ _ _ hp0 hp1 hp2).lift rfl _
  · cases h

theorem spec_rssame20 (di st q s0 c n d a p f : Int) (l : List Int) (gc gq gw gr : Int) (gl : List Int) (wr pl mi : Int) (di2 st2 q2 s02 c2 n2 d2 a2 p2 f2 : Int) (l2 : List Int) (gc2 gq2 gw2 gr2 : Int) (gl2 : List Int) (wr2 pl2 mi2 : Int) (hl : l.length ≤ 1000000000) (hg : gl.length ≤ 1000000000) : Spec Tryz.prog 0 23 [.agg (smC ⟨di, st, q, s0, ⟨c, ⟨n, d, a, p, f⟩, l⟩, ⟨gc, gq, gw, gr, gl⟩, wr, pl, mi⟩), .agg [.d (.int .i64 di2), .d (.int .i64 st2), .d (.int .i64 q2), .d (.int .i64 s02), .d (.int .i64 c2), .d (.int .i64 n2), .d (.int .i64 d2), .d (.int .i64 a2), .d (.int .i64 p2), .d (.int .i64 f2), .d (.list (LI .i32 l2)), .d (.int .i64 gc2), .d (.int .i64 gq2), .d (.int .i64 gw2), .d (.int .i64 gr2), .d (.list (LI .i32 gl2)), .d (.int .i64 wr2), .d (.int .i64 pl2), .d (.int .i64 mi2)]] [] [] (vB (di == di2 && st == st2 && q == q2 && s0 == s02 && wr == wr2 && pl == pl2 && mi == mi2 && (c == c2 && (n == n2 && (d == d2 && (a == a2 && (p == p2 && f == f2)))) && l == l2) && (gc == gc2 && gq == gq2 && gw == gw2 && gr == gr2 && gl == gl2))) [] [] := by
  refine spec_of_E (X := ⟨Tryz.prog, tt, Tryz.f23.ntmps, 1, fun _ => 0, (tab [(60, E_rssame), (52, E_rgsame)])⟩) (M := [(1, [0, 0, 0, 0, 0, 73786976294838205471, 0, 0, 0, 0, 0, 73786976294838140959, 0, 0, 0, 0, 0, 73786976294834143263, 0, 0, 0, 0, 0, 73786976294653657119, 0, 0, 0, 0, 0, 73786976288395755551, 0, 0, 0, 0, 0, 73786975470204485663, 0, 0, 0, 0, 0, 73786941110466117663, 0, 0, 0, 0, 0, 73782472695210835999, 0, 0, 0, 0, 0, 73498745918686494751, 0, 0, 0, 0, 0, 55916692973432078367, 0, 0])]) (m := 31) rfl rfl ⟨tt_ok, tab_ok (tabs_cons E_rssame_ok (tabs_cons E_rgsame_ok tabs_nil)) _ rfl rfl⟩ tt_mixed Tryz.func23 rfl (by decide) (by show (2 : Nat) ≤ _; exact Nat.le_of_ble_eq_true rfl) ⟨fun m hm => (V.bare_has rfl m hm).elim, by simp, by simp⟩ ?_
  simp only [↓gPre, gPost, gCore, gDef, Nat.reduceShiftRight, Nat.reduceMod, if_true, if_false, ↓reduceIte, reduceCtorEq, Nat.reduceEqDiff, Nat.reduceLT, Nat.reduceLeDiff, implies_true, forall_const, eq_self, ne_eq, not_true_eq_false, not_false_eq_true, imp_self, Nat.reduceAdd, Nat.reduceMul, Int.reduceLE, Int.reduceLT, Int.reduceNeg, Int.reduceAdd, Int.reduceToNat, E_rssame_eq, E_rgsame_eq, rg_eta, sm_eta, ph_eta, rs_eta, smD_eq, smC_eq, Tryz.ntmps23, Tryz.results23, gTT]
  exact ⟨fun _ => hl, fun _ => hg⟩
def E_rssame20 : List V → Boxes → Toks → Name → Option Ent
  | [.agg [.d (.int .i64 di), .d (.int .i64 st), .d (.int .i64 q), .d (.int .i64 s0), .d (.int .i64 c), .d (.int .i64 n), .d (.int .i64 d), .d (.int .i64 a), .d (.int .i64 p), .d (.int .i64 f), .d (.list q_l), .d (.int .i64 gc), .d (.int .i64 gq), .d (.int .i64 gw), .d (.int .i64 gr), .d (.list q_gl), .d (.int .i64 wr), .d (.int .i64 pl), .d (.int .i64 mi)], .agg [.d (.int .i64 di2), .d (.int .i64 st2), .d (.int .i64 q2), .d (.int .i64 s02), .d (.int .i64 c2), .d (.int .i64 n2), .d (.int .i64 d2), .d (.int .i64 a2), .d (.int .i64 p2), .d (.int .i64 f2), .d (.list q_l2), .d (.int .i64 gc2), .d (.int .i64 gq2), .d (.int .i64 gw2), .d (.int .i64 gr2), .d (.list q_gl2), .d (.int .i64 wr2), .d (.int .i64 pl2), .d (.int .i64 mi2)]], [], [], _ => some ⟨(ints q_l).length ≤ 1000000000 ∧ (ints q_gl).length ≤ 1000000000 ∧ q_l = LI .i32 (ints q_l) ∧ q_gl = LI .i32 (ints q_gl) ∧ q_l2 = LI .i32 (ints q_l2) ∧ q_gl2 = LI .i32 (ints q_gl2), vB (di == di2 && st == st2 && q == q2 && s0 == s02 && wr == wr2 && pl == pl2 && mi == mi2 && (c == c2 && (n == n2 && (d == d2 && (a == a2 && (p == p2 && f == f2)))) && (ints q_l) == (ints q_l2)) && (gc == gc2 && gq == gq2 && gw == gw2 && gr == gr2 && (ints q_gl) == (ints q_gl2))), [], []⟩
  | _, _, _, _ => none
def E_rssame20_eq := And.intro (@E_rssame20.eq_1) (@E_rssame20.eq_1)
theorem E_rssame20_ok : Snd Tryz.prog 23 E_rssame20 := by
  intro vs b k n e h hn hp
  unfold E_rssame20 at h
  split at h
  · cases h; obtain ⟨hp0, hp1, hq0, hq1, hq2, hq3⟩ := hp; obtain ⟨_, rfl⟩ := LI_ex hq0; obtain ⟨_, rfl⟩ := LI_ex hq1; obtain ⟨_, rfl⟩ := LI_ex hq2; obtain ⟨_, rfl⟩ := LI_ex hq3; simp only [ints_LI, bys_LB, blks_LK, lls_LL] at hp0 hp1 ⊢; exact (spec_rssame20 _ _ _ _ _ _ _ _ _ _ _ _ _ _ _ _ _ _ _ _ _ _ _ _ _ _ _ _ _ _ _ _ _ _ _ _ _ _ hp0 hp1).lift rfl _
  · cases h

theorem spec_keepst (di st q s0 c n d a p f : Int) (l : List Int) (gc gq gw gr : Int) (gl : List Int) (wr pl mi : Int) (m : Int) : Spec Tryz.prog 0 10 [.agg (smC ⟨di, st, q, s0, ⟨c, ⟨n, d, a, p, f⟩, l⟩, ⟨gc, gq, gw, gr, gl⟩, wr, pl, mi⟩), vI .i64 m] [] [] (vB (decide ((l.length : Int) ≤ m) && decide ((gl.length : Int) ≤ m))) [] [] := by
  refine spec_of_E (X := ⟨Tryz.prog, tt, Tryz.f10.ntmps, 1, fun _ => 0, (tab [])⟩) (M := [(1, [0, 0, 0, 0, 0, 523287, 0, 0, 0, 0, 0, 493591, 0, 0, 0])]) (m := 23) rfl rfl ⟨tt_ok, tab_ok tabs_nil _ rfl rfl⟩ tt_mixed Tryz.func10 rfl (by decide) (by show (2 : Nat) ≤ _; exact Nat.le_of_ble_eq_true rfl) ⟨fun m hm => (V.bare_has rfl m hm).elim, by simp, by simp⟩ ?_
  simp only [↓gPre, gPost, gCore, gDef, Nat.reduceShiftRight, Nat.reduceMod, if_true, if_false, ↓reduceIte, reduceCtorEq, Nat.reduceEqDiff, Nat.reduceLT, Nat.reduceLeDiff, implies_true, forall_const, eq_self, ne_eq, not_true_eq_false, not_false_eq_true, imp_self, Nat.reduceAdd, Nat.reduceMul, Int.reduceLE, Int.reduceLT, Int.reduceNeg, Int.reduceAdd, Int.reduceToNat, rg_eta, sm_eta, ph_eta, rs_eta, smD_eq, smC_eq, Tryz.ntmps10, Tryz.results10, gTT]

def E_keepst : List V → Boxes → Toks → Name → Option Ent
  | [.agg [.d (.int .i64 di), .d (.int .i64 st), .d (.int .i64 q), .d (.int .i64 s0), .d (.int .i64 c), .d (.int .i64 n), .d (.int .i64 d), .d (.int .i64 a), .d (.int .i64 p), .d (.int .i64 f), .d (.list q_l), .d (.int .i64 gc), .d (.int .i64 gq), .d (.int .i64 gw), .d (.int .i64 gr), .d (.list q_gl), .d (.int .i64 wr), .d (.int .i64 pl), .d (.int .i64 mi)], .c (.d (.int .i64 m))], [], [], _ => some ⟨q_l = LI .i32 (ints q_l) ∧ q_gl = LI .i32 (ints q_gl), vB (decide (((ints q_l).length : Int) ≤ m) && decide (((ints q_gl).length : Int) ≤ m)), [], []⟩
  | _, _, _, _ => none
def E_keepst_eq := And.intro (@E_keepst.eq_1) (@E_keepst.eq_1)
theorem E_keepst_ok : Snd Tryz.prog 10 E_keepst := by
  intro vs b k n e h hn hp
  unfold E_keepst at h
  split at h
  · cases h; obtain ⟨hq0, hq1⟩ := hp; obtain ⟨_, rfl⟩ := LI_ex hq0; obtain ⟨_, rfl⟩ := LI_ex hq1; simp only [ints_LI, bys_LB, blks_LK, lls_LL]; exact (spec_keepst _ _ _ _ _ _ _ _ _ _ _ _ _ _ _ _ _ _ _ _).lift rfl _
  · cases h

end Go.Vam
