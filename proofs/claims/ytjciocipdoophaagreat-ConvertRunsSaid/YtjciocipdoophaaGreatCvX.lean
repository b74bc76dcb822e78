/- The reference of converters: Run, Finish. Conditions: none. -/
import Derived.Test.YtjciocipdoophaaGreatCvP
set_option linter.unusedVariables false
set_option linter.defProp false
set_option linter.unusedSimpArgs false
set_option maxRecDepth 40000
set_option maxHeartbeats 4000000
namespace Go.Vam
open Go.Proofs

theorem spec_rcrun (fk fr : Int) (fm : List Int) (tk tr : Int) (tm : List Int) (mi mo : Int) (mc : List Int) (c n d a p f : Int) (l : List Int) (y : List UInt8) (hfm : fm.length ≤ 1000000) (htm : tm.length ≤ 1000000) (hmc : mc.length ≤ 1000000) (hl : l.length ≤ 1000000) (hy : y.length ≤ 1000000) : Spec Tryz.prog 0 11 [.agg (cvtC ⟨⟨fk, fr, fm⟩, ⟨tk, tr, tm⟩, mi, mo, mc, ⟨c, ⟨n, d, a, p, f⟩, l⟩⟩), vL (LB y)] [] [] (.tup [.list (LB (ruO ⟨⟨fk, fr, fm⟩, ⟨tk, tr, tm⟩, mi, mo, mc, ⟨c, ⟨n, d, a, p, f⟩, l⟩⟩ y)), .agg (cvtD (ruR ⟨⟨fk, fr, fm⟩, ⟨tk, tr, tm⟩, mi, mo, mc, ⟨c, ⟨n, d, a, p, f⟩, l⟩⟩ y)), .int .i64 (ruE ⟨⟨fk, fr, fm⟩, ⟨tk, tr, tm⟩, mi, mo, mc, ⟨c, ⟨n, d, a, p, f⟩, l⟩⟩ y)]) [] [] := by
  refine spec_of_E (X := ⟨Tryz.prog, tt, Tryz.f11.ntmps, 1, fun _ => 0, (tab [(34, E_rcvvalid), (28, E_rfsize), (35, E_rdecode), (36, E_rmapply), (37, E_rconvert), (38, E_rencode)])⟩) (M := [(9, [0, 0, 0, 0, 0, 36964507819929302519, 0, 0, 0, 0, 0, 36947531360396441079, 0, 0, 0]), (10, [0, 0, 0, 0, 0, 53106446823401780727, 0, 0, 0, 0, 0, 46116860201722770935, 0])]) (m := 36893488164867995127) rfl rfl ⟨tt_ok, tab_ok (tabs_cons E_rcvvalid_ok (tabs_cons E_rfsize_ok (tabs_cons E_rdecode_ok (tabs_cons E_rmapply_ok (tabs_cons E_rconvert_ok (tabs_cons E_rencode_ok tabs_nil)))))) _ rfl rfl⟩ tt_mixed Tryz.func11 rfl (by decide) (by show (2 : Nat) ≤ _; exact Nat.le_of_ble_eq_true rfl) ⟨fun m hm => (V.bare_has rfl m hm).elim, by simp, by simp⟩ ?_
  simp only [↓gPre, gPost, gCore, gDef, Nat.reduceShiftRight, Nat.reduceMod, if_true, if_false, ↓reduceIte, reduceCtorEq, Nat.reduceEqDiff, Nat.reduceLT, Nat.reduceLeDiff, implies_true, forall_const, eq_self, ne_eq, not_true_eq_false, not_false_eq_true, imp_self, Nat.reduceAdd, Nat.reduceMul, Int.reduceLE, Int.reduceLT, Int.reduceNeg, Int.reduceAdd, Int.reduceToNat, E_rcvvalid_eq, E_rfsize_eq, E_rdecode_eq, E_rmapply_eq, E_rconvert_eq, E_rencode_eq, ph_eta, rs_eta, fm_eta, cv_eta, cvtD_eq, cvtC_eq, Tryz.ntmps11, Tryz.results11, gTT]
  refine ⟨⟨hfm, htm, hmc, hl⟩, fun h => ?_, fun h => ?_⟩
  · have e : ruE ⟨⟨fk, fr, fm⟩, ⟨tk, tr, tm⟩, mi, mo, mc, ⟨c, ⟨n, d, a, p, f⟩, l⟩⟩ y = 1 := by unfold ruE; rw [if_pos h]
    simp [ruO, ruR, e, cv0, rs0, LI_nil, LB_nil]
  have hv : cvV ⟨⟨fk, fr, fm⟩, ⟨tk, tr, tm⟩, mi, mo, mc, ⟨c, ⟨n, d, a, p, f⟩, l⟩⟩ = true := by simpa using h
  obtain ⟨c1, c2, c3, c4, c5, c6, c7, c8⟩ := cv_is hv
  simp only at c1 c2 c3 c4 c5 c6 c7 c8
  obtain ⟨z1, z2, z3⟩ := fz_eq c1
  rw [z1, tdivN _ (by omega), tmodN _ (by omega), Int.toNat_natCast]
  have hqb : y.length / fz ⟨fk, fr, fm⟩ ≤ y.length := Nat.div_le_self ..
  have hqw : IntKind.i64.wrap ((y.length / fz ⟨fk, fr, fm⟩ : Nat) : Int) = ((y.length / fz ⟨fk, fr, fm⟩ : Nat) : Int) := by
    generalize y.length / fz ⟨fk, fr, fm⟩ = q at *
    exact IntWalk.i64_in _ (by omega)
  rw [hqw]
  have zm : (y.length : Int).tmod (fmZ ⟨fk, fr, fm⟩) = ((y.length % fz ⟨fk, fr, fm⟩ : Nat) : Int) := by rw [z1, tmodN _ (by omega), Int.toNat_natCast]
  have zd : (y.length : Int).tdiv (fmZ ⟨fk, fr, fm⟩) = ((y.length / fz ⟨fk, fr, fm⟩ : Nat) : Int) := by rw [z1, tdivN _ (by omega), Int.toNat_natCast]
  refine ⟨hfm, by omega, fun h2 => ?_, fun h2 => ⟨by omega, fun h3 => ?_, fun h3 => ?_⟩⟩
  · have e : ruE ⟨⟨fk, fr, fm⟩, ⟨tk, tr, tm⟩, mi, mo, mc, ⟨c, ⟨n, d, a, p, f⟩, l⟩⟩ y = 4 := by
      unfold ruE
      rw [if_neg (by rw [hv]; decide), if_pos]
      show (y.length : Int).tmod (fmZ ⟨fk, fr, fm⟩) ≠ 0
      rw [zm]
      simpa using h2
    simp [ruO, ruR, e, cv0, rs0, LI_nil, LB_nil]
  all_goals
    have k2 : y.length % fz ⟨fk, fr, fm⟩ = 0 := by
      have h9 : ((y.length % fz ⟨fk, fr, fm⟩ : Nat) : Int) = 0 := by simpa using h2
      exact Int.ofNat_eq_zero.1 h9
  · have e : ruE ⟨⟨fk, fr, fm⟩, ⟨tk, tr, tm⟩, mi, mo, mc, ⟨c, ⟨n, d, a, p, f⟩, l⟩⟩ y = 3 := by
      unfold ruE
      rw [if_neg (by rw [hv]; decide), if_neg, if_pos]
      · show 65536 < (y.length : Int).tdiv (fmZ ⟨fk, fr, fm⟩)
        rw [zd]
        exact of_decide_eq_true h3
      · show ¬ (y.length : Int).tmod (fmZ ⟨fk, fr, fm⟩) ≠ 0
        rw [zm, k2]
        decide
    simp [ruO, ruR, e, cv0, rs0, LI_nil, LB_nil]
  have k3 : y.length / fz ⟨fk, fr, fm⟩ ≤ 65536 := by have := of_decide_eq_false h3; omega
  obtain ⟨r1, r2, r3, r4, r5⟩ := run_facts (x := ⟨⟨fk, fr, fm⟩, ⟨tk, tr, tm⟩, mi, mo, mc, ⟨c, ⟨n, d, a, p, f⟩, l⟩⟩) (b := y) hv hl hy k2 k3
  have e : ruE ⟨⟨fk, fr, fm⟩, ⟨tk, tr, tm⟩, mi, mo, mc, ⟨c, ⟨n, d, a, p, f⟩, l⟩⟩ y = cvE ⟨c, ⟨n, d, a, p, f⟩, l⟩ mo (cvA ⟨⟨fk, fr, fm⟩, ⟨tk, tr, tm⟩, mi, mo, mc, ⟨c, ⟨n, d, a, p, f⟩, l⟩⟩ y) := by
    unfold ruE
    rw [if_neg (by rw [hv]; decide), if_neg, if_neg]
    · show ¬ 65536 < (y.length : Int).tdiv (fmZ ⟨fk, fr, fm⟩)
      rw [zd]; omega
    · show ¬ (y.length : Int).tmod (fmZ ⟨fk, fr, fm⟩) ≠ 0
      rw [zm, k2]; decide
  simp only at r1 r2 r3 r4 r5
  have r6 : apC mi mo mc (fm.length : Int) (decO fk y) = mo := by unfold apC; rw [if_pos r2]
  have rA : apO mi mo mc (fm.length : Int) (decO fk y) = cvA ⟨⟨fk, fr, fm⟩, ⟨tk, tr, tm⟩, mi, mo, mc, ⟨c, ⟨n, d, a, p, f⟩, l⟩⟩ y := rfl
  rw [r6, rA, ← e]
  refine ⟨hy, ⟨hmc, by omega⟩, ⟨hl, r4⟩, fun h6 => ?_, fun h6 => ?_⟩
  · have hne : ruE ⟨⟨fk, fr, fm⟩, ⟨tk, tr, tm⟩, mi, mo, mc, ⟨c, ⟨n, d, a, p, f⟩, l⟩⟩ y ≠ 0 := by simpa using h6
    simp [ruO, ruR, hne, cv0, rs0, LI_nil, LB_nil]
  · have hz : ruE ⟨⟨fk, fr, fm⟩, ⟨tk, tr, tm⟩, mi, mo, mc, ⟨c, ⟨n, d, a, p, f⟩, l⟩⟩ y = 0 := by simpa using h6
    obtain ⟨r7, r8⟩ := r5 (by rw [← e]; exact hz)
    refine ⟨by omega, by kernel_rfl, ?_⟩
    simp [ruO, ruR, hz]
def E_rcrun : List V → Boxes → Toks → Name → Option Ent
  | [.agg [.d (.int .i64 fk), .d (.int .i64 fr), .d (.list q_fm), .d (.int .i64 tk), .d (.int .i64 tr), .d (.list q_tm), .d (.int .i64 mi), .d (.int .i64 mo), .d (.list q_mc), .d (.int .i64 c), .d (.int .i64 n), .d (.int .i64 d), .d (.int .i64 a), .d (.int .i64 p), .d (.int .i64 f), .d (.list q_l)], .c (.d (.list q_y))], [], [], _ => some ⟨(ints q_fm).length ≤ 1000000 ∧ (ints q_tm).length ≤ 1000000 ∧ (ints q_mc).length ≤ 1000000 ∧ (ints q_l).length ≤ 1000000 ∧ (bys q_y).length ≤ 1000000 ∧ q_fm = LI .i64 (ints q_fm) ∧ q_tm = LI .i64 (ints q_tm) ∧ q_mc = LI .i64 (ints q_mc) ∧ q_l = LI .i32 (ints q_l) ∧ q_y = LB (bys q_y), .tup [.list (LB (ruO ⟨⟨fk, fr, (ints q_fm)⟩, ⟨tk, tr, (ints q_tm)⟩, mi, mo, (ints q_mc), ⟨c, ⟨n, d, a, p, f⟩, (ints q_l)⟩⟩ (bys q_y))), .agg (cvtD (ruR ⟨⟨fk, fr, (ints q_fm)⟩, ⟨tk, tr, (ints q_tm)⟩, mi, mo, (ints q_mc), ⟨c, ⟨n, d, a, p, f⟩, (ints q_l)⟩⟩ (bys q_y))), .int .i64 (ruE ⟨⟨fk, fr, (ints q_fm)⟩, ⟨tk, tr, (ints q_tm)⟩, mi, mo, (ints q_mc), ⟨c, ⟨n, d, a, p, f⟩, (ints q_l)⟩⟩ (bys q_y))], [], []⟩
  | _, _, _, _ => none
def E_rcrun_eq := And.intro (@E_rcrun.eq_1) (@E_rcrun.eq_1)
theorem E_rcrun_ok : Snd Tryz.prog 11 E_rcrun := by
  intro vs b k n e h hn hp
  unfold E_rcrun at h
  split at h
  · cases h; obtain ⟨hp0, hp1, hp2, hp3, hp4, hq0, hq1, hq2, hq3, hq4⟩ := hp; obtain ⟨_, rfl⟩ := LI_ex hq0; obtain ⟨_, rfl⟩ := LI_ex hq1; obtain ⟨_, rfl⟩ := LI_ex hq2; obtain ⟨_, rfl⟩ := LI_ex hq3; obtain ⟨_, rfl⟩ := LB_ex hq4; simp only [ints_LI, bys_LB, blks_LK, lls_LL] at hp0 hp1 hp2 hp3 hp4 ⊢; exact (spec_rcrun _ _ _ _ _ _ _ _ _ _ _ _ _ _ _ _ _ hp0 hp1 hp2 hp3 hp4).lift rfl _
  · cases h

theorem spec_rcfinish (fk fr : Int) (fm : List Int) (tk tr : Int) (tm : List Int) (mi mo : Int) (mc : List Int) (c n d a p f : Int) (l : List Int) (hfm : fm.length ≤ 1000000) (htm : tm.length ≤ 1000000) (hmc : mc.length ≤ 1000000) (hl : l.length ≤ 1000000) : Spec Tryz.prog 0 14 [.agg (cvtC ⟨⟨fk, fr, fm⟩, ⟨tk, tr, tm⟩, mi, mo, mc, ⟨c, ⟨n, d, a, p, f⟩, l⟩⟩)] [] [] (.tup [.list (LB (fnO ⟨⟨fk, fr, fm⟩, ⟨tk, tr, tm⟩, mi, mo, mc, ⟨c, ⟨n, d, a, p, f⟩, l⟩⟩)), .int .i64 (fnE ⟨⟨fk, fr, fm⟩, ⟨tk, tr, tm⟩, mi, mo, mc, ⟨c, ⟨n, d, a, p, f⟩, l⟩⟩)]) [] [] := by
  refine spec_of_E (X := ⟨Tryz.prog, tt, Tryz.f14.ntmps, 1, fun _ => 0, (tab [(34, E_rcvvalid), (44, E_rfinish), (38, E_rencode)])⟩) (M := [(3, [0, 0, 0, 0, 0, 1513727, 0, 0, 0, 0, 0, 0])]) (m := 1050847) rfl rfl ⟨tt_ok, tab_ok (tabs_cons E_rcvvalid_ok (tabs_cons E_rfinish_ok (tabs_cons E_rencode_ok tabs_nil))) _ rfl rfl⟩ tt_mixed Tryz.func14 rfl (by decide) (by show (1 : Nat) ≤ _; exact Nat.le_of_ble_eq_true rfl) ⟨fun m hm => (V.bare_has rfl m hm).elim, by simp, by simp⟩ ?_
  simp only [↓gPre, gPost, gCore, gDef, Nat.reduceShiftRight, Nat.reduceMod, if_true, if_false, ↓reduceIte, reduceCtorEq, Nat.reduceEqDiff, Nat.reduceLT, Nat.reduceLeDiff, implies_true, forall_const, eq_self, ne_eq, not_true_eq_false, not_false_eq_true, imp_self, Nat.reduceAdd, Nat.reduceMul, Int.reduceLE, Int.reduceLT, Int.reduceNeg, Int.reduceAdd, Int.reduceToNat, E_rcvvalid_eq, E_rfinish_eq, E_rencode_eq, ph_eta, rs_eta, fm_eta, cv_eta, cvtD_eq, cvtC_eq, Tryz.ntmps14, Tryz.results14, gTT]
  refine ⟨⟨hfm, htm, hmc, hl⟩, fun h => by simp [fnE, fnO, h, LB_nil], fun h => ?_⟩
  have hv : cvV ⟨⟨fk, fr, fm⟩, ⟨tk, tr, tm⟩, mi, mo, mc, ⟨c, ⟨n, d, a, p, f⟩, l⟩⟩ = true := by simpa using h
  have hc := cv_in hv
  simp only at hc
  have e : fnE ⟨⟨fk, fr, fm⟩, ⟨tk, tr, tm⟩, mi, mo, mc, ⟨c, ⟨n, d, a, p, f⟩, l⟩⟩ = fiE ⟨c, ⟨n, d, a, p, f⟩, l⟩ 65536 := by unfold fnE; rw [if_neg (by rw [hv]; decide)]
  refine ⟨hl, fun h2 => ?_, fun h2 => ?_⟩
  · have h3 : fiE ⟨c, ⟨n, d, a, p, f⟩, l⟩ 65536 ≠ 0 := by simpa using h2
    have h4 : fnE ⟨⟨fk, fr, fm⟩, ⟨tk, tr, tm⟩, mi, mo, mc, ⟨c, ⟨n, d, a, p, f⟩, l⟩⟩ ≠ 0 := by rw [e]; exact h3
    simp [fnO, e, h3, LB_nil]
  have h3 : fiE ⟨c, ⟨n, d, a, p, f⟩, l⟩ 65536 = 0 := by simpa using h2
  have h4 := fi_enc hc.2.2.2.2.2.2.1 hl h3
  refine ⟨by omega, ?_⟩
  simp [fnO, e, h3]
def E_rcfinish : List V → Boxes → Toks → Name → Option Ent
  | [.agg [.d (.int .i64 fk), .d (.int .i64 fr), .d (.list q_fm), .d (.int .i64 tk), .d (.int .i64 tr), .d (.list q_tm), .d (.int .i64 mi), .d (.int .i64 mo), .d (.list q_mc), .d (.int .i64 c), .d (.int .i64 n), .d (.int .i64 d), .d (.int .i64 a), .d (.int .i64 p), .d (.int .i64 f), .d (.list q_l)]], [], [], _ => some ⟨(ints q_fm).length ≤ 1000000 ∧ (ints q_tm).length ≤ 1000000 ∧ (ints q_mc).length ≤ 1000000 ∧ (ints q_l).length ≤ 1000000 ∧ q_fm = LI .i64 (ints q_fm) ∧ q_tm = LI .i64 (ints q_tm) ∧ q_mc = LI .i64 (ints q_mc) ∧ q_l = LI .i32 (ints q_l), .tup [.list (LB (fnO ⟨⟨fk, fr, (ints q_fm)⟩, ⟨tk, tr, (ints q_tm)⟩, mi, mo, (ints q_mc), ⟨c, ⟨n, d, a, p, f⟩, (ints q_l)⟩⟩)), .int .i64 (fnE ⟨⟨fk, fr, (ints q_fm)⟩, ⟨tk, tr, (ints q_tm)⟩, mi, mo, (ints q_mc), ⟨c, ⟨n, d, a, p, f⟩, (ints q_l)⟩⟩)], [], []⟩
  | _, _, _, _ => none
def E_rcfinish_eq := And.intro (@E_rcfinish.eq_1) (@E_rcfinish.eq_1)
theorem E_rcfinish_ok : Snd Tryz.prog 14 E_rcfinish := by
  intro vs b k n e h hn hp
  unfold E_rcfinish at h
  split at h
  · cases h; obtain ⟨hp0, hp1, hp2, hp3, hq0, hq1, hq2, hq3⟩ := hp; obtain ⟨_, rfl⟩ := LI_ex hq0; obtain ⟨_, rfl⟩ := LI_ex hq1; obtain ⟨_, rfl⟩ := LI_ex hq2; obtain ⟨_, rfl⟩ := LI_ex hq3; simp only [ints_LI, bys_LB, blks_LK, lls_LL] at hp0 hp1 hp2 hp3 ⊢; exact (spec_rcfinish _ _ _ _ _ _ _ _ _ _ _ _ _ _ _ _ hp0 hp1 hp2 hp3).lift rfl _
  · cases h

def smallC (x : Cv) : Prop := x.f.m.length ≤ 1000000 ∧ x.t.m.length ≤ 1000000 ∧ x.mc.length ≤ 1000000 ∧ x.r.l.length ≤ 1000000
theorem ru_keep {x : Cv} {b : List UInt8} (h : smallC x) (hb : b.length ≤ 1000000) (he : ruE x b = 0) : smallC (ruR x b) := by
  obtain ⟨h1, h2, h3, h4⟩ := h
  have hv : cvV x = true := by
    cases hv : cvV x with
    | true => rfl
    | false => unfold ruE at he; rw [if_pos hv] at he; cases he
  obtain ⟨c1, _⟩ := cv_is hv
  obtain ⟨z1, z2, z3⟩ := fz_eq c1
  have zm : (b.length : Int).tmod (fmZ x.f) = ((b.length % fz x.f : Nat) : Int) := by rw [z1, tmodN _ (by omega), Int.toNat_natCast]
  have zd : (b.length : Int).tdiv (fmZ x.f) = ((b.length / fz x.f : Nat) : Int) := by rw [z1, tdivN _ (by omega), Int.toNat_natCast]
  have he2 := he
  unfold ruE at he2
  rw [if_neg (by rw [hv]; decide), zm, zd] at he2
  split at he2
  · cases he2
  · rename_i k2
    split at he2
    · cases he2
    · rename_i k3
      have k2' : b.length % fz x.f = 0 := by
        have : ((b.length % fz x.f : Nat) : Int) = 0 := Classical.byContradiction k2
        exact Int.ofNat_eq_zero.1 this
      have k3' : b.length / fz x.f ≤ 65536 := by
        generalize b.length / fz x.f = q at *
        omega
      obtain ⟨_, _, _, r4, _⟩ := run_facts hv h4 hb k2' k3'
      have hr : rsV x.r = true := (cv_is hv).2.2.2.2.2.1
      have hc := (cv_ok (ch := x.r.c) ⟨hr, rfl, rs_len hr h4⟩ r4 he2).len
      unfold ruR
      rw [if_pos he]
      exact ⟨h1, h2, h3, by show (cvR x.r x.mo (cvA x b)).l.length ≤ _; omega⟩
theorem ru_keep2 {x : Cv} {b : List UInt8} (h : smallC x) (hb : b.length ≤ 1000000) : smallC (ruR x b) := by
  by_cases he : ruE x b = 0
  · exact ru_keep h hb he
  · unfold ruR
    rw [if_neg he]
    exact ⟨Nat.zero_le _, Nat.zero_le _, Nat.zero_le _, Nat.zero_le _⟩
def rsS (c : Cv) (b : List UInt8) : Cv := if ruE c b = 0 then ruR c b else c
theorem rsS_keep {x : Cv} {b : List UInt8} (h : smallC x) (hb : b.length ≤ 1000000) : smallC (rsS x b) := by
  unfold rsS
  split
  · rename_i he; exact ru_keep h hb he
  · exact h
theorem rsS_ok {x : Cv} {b : List UInt8} (h : ruE x b = 0) : rsS x b = ruR x b := if_pos h
theorem rsS_no {x : Cv} {b : List UInt8} (h : ruE x b ≠ 0) : rsS x b = x := if_neg h
def rsQ (c : Cv) (b0 b1 b2 : List UInt8) (g : Nat) : Cv := match g with
  | 0 => c
  | 1 => rsS c b0
  | 2 => rsS (rsS c b0) b1
  | _ => rsS (rsS (rsS c b0) b1) b2


end Go.Vam
