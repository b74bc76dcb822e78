/- The steps of a run; Finish. Conditions: none. -/
import Derived.Test.YtjciocipdoophaaGreatCvK
set_option linter.unusedVariables false
set_option linter.defProp false
set_option linter.unusedSimpArgs false
set_option maxRecDepth 40000
set_option maxHeartbeats 4000000
namespace Go.Vam
open Go.Proofs

theorem outO_all {x : Rs} (h : phV x.p = true) (ha : x.l.all smpX = true) : ∀ n : Nat, n ≤ 65536 → (outO x n).all smpX = true
  | 0, _ => rfl
  | n + 1, hn => by
    have e : outO x (n + 1) = outO x n ++ outF x n x.c.toNat := rfl
    rw [e, List.all_append, outO_all h ha n (by omega), Bool.true_and, List.all_eq_true]
    intro z hz
    unfold outF at hz
    rw [List.mem_map] at hz
    obtain ⟨j, _, rfl⟩ := hz
    have hp := prt_in h
    have hq := qAt_in h (n := (n : Int)) (by omega)
    have := btw_in (a := gx x (qN x.p n) j) (b := gx x (qN x.p n + 1) j) (f := fAt x.p n) (P := prt x.p) (by omega) ⟨hq.2.1, hq.2.2.1⟩ (smp_get ha _) (smp_get ha _)
    simp only [smpX, Bool.and_eq_true, decide_eq_true_eq]
    exact this

def cvA (x : Cv) (b : List UInt8) : List Int := apO x.mi x.mo x.mc x.f.m.length (decO x.f.k b)
def ruE (x : Cv) (b : List UInt8) : Int := if cvV x = false then 1 else if (b.length : Int).tmod (fmZ x.f) ≠ 0 then 4 else if 65536 < (b.length : Int).tdiv (fmZ x.f) then 3 else cvE x.r x.mo (cvA x b)
def ruO (x : Cv) (b : List UInt8) : List UInt8 := if ruE x b = 0 then encO x.t.k (cvO x.r x.mo (cvA x b)) else []
def ruR (x : Cv) (b : List UInt8) : Cv := if ruE x b = 0 then ⟨x.f, x.t, x.mi, x.mo, x.mc, cvR x.r x.mo (cvA x b)⟩ else cv0
def fnE (x : Cv) : Int := if cvV x = false then 1 else fiE x.r 65536
def fnO (x : Cv) : List UInt8 := if fnE x = 0 then encO x.t.k (fiO x.r 65536) else []


theorem cv_in {x : Cv} (h : cvV x = true) : fmV x.f = true ∧ fmV x.t = true ∧ cnE x.f x.t = 0 ∧ x.mi = (cnR x.f x.t).mi ∧ x.mo = (cnR x.f x.t).mo ∧ x.mc = (cnR x.f x.t).mc ∧ rsV x.r = true ∧ x.r.c = (cnR x.f x.t).r.c ∧ x.r.p.n = (cnR x.f x.t).r.p.n ∧ x.r.p.d = (cnR x.f x.t).r.p.d := by
  simp only [cvV, Bool.and_eq_true, beq_iff_eq] at h
  obtain ⟨⟨⟨⟨⟨⟨h1, h2⟩, h3⟩, h4⟩, h5⟩, h6⟩, h7, h8⟩ := h
  have h9 : fmV x.f = true ∧ fmV x.t = true := by
    unfold cnE at h1
    split at h1
    · rename_i h; rw [Bool.and_eq_true] at h; exact h
    · cases h1
  exact ⟨h9.1, h9.2, h1, h2, h3, h4, h5, h6, h7, h8⟩
theorem enc_ok {k : Int} {l : List Int} (hk : 1 ≤ szK k) (hl : l.length ≤ 524288) (ha : l.all smpX = true) : encE k l = 0 := by
  unfold encE
  rw [if_neg (by omega), if_neg (by omega), if_pos ha]
theorem fi_enc {x : Rs} (hv : rsV x = true) (hl : x.l.length ≤ 1000000) (h : fiE x 65536 = 0) : (fiO x 65536).length ≤ 524288 ∧ (fiO x 65536).all smpX = true := by
  have hc := cnt_in hv hl (n := 65536) (by decide)
  obtain ⟨⟨k1, k2⟩, k3, k4, k5⟩ := blk_in (rsV_in hv).2 hl
  have e : fiO x 65536 = outO x (cnt x 65536).toNat := if_pos h
  rw [e, outO_len]
  exact ⟨Nat.mul_le_mul (show _ ≤ 65536 by omega) (show x.c.toNat ≤ 8 by omega), outO_all (rsV_in hv).1 k5 _ (by omega)⟩


theorem spec_gdecode (fk fr : Int) (fm : List Int) (tk tr : Int) (tm : List Int) (mi mo : Int) (mc : List Int) (c n d a p f : Int) (l : List Int) (y : List UInt8) (bc : Int) (bd : List Int) (hfm : fm.length ≤ 1000000) (htm : tm.length ≤ 1000000) (hmc : mc.length ≤ 1000000) (hl : l.length ≤ 1000000) (hy : y.length ≤ 1000000) (hbd : bd.length ≤ 1000000) : Spec Tryz.prog 0 30 [.c (.lp ⟨0, 0⟩ 0)] [(⟨0, 0⟩, [.d (.int .i64 fk), .d (.int .i64 fr), .d (.list (LI .i64 fm)), .d (.int .i64 tk), .d (.int .i64 tr), .d (.list (LI .i64 tm)), .d (.int .i64 mi), .d (.int .i64 mo), .d (.list (LI .i64 mc)), .d (.int .i64 c), .d (.int .i64 n), .d (.int .i64 d), .d (.int .i64 a), .d (.int .i64 p), .d (.int .i64 f), .d (.list (LI .i32 l)), .d (.list (LB y)), .d (.int .i64 bc), .d (.list (LI .i32 bd))])] [] (vI .i64 (decE fk y.length)) [(⟨0, 0⟩, [.d (.int .i64 fk), .d (.int .i64 fr), .d (.list (LI .i64 fm)), .d (.int .i64 tk), .d (.int .i64 tr), .d (.list (LI .i64 tm)), .d (.int .i64 mi), .d (.int .i64 mo), .d (.list (LI .i64 mc)), .d (.int .i64 c), .d (.int .i64 n), .d (.int .i64 d), .d (.int .i64 a), .d (.int .i64 p), .d (.int .i64 f), .d (.list (LI .i32 l)), .d (.list (LB y)), .d (.int .i64 (fm.length : Int)), .d (.list (LI .i32 (decO fk y)))])] [] := by
  refine spec_of_E (X := ⟨Tryz.prog, tt, Tryz.f30.ntmps, 1, fun _ => 0, (tab [(64, E_decode)])⟩) (M := [(1, [0, 0, 0, 0, 0, 522301, 0, 0, 0, 0, 0, 393277, 0, 0, 0, 0]), (2, [0, 0, 0, 0, 0, 2131230749, 0, 0, 0, 0, 0, 1342177309, 0])]) (m := 29) rfl rfl ⟨tt_ok, tab_ok (tabs_cons E_decode_ok tabs_nil) _ rfl rfl⟩ tt_mixed Tryz.func30 rfl (by decide) (by show (1 : Nat) ≤ _; exact Nat.le_of_ble_eq_true rfl) ⟨by simp [V.has, C.has, cvtC_eq], by simp [C.has], by simp⟩ ?_
  simp only [↓gPre, gPost, gCore, gDef, Nat.reduceShiftRight, Nat.reduceMod, if_true, if_false, ↓reduceIte, reduceCtorEq, Nat.reduceEqDiff, Nat.reduceLT, Nat.reduceLeDiff, implies_true, forall_const, eq_self, ne_eq, not_true_eq_false, not_false_eq_true, imp_self, Nat.reduceAdd, Nat.reduceMul, Int.reduceLE, Int.reduceLT, Int.reduceNeg, Int.reduceAdd, Int.reduceToNat, E_decode_eq, ph_eta, rs_eta, fm_eta, cv_eta, cvtD_eq, cvtC_eq, Tryz.ntmps30, Tryz.results30, gTT]
  exact ⟨by kernel_rfl, hy⟩
def E_gdecode : List V → Boxes → Toks → Name → Option Ent
  | [.c (.lp n0 0)], [(m0, [.d (.int .i64 fk), .d (.int .i64 fr), .d (.list q_fm), .d (.int .i64 tk), .d (.int .i64 tr), .d (.list q_tm), .d (.int .i64 mi), .d (.int .i64 mo), .d (.list q_mc), .d (.int .i64 c), .d (.int .i64 n), .d (.int .i64 d), .d (.int .i64 a), .d (.int .i64 p), .d (.int .i64 f), .d (.list q_l), .d (.list q_y), .d (.int .i64 bc), .d (.list q_bd)])], [], _ => some ⟨(ints q_fm).length ≤ 1000000 ∧ (ints q_tm).length ≤ 1000000 ∧ (ints q_mc).length ≤ 1000000 ∧ (ints q_l).length ≤ 1000000 ∧ (bys q_y).length ≤ 1000000 ∧ (ints q_bd).length ≤ 1000000 ∧ n0.lv ≤ 1 ∧ m0 = n0 ∧ q_fm = LI .i64 (ints q_fm) ∧ q_tm = LI .i64 (ints q_tm) ∧ q_mc = LI .i64 (ints q_mc) ∧ q_l = LI .i32 (ints q_l) ∧ q_y = LB (bys q_y) ∧ q_bd = LI .i32 (ints q_bd), vI .i64 (decE fk (bys q_y).length), [(n0, [.d (.int .i64 fk), .d (.int .i64 fr), .d (.list (LI .i64 (ints q_fm))), .d (.int .i64 tk), .d (.int .i64 tr), .d (.list (LI .i64 (ints q_tm))), .d (.int .i64 mi), .d (.int .i64 mo), .d (.list (LI .i64 (ints q_mc))), .d (.int .i64 c), .d (.int .i64 n), .d (.int .i64 d), .d (.int .i64 a), .d (.int .i64 p), .d (.int .i64 f), .d (.list (LI .i32 (ints q_l))), .d (.list (LB (bys q_y))), .d (.int .i64 ((ints q_fm).length : Int)), .d (.list (LI .i32 (decO fk (bys q_y))))])], []⟩
  | _, _, _, _ => none
def E_gdecode_eq := And.intro (@E_gdecode.eq_1) (@E_gdecode.eq_1)
theorem E_gdecode_ok : Snd Tryz.prog 30 E_gdecode := by
  intro vs b k n e h hn hp
  unfold E_gdecode at h
  split at h
  · cases h; obtain ⟨hp0, hp1, hp2, hp3, hp4, hp5, hl0, rfl, hq0, hq1, hq2, hq3, hq4, hq5⟩ := hp; obtain ⟨_, rfl⟩ := LI_ex hq0; obtain ⟨_, rfl⟩ := LI_ex hq1; obtain ⟨_, rfl⟩ := LI_ex hq2; obtain ⟨_, rfl⟩ := LI_ex hq3; obtain ⟨_, rfl⟩ := LB_ex hq4; obtain ⟨_, rfl⟩ := LI_ex hq5; simp only [ints_LI, bys_LB, blks_LK, lls_LL] at hp0 hp1 hp2 hp3 hp4 hp5 ⊢; exact Spec.ren1 (spec_gdecode _ _ _ _ _ _ _ _ _ _ _ _ _ _ _ _ _ _ _ hp0 hp1 hp2 hp3 hp4 hp5) 0 (by simp [supOK, V.names, C.names, namesB, namesK, cvtC_eq]) hl0 
  · cases h

theorem spec_gspread (fk fr : Int) (fm : List Int) (tk tr : Int) (tm : List Int) (mi mo : Int) (mc : List Int) (c n d a p f : Int) (l : List Int) (y : List UInt8) (bc : Int) (bd : List Int) (hfm : fm.length ≤ 1000000) (htm : tm.length ≤ 1000000) (hmc : mc.length ≤ 1000000) (hl : l.length ≤ 1000000) (hy : y.length ≤ 1000000) (hbd : bd.length ≤ 1000000) : Spec Tryz.prog 0 31 [.c (.lp ⟨0, 0⟩ 0)] [(⟨0, 0⟩, [.d (.int .i64 fk), .d (.int .i64 fr), .d (.list (LI .i64 fm)), .d (.int .i64 tk), .d (.int .i64 tr), .d (.list (LI .i64 tm)), .d (.int .i64 mi), .d (.int .i64 mo), .d (.list (LI .i64 mc)), .d (.int .i64 c), .d (.int .i64 n), .d (.int .i64 d), .d (.int .i64 a), .d (.int .i64 p), .d (.int .i64 f), .d (.list (LI .i32 l)), .d (.list (LB y)), .d (.int .i64 bc), .d (.list (LI .i32 bd))])] [] (vI .i64 (apE mi mo mc bc bd)) [(⟨0, 0⟩, [.d (.int .i64 fk), .d (.int .i64 fr), .d (.list (LI .i64 fm)), .d (.int .i64 tk), .d (.int .i64 tr), .d (.list (LI .i64 tm)), .d (.int .i64 mi), .d (.int .i64 mo), .d (.list (LI .i64 mc)), .d (.int .i64 c), .d (.int .i64 n), .d (.int .i64 d), .d (.int .i64 a), .d (.int .i64 p), .d (.int .i64 f), .d (.list (LI .i32 l)), .d (.list (LB y)), .d (.int .i64 (apC mi mo mc bc bd)), .d (.list (LI .i32 (apO mi mo mc bc bd)))])] [] := by
  refine spec_of_E (X := ⟨Tryz.prog, tt, Tryz.f31.ntmps, 1, fun _ => 0, (tab [(65, E_mapply)])⟩) (M := [(1, [0, 0, 0, 0, 0, 523805, 0, 0, 0, 0, 0, 491549, 0, 0, 0, 0, 0, 0])]) (m := 5) rfl rfl ⟨tt_ok, tab_ok (tabs_cons E_mapply_ok tabs_nil) _ rfl rfl⟩ tt_mixed Tryz.func31 rfl (by decide) (by show (1 : Nat) ≤ _; exact Nat.le_of_ble_eq_true rfl) ⟨by simp [V.has, C.has, cvtC_eq], by simp [C.has], by simp⟩ ?_
  simp only [↓gPre, gPost, gCore, gDef, Nat.reduceShiftRight, Nat.reduceMod, if_true, if_false, ↓reduceIte, reduceCtorEq, Nat.reduceEqDiff, Nat.reduceLT, Nat.reduceLeDiff, implies_true, forall_const, eq_self, ne_eq, not_true_eq_false, not_false_eq_true, imp_self, Nat.reduceAdd, Nat.reduceMul, Int.reduceLE, Int.reduceLT, Int.reduceNeg, Int.reduceAdd, Int.reduceToNat, E_mapply_eq, ph_eta, rs_eta, fm_eta, cv_eta, cvtD_eq, cvtC_eq, Tryz.ntmps31, Tryz.results31, gTT]
  exact ⟨by kernel_rfl, hmc, hbd⟩
def E_gspread : List V → Boxes → Toks → Name → Option Ent
  | [.c (.lp n0 0)], [(m0, [.d (.int .i64 fk), .d (.int .i64 fr), .d (.list q_fm), .d (.int .i64 tk), .d (.int .i64 tr), .d (.list q_tm), .d (.int .i64 mi), .d (.int .i64 mo), .d (.list q_mc), .d (.int .i64 c), .d (.int .i64 n), .d (.int .i64 d), .d (.int .i64 a), .d (.int .i64 p), .d (.int .i64 f), .d (.list q_l), .d (.list q_y), .d (.int .i64 bc), .d (.list q_bd)])], [], _ => some ⟨(ints q_fm).length ≤ 1000000 ∧ (ints q_tm).length ≤ 1000000 ∧ (ints q_mc).length ≤ 1000000 ∧ (ints q_l).length ≤ 1000000 ∧ (bys q_y).length ≤ 1000000 ∧ (ints q_bd).length ≤ 1000000 ∧ n0.lv ≤ 1 ∧ m0 = n0 ∧ q_fm = LI .i64 (ints q_fm) ∧ q_tm = LI .i64 (ints q_tm) ∧ q_mc = LI .i64 (ints q_mc) ∧ q_l = LI .i32 (ints q_l) ∧ q_y = LB (bys q_y) ∧ q_bd = LI .i32 (ints q_bd), vI .i64 (apE mi mo (ints q_mc) bc (ints q_bd)), [(n0, [.d (.int .i64 fk), .d (.int .i64 fr), .d (.list (LI .i64 (ints q_fm))), .d (.int .i64 tk), .d (.int .i64 tr), .d (.list (LI .i64 (ints q_tm))), .d (.int .i64 mi), .d (.int .i64 mo), .d (.list (LI .i64 (ints q_mc))), .d (.int .i64 c), .d (.int .i64 n), .d (.int .i64 d), .d (.int .i64 a), .d (.int .i64 p), .d (.int .i64 f), .d (.list (LI .i32 (ints q_l))), .d (.list (LB (bys q_y))), .d (.int .i64 (apC mi mo (ints q_mc) bc (ints q_bd))), .d (.list (LI .i32 (apO mi mo (ints q_mc) bc (ints q_bd))))])], []⟩
  | _, _, _, _ => none
def E_gspread_eq := And.intro (@E_gspread.eq_1) (@E_gspread.eq_1)
theorem E_gspread_ok : Snd Tryz.prog 31 E_gspread := by
  intro vs b k n e h hn hp
  unfold E_gspread at h
  split at h
  · cases h; obtain ⟨hp0, hp1, hp2, hp3, hp4, hp5, hl0, rfl, hq0, hq1, hq2, hq3, hq4, hq5⟩ := hp; obtain ⟨_, rfl⟩ := LI_ex hq0; obtain ⟨_, rfl⟩ := LI_ex hq1; obtain ⟨_, rfl⟩ := LI_ex hq2; obtain ⟨_, rfl⟩ := LI_ex hq3; obtain ⟨_, rfl⟩ := LB_ex hq4; obtain ⟨_, rfl⟩ := LI_ex hq5; simp only [ints_LI, bys_LB, blks_LK, lls_LL] at hp0 hp1 hp2 hp3 hp4 hp5 ⊢; exact Spec.ren1 (spec_gspread _ _ _ _ _ _ _ _ _ _ _ _ _ _ _ _ _ _ _ hp0 hp1 hp2 hp3 hp4 hp5) 0 (by simp [supOK, V.names, C.names, namesB, namesK, cvtC_eq]) hl0 
  · cases h

theorem spec_gstretch (fk fr : Int) (fm : List Int) (tk tr : Int) (tm : List Int) (mi mo : Int) (mc : List Int) (c n d a p f : Int) (l : List Int) (y : List UInt8) (bc : Int) (bd : List Int) (hfm : fm.length ≤ 1000000) (htm : tm.length ≤ 1000000) (hmc : mc.length ≤ 1000000) (hl : l.length ≤ 1000000) (hy : y.length ≤ 1000000) (hbd : bd.length ≤ 1000000) : Spec Tryz.prog 0 32 [.c (.lp ⟨0, 0⟩ 0)] [(⟨0, 0⟩, [.d (.int .i64 fk), .d (.int .i64 fr), .d (.list (LI .i64 fm)), .d (.int .i64 tk), .d (.int .i64 tr), .d (.list (LI .i64 tm)), .d (.int .i64 mi), .d (.int .i64 mo), .d (.list (LI .i64 mc)), .d (.int .i64 c), .d (.int .i64 n), .d (.int .i64 d), .d (.int .i64 a), .d (.int .i64 p), .d (.int .i64 f), .d (.list (LI .i32 l)), .d (.list (LB y)), .d (.int .i64 bc), .d (.list (LI .i32 bd))])] [] (vI .i64 (cvE ⟨c, ⟨n, d, a, p, f⟩, l⟩ bc bd)) [(⟨0, 0⟩, [.d (.int .i64 fk), .d (.int .i64 fr), .d (.list (LI .i64 fm)), .d (.int .i64 tk), .d (.int .i64 tr), .d (.list (LI .i64 tm)), .d (.int .i64 mi), .d (.int .i64 mo), .d (.list (LI .i64 mc)), .d (.int .i64 (cvR ⟨c, ⟨n, d, a, p, f⟩, l⟩ bc bd).c), .d (.int .i64 (cvR ⟨c, ⟨n, d, a, p, f⟩, l⟩ bc bd).p.n), .d (.int .i64 (cvR ⟨c, ⟨n, d, a, p, f⟩, l⟩ bc bd).p.d), .d (.int .i64 (cvR ⟨c, ⟨n, d, a, p, f⟩, l⟩ bc bd).p.a), .d (.int .i64 (cvR ⟨c, ⟨n, d, a, p, f⟩, l⟩ bc bd).p.p), .d (.int .i64 (cvR ⟨c, ⟨n, d, a, p, f⟩, l⟩ bc bd).p.f), .d (.list (LI .i32 (cvR ⟨c, ⟨n, d, a, p, f⟩, l⟩ bc bd).l)), .d (.list (LB y)), .d (.int .i64 (cvC ⟨c, ⟨n, d, a, p, f⟩, l⟩ bc bd)), .d (.list (LI .i32 (cvO ⟨c, ⟨n, d, a, p, f⟩, l⟩ bc bd)))])] [] := by
  refine spec_of_E (X := ⟨Tryz.prog, tt, Tryz.f32.ntmps, 1, fun _ => 0, (tab [(66, E_convert)])⟩) (M := [(1, [0, 0, 0, 0, 0, 16776765, 0, 0, 0, 0, 0, 16744509, 0, 0, 0, 0, 0, 16187429, 0, 0, 0, 0, 0, 0])]) (m := 5) rfl rfl ⟨tt_ok, tab_ok (tabs_cons E_convert_ok tabs_nil) _ rfl rfl⟩ tt_mixed Tryz.func32 rfl (by decide) (by show (1 : Nat) ≤ _; exact Nat.le_of_ble_eq_true rfl) ⟨by simp [V.has, C.has, cvtC_eq], by simp [C.has], by simp⟩ ?_
  simp only [↓gPre, gPost, gCore, gDef, Nat.reduceShiftRight, Nat.reduceMod, if_true, if_false, ↓reduceIte, reduceCtorEq, Nat.reduceEqDiff, Nat.reduceLT, Nat.reduceLeDiff, implies_true, forall_const, eq_self, ne_eq, not_true_eq_false, not_false_eq_true, imp_self, Nat.reduceAdd, Nat.reduceMul, Int.reduceLE, Int.reduceLT, Int.reduceNeg, Int.reduceAdd, Int.reduceToNat, E_convert_eq, ph_eta, rs_eta, fm_eta, cv_eta, cvtD_eq, cvtC_eq, Tryz.ntmps32, Tryz.results32, gTT]
  exact ⟨by kernel_rfl, hl, hbd⟩
def E_gstretch : List V → Boxes → Toks → Name → Option Ent
  | [.c (.lp n0 0)], [(m0, [.d (.int .i64 fk), .d (.int .i64 fr), .d (.list q_fm), .d (.int .i64 tk), .d (.int .i64 tr), .d (.list q_tm), .d (.int .i64 mi), .d (.int .i64 mo), .d (.list q_mc), .d (.int .i64 c), .d (.int .i64 n), .d (.int .i64 d), .d (.int .i64 a), .d (.int .i64 p), .d (.int .i64 f), .d (.list q_l), .d (.list q_y), .d (.int .i64 bc), .d (.list q_bd)])], [], _ => some ⟨(ints q_fm).length ≤ 1000000 ∧ (ints q_tm).length ≤ 1000000 ∧ (ints q_mc).length ≤ 1000000 ∧ (ints q_l).length ≤ 1000000 ∧ (bys q_y).length ≤ 1000000 ∧ (ints q_bd).length ≤ 1000000 ∧ n0.lv ≤ 1 ∧ m0 = n0 ∧ q_fm = LI .i64 (ints q_fm) ∧ q_tm = LI .i64 (ints q_tm) ∧ q_mc = LI .i64 (ints q_mc) ∧ q_l = LI .i32 (ints q_l) ∧ q_y = LB (bys q_y) ∧ q_bd = LI .i32 (ints q_bd), vI .i64 (cvE ⟨c, ⟨n, d, a, p, f⟩, (ints q_l)⟩ bc (ints q_bd)), [(n0, [.d (.int .i64 fk), .d (.int .i64 fr), .d (.list (LI .i64 (ints q_fm))), .d (.int .i64 tk), .d (.int .i64 tr), .d (.list (LI .i64 (ints q_tm))), .d (.int .i64 mi), .d (.int .i64 mo), .d (.list (LI .i64 (ints q_mc))), .d (.int .i64 (cvR ⟨c, ⟨n, d, a, p, f⟩, (ints q_l)⟩ bc (ints q_bd)).c), .d (.int .i64 (cvR ⟨c, ⟨n, d, a, p, f⟩, (ints q_l)⟩ bc (ints q_bd)).p.n), .d (.int .i64 (cvR ⟨c, ⟨n, d, a, p, f⟩, (ints q_l)⟩ bc (ints q_bd)).p.d), .d (.int .i64 (cvR ⟨c, ⟨n, d, a, p, f⟩, (ints q_l)⟩ bc (ints q_bd)).p.a), .d (.int .i64 (cvR ⟨c, ⟨n, d, a, p, f⟩, (ints q_l)⟩ bc (ints q_bd)).p.p), .d (.int .i64 (cvR ⟨c, ⟨n, d, a, p, f⟩, (ints q_l)⟩ bc (ints q_bd)).p.f), .d (.list (LI .i32 (cvR ⟨c, ⟨n, d, a, p, f⟩, (ints q_l)⟩ bc (ints q_bd)).l)), .d (.list (LB (bys q_y))), .d (.int .i64 (cvC ⟨c, ⟨n, d, a, p, f⟩, (ints q_l)⟩ bc (ints q_bd))), .d (.list (LI .i32 (cvO ⟨c, ⟨n, d, a, p, f⟩, (ints q_l)⟩ bc (ints q_bd))))])], []⟩
  | _, _, _, _ => none
def E_gstretch_eq := And.intro (@E_gstretch.eq_1) (@E_gstretch.eq_1)
theorem E_gstretch_ok : Snd Tryz.prog 32 E_gstretch := by
  intro vs b k n e h hn hp
  unfold E_gstretch at h
  split at h
  · cases h; obtain ⟨hp0, hp1, hp2, hp3, hp4, hp5, hl0, rfl, hq0, hq1, hq2, hq3, hq4, hq5⟩ := hp; obtain ⟨_, rfl⟩ := LI_ex hq0; obtain ⟨_, rfl⟩ := LI_ex hq1; obtain ⟨_, rfl⟩ := LI_ex hq2; obtain ⟨_, rfl⟩ := LI_ex hq3; obtain ⟨_, rfl⟩ := LB_ex hq4; obtain ⟨_, rfl⟩ := LI_ex hq5; simp only [ints_LI, bys_LB, blks_LK, lls_LL] at hp0 hp1 hp2 hp3 hp4 hp5 ⊢; exact Spec.ren1 (spec_gstretch _ _ _ _ _ _ _ _ _ _ _ _ _ _ _ _ _ _ _ hp0 hp1 hp2 hp3 hp4 hp5) 0 (by simp [supOK, V.names, C.names, namesB, namesK, cvtC_eq]) hl0 
  · cases h

theorem spec_gencode (fk fr : Int) (fm : List Int) (tk tr : Int) (tm : List Int) (mi mo : Int) (mc : List Int) (c n d a p f : Int) (l : List Int) (y : List UInt8) (bc : Int) (bd : List Int) (hfm : fm.length ≤ 1000000) (htm : tm.length ≤ 1000000) (hmc : mc.length ≤ 1000000) (hl : l.length ≤ 1000000) (hy : y.length ≤ 1000000) (hbd : bd.length ≤ 1000000) : Spec Tryz.prog 0 33 [.c (.lp ⟨0, 0⟩ 0)] [(⟨0, 0⟩, [.d (.int .i64 fk), .d (.int .i64 fr), .d (.list (LI .i64 fm)), .d (.int .i64 tk), .d (.int .i64 tr), .d (.list (LI .i64 tm)), .d (.int .i64 mi), .d (.int .i64 mo), .d (.list (LI .i64 mc)), .d (.int .i64 c), .d (.int .i64 n), .d (.int .i64 d), .d (.int .i64 a), .d (.int .i64 p), .d (.int .i64 f), .d (.list (LI .i32 l)), .d (.list (LB y)), .d (.int .i64 bc), .d (.list (LI .i32 bd))])] [] (vI .i64 (encE tk bd)) [(⟨0, 0⟩, [.d (.int .i64 fk), .d (.int .i64 fr), .d (.list (LI .i64 fm)), .d (.int .i64 tk), .d (.int .i64 tr), .d (.list (LI .i64 tm)), .d (.int .i64 mi), .d (.int .i64 mo), .d (.list (LI .i64 mc)), .d (.int .i64 c), .d (.int .i64 n), .d (.int .i64 d), .d (.int .i64 a), .d (.int .i64 p), .d (.int .i64 f), .d (.list (LI .i32 l)), .d (.list (LB (encO tk bd))), .d (.int .i64 bc), .d (.list (LI .i32 bd))])] [] := by
  refine spec_of_E (X := ⟨Tryz.prog, tt, Tryz.f33.ntmps, 1, fun _ => 0, (tab [(43, E_encode)])⟩) (M := [(1, [0, 0, 0, 0, 0, 2096669, 0, 0, 0, 0, 0, 2065437, 0, 0, 0, 0, 0, 1441797, 0, 0])]) (m := 5) rfl rfl ⟨tt_ok, tab_ok (tabs_cons E_encode_ok tabs_nil) _ rfl rfl⟩ tt_mixed Tryz.func33 rfl (by decide) (by show (1 : Nat) ≤ _; exact Nat.le_of_ble_eq_true rfl) ⟨by simp [V.has, C.has, cvtC_eq], by simp [C.has], by simp⟩ ?_
  simp only [↓gPre, gPost, gCore, gDef, Nat.reduceShiftRight, Nat.reduceMod, if_true, if_false, ↓reduceIte, reduceCtorEq, Nat.reduceEqDiff, Nat.reduceLT, Nat.reduceLeDiff, implies_true, forall_const, eq_self, ne_eq, not_true_eq_false, not_false_eq_true, imp_self, Nat.reduceAdd, Nat.reduceMul, Int.reduceLE, Int.reduceLT, Int.reduceNeg, Int.reduceAdd, Int.reduceToNat, E_encode_eq, ph_eta, rs_eta, fm_eta, cv_eta, cvtD_eq, cvtC_eq, Tryz.ntmps33, Tryz.results33, gTT]
  exact ⟨by kernel_rfl, hbd⟩
def E_gencode : List V → Boxes → Toks → Name → Option Ent
  | [.c (.lp n0 0)], [(m0, [.d (.int .i64 fk), .d (.int .i64 fr), .d (.list q_fm), .d (.int .i64 tk), .d (.int .i64 tr), .d (.list q_tm), .d (.int .i64 mi), .d (.int .i64 mo), .d (.list q_mc), .d (.int .i64 c), .d (.int .i64 n), .d (.int .i64 d), .d (.int .i64 a), .d (.int .i64 p), .d (.int .i64 f), .d (.list q_l), .d (.list q_y), .d (.int .i64 bc), .d (.list q_bd)])], [], _ => some ⟨(ints q_fm).length ≤ 1000000 ∧ (ints q_tm).length ≤ 1000000 ∧ (ints q_mc).length ≤ 1000000 ∧ (ints q_l).length ≤ 1000000 ∧ (bys q_y).length ≤ 1000000 ∧ (ints q_bd).length ≤ 1000000 ∧ n0.lv ≤ 1 ∧ m0 = n0 ∧ q_fm = LI .i64 (ints q_fm) ∧ q_tm = LI .i64 (ints q_tm) ∧ q_mc = LI .i64 (ints q_mc) ∧ q_l = LI .i32 (ints q_l) ∧ q_y = LB (bys q_y) ∧ q_bd = LI .i32 (ints q_bd), vI .i64 (encE tk (ints q_bd)), [(n0, [.d (.int .i64 fk), .d (.int .i64 fr), .d (.list (LI .i64 (ints q_fm))), .d (.int .i64 tk), .d (.int .i64 tr), .d (.list (LI .i64 (ints q_tm))), .d (.int .i64 mi), .d (.int .i64 mo), .d (.list (LI .i64 (ints q_mc))), .d (.int .i64 c), .d (.int .i64 n), .d (.int .i64 d), .d (.int .i64 a), .d (.int .i64 p), .d (.int .i64 f), .d (.list (LI .i32 (ints q_l))), .d (.list (LB (encO tk (ints q_bd)))), .d (.int .i64 bc), .d (.list (LI .i32 (ints q_bd)))])], []⟩
  | _, _, _, _ => none
def E_gencode_eq := And.intro (@E_gencode.eq_1) (@E_gencode.eq_1)
theorem E_gencode_ok : Snd Tryz.prog 33 E_gencode := by
  intro vs b k n e h hn hp
  unfold E_gencode at h
  split at h
  · cases h; obtain ⟨hp0, hp1, hp2, hp3, hp4, hp5, hl0, rfl, hq0, hq1, hq2, hq3, hq4, hq5⟩ := hp; obtain ⟨_, rfl⟩ := LI_ex hq0; obtain ⟨_, rfl⟩ := LI_ex hq1; obtain ⟨_, rfl⟩ := LI_ex hq2; obtain ⟨_, rfl⟩ := LI_ex hq3; obtain ⟨_, rfl⟩ := LB_ex hq4; obtain ⟨_, rfl⟩ := LI_ex hq5; simp only [ints_LI, bys_LB, blks_LK, lls_LL] at hp0 hp1 hp2 hp3 hp4 hp5 ⊢; exact Spec.ren1 (spec_gencode _ _ _ _ _ _ _ _ _ _ _ _ _ _ _ _ _ _ _ hp0 hp1 hp2 hp3 hp4 hp5) 0 (by simp [supOK, V.names, C.names, namesB, namesK, cvtC_eq]) hl0 
  · cases h

theorem spec_cfinish (fk fr : Int) (fm : List Int) (tk tr : Int) (tm : List Int) (mi mo : Int) (mc : List Int) (c n d a p f : Int) (l : List Int) (hfm : fm.length ≤ 1000000) (htm : tm.length ≤ 1000000) (hmc : mc.length ≤ 1000000) (hl : l.length ≤ 1000000) : Spec Tryz.prog 0 13 [.agg (cvtC ⟨⟨fk, fr, fm⟩, ⟨tk, tr, tm⟩, mi, mo, mc, ⟨c, ⟨n, d, a, p, f⟩, l⟩⟩)] [] [] (.tup [.list (LB (fnO ⟨⟨fk, fr, fm⟩, ⟨tk, tr, tm⟩, mi, mo, mc, ⟨c, ⟨n, d, a, p, f⟩, l⟩⟩)), .int .i64 (fnE ⟨⟨fk, fr, fm⟩, ⟨tk, tr, tm⟩, mi, mo, mc, ⟨c, ⟨n, d, a, p, f⟩, l⟩⟩)]) [] [] := by
  refine spec_of_E (X := ⟨Tryz.prog, tt, Tryz.f13.ntmps, 1, fun _ => 0, (tab [(15, E_cvvalid), (42, E_finish), (43, E_encode)])⟩) (M := [(3, [0, 0, 0, 0, 0, 378495, 0, 0, 0, 0, 0, 0])]) (m := 262751) rfl rfl ⟨tt_ok, tab_ok (tabs_cons E_cvvalid_ok (tabs_cons E_finish_ok (tabs_cons E_encode_ok tabs_nil))) _ rfl rfl⟩ tt_mixed Tryz.func13 rfl (by decide) (by show (1 : Nat) ≤ _; exact Nat.le_of_ble_eq_true rfl) ⟨fun m hm => (V.bare_has rfl m hm).elim, by simp, by simp⟩ ?_
  simp only [↓gPre, gPost, gCore, gDef, Nat.reduceShiftRight, Nat.reduceMod, if_true, if_false, ↓reduceIte, reduceCtorEq, Nat.reduceEqDiff, Nat.reduceLT, Nat.reduceLeDiff, implies_true, forall_const, eq_self, ne_eq, not_true_eq_false, not_false_eq_true, imp_self, Nat.reduceAdd, Nat.reduceMul, Int.reduceLE, Int.reduceLT, Int.reduceNeg, Int.reduceAdd, Int.reduceToNat, E_cvvalid_eq, E_finish_eq, E_encode_eq, ph_eta, rs_eta, fm_eta, cv_eta, cvtD_eq, cvtC_eq, Tryz.ntmps13, Tryz.results13, gTT]
  refine ⟨⟨hfm, htm, hmc, hl⟩, fun h => by simp [fnE, fnO, h, LB_nil], fun h => ?_⟩
  have hv : cvV ⟨⟨fk, fr, fm⟩, ⟨tk, tr, tm⟩, mi, mo, mc, ⟨c, ⟨n, d, a, p, f⟩, l⟩⟩ = true := by simpa using h
  have hc := cv_in hv
  simp only at hc
  have e : fnE ⟨⟨fk, fr, fm⟩, ⟨tk, tr, tm⟩, mi, mo, mc, ⟨c, ⟨n, d, a, p, f⟩, l⟩⟩ = fiE ⟨c, ⟨n, d, a, p, f⟩, l⟩ 65536 := by unfold fnE; rw [if_neg (by rw [hv]; decide)]
  refine ⟨hl, fun h2 => ?_, fun h2 => ?_⟩
  · have h3 : fiE ⟨c, ⟨n, d, a, p, f⟩, l⟩ 65536 ≠ 0 := by simpa using h2
    have h4 : fnE ⟨⟨fk, fr, fm⟩, ⟨tk, tr, tm⟩, mi, mo, mc, ⟨c, ⟨n, d, a, p, f⟩, l⟩⟩ ≠ 0 := by rw [e]; exact h3
    simp [fnO, e, h3, LB_nil]
  have h3 : fiE ⟨c, ⟨n, d, a, p, f⟩, l⟩ 65536 = 0 := by simpa using h2
  have h4 := fi_enc hc.2.2.2.2.2.2.1 hl h3
  have h5 := enc_ok (fm_in hc.2.1).1.1 h4.1 h4.2
  simp only at h5
  refine ⟨by omega, ?_⟩
  rw [h5]
  simp [fnO, e, h3]
def E_cfinish : List V → Boxes → Toks → Name → Option Ent
  | [.agg [.d (.int .i64 fk), .d (.int .i64 fr), .d (.list q_fm), .d (.int .i64 tk), .d (.int .i64 tr), .d (.list q_tm), .d (.int .i64 mi), .d (.int .i64 mo), .d (.list q_mc), .d (.int .i64 c), .d (.int .i64 n), .d (.int .i64 d), .d (.int .i64 a), .d (.int .i64 p), .d (.int .i64 f), .d (.list q_l)]], [], [], _ => some ⟨(ints q_fm).length ≤ 1000000 ∧ (ints q_tm).length ≤ 1000000 ∧ (ints q_mc).length ≤ 1000000 ∧ (ints q_l).length ≤ 1000000 ∧ q_fm = LI .i64 (ints q_fm) ∧ q_tm = LI .i64 (ints q_tm) ∧ q_mc = LI .i64 (ints q_mc) ∧ q_l = LI .i32 (ints q_l), .tup [.list (LB (fnO ⟨⟨fk, fr, (ints q_fm)⟩, ⟨tk, tr, (ints q_tm)⟩, mi, mo, (ints q_mc), ⟨c, ⟨n, d, a, p, f⟩, (ints q_l)⟩⟩)), .int .i64 (fnE ⟨⟨fk, fr, (ints q_fm)⟩, ⟨tk, tr, (ints q_tm)⟩, mi, mo, (ints q_mc), ⟨c, ⟨n, d, a, p, f⟩, (ints q_l)⟩⟩)], [], []⟩
  | _, _, _, _ => none
def E_cfinish_eq := And.intro (@E_cfinish.eq_1) (@E_cfinish.eq_1)
theorem E_cfinish_ok : Snd Tryz.prog 13 E_cfinish := by
  intro vs b k n e h hn hp
  unfold E_cfinish at h
  split at h
  · cases h; obtain ⟨hp0, hp1, hp2, hp3, hq0, hq1, hq2, hq3⟩ := hp; obtain ⟨_, rfl⟩ := LI_ex hq0; obtain ⟨_, rfl⟩ := LI_ex hq1; obtain ⟨_, rfl⟩ := LI_ex hq2; obtain ⟨_, rfl⟩ := LI_ex hq3; simp only [ints_LI, bys_LB, blks_LK, lls_LL] at hp0 hp1 hp2 hp3 ⊢; exact (spec_cfinish _ _ _ _ _ _ _ _ _ _ _ _ _ _ _ _ hp0 hp1 hp2 hp3).lift rfl _
  · cases h

end Go.Vam
