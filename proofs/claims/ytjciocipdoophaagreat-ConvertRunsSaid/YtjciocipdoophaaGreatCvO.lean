/- Same; the sanity check; formats and bytes from dice. Conditions: none. -/
import Derived.Test.YtjciocipdoophaaGreatCvN
set_option linter.unusedVariables false
set_option linter.defProp false
set_option linter.unusedSimpArgs false
set_option maxRecDepth 40000
set_option maxHeartbeats 4000000
namespace Go.Vam
open Go.Proofs

theorem spec_rsfmt (fk fr : Int) (fm : List Int) (fk2 fr2 : Int) (fm2 : List Int) (hfm : fm.length ≤ 1000000) : Spec Tryz.prog 0 39 [.agg [.d (.int .i64 fk), .d (.int .i64 fr), .d (.list (LI .i64 fm))], .agg [.d (.int .i64 fk2), .d (.int .i64 fr2), .d (.list (LI .i64 fm2))]] [] [] (vB (fk == fk2 && fr == fr2 && fm == fm2)) [] [] := by
  refine spec_of_E (X := ⟨Tryz.prog, tt, Tryz.f39.ntmps, 1, fun _ => 0, (tab [(78, E_same06)])⟩) (M := [(1, [0, 0, 0, 0, 0, 16776223, 0, 0, 0, 0, 0, 16711711, 0, 0, 0, 0, 0, 12714015, 0, 0])]) (m := 31) rfl rfl ⟨tt_ok, tab_ok (tabs_cons E_same06_ok tabs_nil) _ rfl rfl⟩ tt_mixed Tryz.func39 rfl (by decide) (by show (2 : Nat) ≤ _; exact Nat.le_of_ble_eq_true rfl) ⟨fun m hm => (V.bare_has rfl m hm).elim, by simp, by simp⟩ ?_
  simp only [↓gPre, gPost, gCore, gDef, Nat.reduceShiftRight, Nat.reduceMod, if_true, if_false, ↓reduceIte, reduceCtorEq, Nat.reduceEqDiff, Nat.reduceLT, Nat.reduceLeDiff, implies_true, forall_const, eq_self, ne_eq, not_true_eq_false, not_false_eq_true, imp_self, Nat.reduceAdd, Nat.reduceMul, Int.reduceLE, Int.reduceLT, Int.reduceNeg, Int.reduceAdd, Int.reduceToNat, E_same06_eq, ph_eta, rs_eta, fm_eta, cv_eta, cvtD_eq, cvtC_eq, Tryz.ntmps39, Tryz.results39, gTT]
  exact fun _ => by omega
def E_rsfmt : List V → Boxes → Toks → Name → Option Ent
  | [.agg [.d (.int .i64 fk), .d (.int .i64 fr), .d (.list q_fm)], .agg [.d (.int .i64 fk2), .d (.int .i64 fr2), .d (.list q_fm2)]], [], [], _ => some ⟨(ints q_fm).length ≤ 1000000 ∧ q_fm = LI .i64 (ints q_fm) ∧ q_fm2 = LI .i64 (ints q_fm2), vB (fk == fk2 && fr == fr2 && (ints q_fm) == (ints q_fm2)), [], []⟩
  | _, _, _, _ => none
def E_rsfmt_eq := And.intro (@E_rsfmt.eq_1) (@E_rsfmt.eq_1)
theorem E_rsfmt_ok : Snd Tryz.prog 39 E_rsfmt := by
  intro vs b k n e h hn hp
  unfold E_rsfmt at h
  split at h
  · cases h; obtain ⟨hp0, hq0, hq1⟩ := hp; obtain ⟨_, rfl⟩ := LI_ex hq0; obtain ⟨_, rfl⟩ := LI_ex hq1; simp only [ints_LI, bys_LB, blks_LK, lls_LL] at hp0 ⊢; exact (spec_rsfmt _ _ _ _ _ _ hp0).lift rfl _
  · cases h

theorem spec_rcsame (fk fr : Int) (fm : List Int) (tk tr : Int) (tm : List Int) (mi mo : Int) (mc : List Int) (c n d a p f : Int) (l : List Int) (fk2 fr2 : Int) (fm2 : List Int) (tk2 tr2 : Int) (tm2 : List Int) (mi2 mo2 : Int) (mc2 : List Int) (c2 n2 d2 a2 p2 f2 : Int) (l2 : List Int) (hfm : fm.length ≤ 1000000) (htm : tm.length ≤ 1000000) (hmc : mc.length ≤ 1000000) (hl : l.length ≤ 1000000) : Spec Tryz.prog 0 12 [.agg (cvtC ⟨⟨fk, fr, fm⟩, ⟨tk, tr, tm⟩, mi, mo, mc, ⟨c, ⟨n, d, a, p, f⟩, l⟩⟩), .agg [.d (.int .i64 fk2), .d (.int .i64 fr2), .d (.list (LI .i64 fm2)), .d (.int .i64 tk2), .d (.int .i64 tr2), .d (.list (LI .i64 tm2)), .d (.int .i64 mi2), .d (.int .i64 mo2), .d (.list (LI .i64 mc2)), .d (.int .i64 c2), .d (.int .i64 n2), .d (.int .i64 d2), .d (.int .i64 a2), .d (.int .i64 p2), .d (.int .i64 f2), .d (.list (LI .i32 l2))]] [] [] (vB ((fk == fk2 && fr == fr2 && fm == fm2) && (tk == tk2 && tr == tr2 && tm == tm2) && (mi == mi2 && mo == mo2 && mc == mc2) && (c == c2 && (n == n2 && (d == d2 && (a == a2 && (p == p2 && f == f2)))) && l == l2))) [] [] := by
  refine spec_of_E (X := ⟨Tryz.prog, tt, Tryz.f12.ntmps, 1, fun _ => 0, (tab [(39, E_rsfmt), (40, E_same07), (41, E_rssame)])⟩) (M := [(1, [0, 0, 0, 0, 0, 2147482655, 0, 0, 0, 0, 0, 2147418143, 0, 0, 0, 0, 0, 2143420447, 0, 0, 0, 0, 0, 1962934303, 0, 0, 0])]) (m := 31) rfl rfl ⟨tt_ok, tab_ok (tabs_cons E_rsfmt_ok (tabs_cons E_same07_ok (tabs_cons E_rssame_ok tabs_nil))) _ rfl rfl⟩ tt_mixed Tryz.func12 rfl (by decide) (by show (2 : Nat) ≤ _; exact Nat.le_of_ble_eq_true rfl) ⟨fun m hm => (V.bare_has rfl m hm).elim, by simp, by simp⟩ ?_
  simp only [↓gPre, gPost, gCore, gDef, Nat.reduceShiftRight, Nat.reduceMod, if_true, if_false, ↓reduceIte, reduceCtorEq, Nat.reduceEqDiff, Nat.reduceLT, Nat.reduceLeDiff, implies_true, forall_const, eq_self, ne_eq, not_true_eq_false, not_false_eq_true, imp_self, Nat.reduceAdd, Nat.reduceMul, Int.reduceLE, Int.reduceLT, Int.reduceNeg, Int.reduceAdd, Int.reduceToNat, E_rsfmt_eq, E_same07_eq, E_rssame_eq, ph_eta, rs_eta, fm_eta, cv_eta, cvtD_eq, cvtC_eq, Tryz.ntmps12, Tryz.results12, gTT]
  exact ⟨hfm, fun _ => htm, fun _ => by omega, fun _ => by omega⟩
def E_rcsame : List V → Boxes → Toks → Name → Option Ent
  | [.agg [.d (.int .i64 fk), .d (.int .i64 fr), .d (.list q_fm), .d (.int .i64 tk), .d (.int .i64 tr), .d (.list q_tm), .d (.int .i64 mi), .d (.int .i64 mo), .d (.list q_mc), .d (.int .i64 c), .d (.int .i64 n), .d (.int .i64 d), .d (.int .i64 a), .d (.int .i64 p), .d (.int .i64 f), .d (.list q_l)], .agg [.d (.int .i64 fk2), .d (.int .i64 fr2), .d (.list q_fm2), .d (.int .i64 tk2), .d (.int .i64 tr2), .d (.list q_tm2), .d (.int .i64 mi2), .d (.int .i64 mo2), .d (.list q_mc2), .d (.int .i64 c2), .d (.int .i64 n2), .d (.int .i64 d2), .d (.int .i64 a2), .d (.int .i64 p2), .d (.int .i64 f2), .d (.list q_l2)]], [], [], _ => some ⟨(ints q_fm).length ≤ 1000000 ∧ (ints q_tm).length ≤ 1000000 ∧ (ints q_mc).length ≤ 1000000 ∧ (ints q_l).length ≤ 1000000 ∧ q_fm = LI .i64 (ints q_fm) ∧ q_tm = LI .i64 (ints q_tm) ∧ q_mc = LI .i64 (ints q_mc) ∧ q_l = LI .i32 (ints q_l) ∧ q_fm2 = LI .i64 (ints q_fm2) ∧ q_tm2 = LI .i64 (ints q_tm2) ∧ q_mc2 = LI .i64 (ints q_mc2) ∧ q_l2 = LI .i32 (ints q_l2), vB ((fk == fk2 && fr == fr2 && (ints q_fm) == (ints q_fm2)) && (tk == tk2 && tr == tr2 && (ints q_tm) == (ints q_tm2)) && (mi == mi2 && mo == mo2 && (ints q_mc) == (ints q_mc2)) && (c == c2 && (n == n2 && (d == d2 && (a == a2 && (p == p2 && f == f2)))) && (ints q_l) == (ints q_l2))), [], []⟩
  | _, _, _, _ => none
def E_rcsame_eq := And.intro (@E_rcsame.eq_1) (@E_rcsame.eq_1)
theorem E_rcsame_ok : Snd Tryz.prog 12 E_rcsame := by
  intro vs b k n e h hn hp
  unfold E_rcsame at h
  split at h
  · cases h; obtain ⟨hp0, hp1, hp2, hp3, hq0, hq1, hq2, hq3, hq4, hq5, hq6, hq7⟩ := hp; obtain ⟨_, rfl⟩ := LI_ex hq0; obtain ⟨_, rfl⟩ := LI_ex hq1; obtain ⟨_, rfl⟩ := LI_ex hq2; obtain ⟨_, rfl⟩ := LI_ex hq3; obtain ⟨_, rfl⟩ := LI_ex hq4; obtain ⟨_, rfl⟩ := LI_ex hq5; obtain ⟨_, rfl⟩ := LI_ex hq6; obtain ⟨_, rfl⟩ := LI_ex hq7; simp only [ints_LI, bys_LB, blks_LK, lls_LL] at hp0 hp1 hp2 hp3 ⊢; exact (spec_rcsame _ _ _ _ _ _ _ _ _ _ _ _ _ _ _ _ _ _ _ _ _ _ _ _ _ _ _ _ _ _ _ _ hp0 hp1 hp2 hp3).lift rfl _
  · cases h

def rtL (i : Nat) : Int := ([48000, 44100, 8000, 96000] : List Int)[i]?.getD 0
/-- A format from dice, and the dice behind it. -/
def fxF (l : List UInt8) : Fm := ⟨1 + dN l 7, rtL (dN (dT l 7) 4).toNat, mapV (dT (dT l 7) 4)⟩
def fxR (l : List UInt8) : List UInt8 := dT (dT (dT l 7) 4) 7
/-- Bytes from dice, and the dice behind them. -/
def btR (l : List UInt8) : Nat → List UInt8
  | 0 => l
  | n + 1 => dT (btR l n) 256
def btO (l : List UInt8) (n : Nat) : List UInt8 := (List.range n).map fun i => byt (dN (btR l i) 256)
def btP (l : List UInt8) (n g : Nat) : List UInt8 := (List.range n).map fun i => if i < g then byt (dN (btR l i) 256) else 0
theorem btO_len (l : List UInt8) (n : Nat) : (btO l n).length = n := by simp [btO]
theorem btP_len (l : List UInt8) (n g : Nat) : (btP l n g).length = n := by simp [btP]
theorem btP_zero (l : List UInt8) (n : Nat) : btP l n 0 = List.replicate n 0 := by
  apply List.ext_getElem
  · simp [btP]
  · intro i h1 h2
    simp [btP]
theorem btP_all (l : List UInt8) (n : Nat) : btP l n n = btO l n := by
  unfold btP btO
  apply List.map_congr_left
  intro i hi
  rw [List.mem_range] at hi
  rw [if_pos hi]
theorem btP_succ (l : List UInt8) (n g : Nat) : btP l n (g + 1) = (btP l n g).set g (byt (dN (btR l g) 256)) := by
  apply List.ext_getElem
  · simp [btP]
  · intro i h1 h2
    rw [List.getElem_set]
    simp only [btP, List.getElem_map, List.getElem_range]
    by_cases e : g = i
    · subst e; simp
    · rw [if_neg e]
      by_cases h : i < g
      · rw [if_pos h, if_pos (by omega)]
      · rw [if_neg h, if_neg (by omega)]
def ziP (k : Int) (n g : Nat) : List UInt8 := (List.range n).map fun i => if k = 1 ∧ i < g then 128 else 0
def ziO (k : Int) (n : Nat) : List UInt8 := List.replicate n (if k = 1 then 128 else 0)
theorem ziP_len (k : Int) (n g : Nat) : (ziP k n g).length = n := by simp [ziP]
theorem ziP_zero (k : Int) (n : Nat) : ziP k n 0 = List.replicate n 0 := by
  apply List.ext_getElem
  · simp [ziP]
  · intro i h1 h2
    simp [ziP]
theorem ziP_all (k : Int) (n : Nat) : ziP k n n = ziO k n := by
  apply List.ext_getElem
  · simp [ziP, ziO]
  · intro i h1 h2
    rw [ziP_len] at h1
    simp [ziP, ziO, h1]
theorem ziP_succ (n g : Nat) : ziP 1 n (g + 1) = (ziP 1 n g).set g 128 := by
  apply List.ext_getElem
  · simp [ziP]
  · intro i h1 h2
    rw [List.getElem_set]
    simp only [ziP, List.getElem_map, List.getElem_range, true_and]
    by_cases e : g = i
    · subst e; simp
    · rw [if_neg e]
      by_cases h : i < g
      · rw [if_pos h, if_pos (by omega)]
      · rw [if_neg h, if_neg (by omega)]
theorem ziP_other {k : Int} (h : k ≠ 1) (n g g' : Nat) : ziP k n g = ziP k n g' := by
  unfold ziP
  apply List.map_congr_left
  intro i _
  rw [if_neg (fun e => h e.1), if_neg (fun e => h e.1)]
theorem maps_ch : ∀ i, i < 7 → chV (mapsL[i]?.getD []) = true := by decide +kernel
theorem map_ch (l : List UInt8) : chV (mapV l) = true := maps_ch _ (by have := dN_ge l 7; have := dN_lt l 7 (by decide); omega)
theorem rtL_in {i : Nat} (h : i < 4) : 8000 ≤ rtL i ∧ rtL i ≤ 96000 := by
  have key : ∀ i, i < 4 → 8000 ≤ rtL i ∧ rtL i ≤ 96000 := by decide
  exact key i h
theorem fxF_V (l : List UInt8) : fmV (fxF l) = true := by
  have h1 := dN_ge l 7
  have h2 := dN_lt l 7 (by decide)
  have h3 := rtL_in (i := (dN (dT l 7) 4).toNat) (by have := dN_ge (dT l 7) 4; have := dN_lt (dT l 7) 4 (by decide); omega)
  have h4 : 0 < szK (1 + dN l 7) := by unfold szK; omega
  unfold fmV
  show (decide (0 < szK (1 + dN l 7)) && decide (1000 ≤ rtL (dN (dT l 7) 4).toNat) && decide (rtL (dN (dT l 7) 4).toNat ≤ 768000) && chV (mapV (dT (dT l 7) 4))) = true
  rw [map_ch, Bool.and_eq_true, Bool.and_eq_true, Bool.and_eq_true]
  exact ⟨⟨⟨decide_eq_true h4, decide_eq_true (by omega)⟩, decide_eq_true (by omega)⟩, rfl⟩
theorem fmZ_in (x : Fm) : 0 ≤ fmZ x ∧ fmZ x ≤ 32 := by
  unfold fmZ
  split
  · rename_i h
    have := fm_big h
    omega
  · decide
theorem fmZ_mul (x : Fm) {w : Int} {B : Nat} (h0 : 0 ≤ w) (hB : w ≤ (B : Int)) : 0 ≤ w * fmZ x ∧ w * fmZ x ≤ ((B * 32 : Nat) : Int) := by
  obtain ⟨h1, h2⟩ := fmZ_in x
  refine ⟨Int.mul_nonneg h0 h1, ?_⟩
  rw [Int.natCast_mul]
  exact Int.mul_le_mul hB h2 h1 (Int.natCast_nonneg _)
def fmA : Fm := ⟨2, 48000, [1, 2]⟩
def fmC : Fm := ⟨2, 48000, [3]⟩
def cvA0 : Cv := cnR fmA fmC
def eg0 : List UInt8 := [100, 0, 100, 0]
def cvA1 : Cv := ruR cvA0 eg0
theorem eg_cn : cnE fmA fmC = 0 ∧ cvV cvA0 = true := ⟨by kernel_rfl, by kernel_rfl⟩
theorem eg_ru : ruE cvA0 eg0 = 0 ∧ ruO cvA0 eg0 = [] := ⟨by kernel_rfl, by kernel_rfl⟩
theorem eg_fn : fnE cvA1 = 0 ∧ fnO cvA1 = [141, 0] := ⟨by kernel_rfl, by kernel_rfl⟩
theorem eg_fz : fmZ cvA0.f = 4 ∧ (cvA0.f.m.length ≤ 10 ∧ cvA0.t.m.length ≤ 10 ∧ cvA0.mc.length ≤ 10 ∧ cvA0.r.l.length ≤ 10) ∧ (cvA1.f.m.length ≤ 10 ∧ cvA1.t.m.length ≤ 10 ∧ cvA1.mc.length ≤ 10 ∧ cvA1.r.l.length ≤ 10) := ⟨by kernel_rfl, by decide +kernel, by decide +kernel⟩


theorem spec_formats (l : List UInt8) : Spec Tryz.prog 0 6 [.c (.lp ⟨0, 0⟩ 0)] [(⟨0, 0⟩, [.d (.list (LB l))])] [] (.tup [.agg [.int .i64 (fxF l).k, .int .i64 (fxF l).r, .list (LI .i64 (fxF l).m)], .agg [.int .i64 (fxF (fxR l)).k, .int .i64 (fxF (fxR l)).r, .list (LI .i64 (fxF (fxR l)).m)]]) [(⟨0, 0⟩, [.d (.list (LB (fxR (fxR l))))])] [] := by
  refine spec_of_E (X := ⟨Tryz.prog, tt, Tryz.f6.ntmps, 1, fun _ => 0, (tab [(17, E_next), (18, E_mmap)])⟩) (M := [(2, [0, 0, 0, 0, 0, 268434205, 0, 0, 0, 0, 0, 268369949, 0, 0, 0, 0, 0, 260636701, 0, 0, 0, 0, 0, 0])]) (m := 29) rfl rfl ⟨tt_ok, tab_ok (tabs_cons E_next_ok (tabs_cons E_mmap_ok tabs_nil)) _ rfl rfl⟩ tt_mixed Tryz.func6 rfl (by decide) (by show (1 : Nat) ≤ _; exact Nat.le_of_ble_eq_true rfl) ⟨by simp [V.has, C.has, cvtC_eq], by simp [C.has], by simp⟩ ?_
  simp only [↓gPre, gPost, gCore, gDef, Nat.reduceShiftRight, Nat.reduceMod, if_true, if_false, ↓reduceIte, reduceCtorEq, Nat.reduceEqDiff, Nat.reduceLT, Nat.reduceLeDiff, implies_true, forall_const, eq_self, ne_eq, not_true_eq_false, not_false_eq_true, imp_self, Nat.reduceAdd, Nat.reduceMul, Int.reduceLE, Int.reduceLT, Int.reduceNeg, Int.reduceAdd, Int.reduceToNat, E_next_eq, E_mmap_eq, ph_eta, rs_eta, fm_eta, cv_eta, cvtD_eq, cvtC_eq, Tryz.ntmps6, Tryz.results6, gTT]
  refine ⟨by kernel_rfl, ⟨dN_ge _ _, dN_lt _ _ (by decide)⟩, ⟨dN_ge _ _, dN_lt _ _ (by decide)⟩, ?_, rfl⟩
  have h1 := dN_ge l 7
  have h2 := dN_lt l 7 (by decide)
  have h3 := dN_ge (dT (dT (dT l 7) 4) 7) 7
  have h4 := dN_lt (dT (dT (dT l 7) 4) 7) 7 (by decide)
  rw [IntWalk.i64_in (1 + dN l 7) (by omega), IntWalk.i64_in (1 + dN (dT (dT (dT l 7) 4) 7) 7) (by omega)]
  rfl
def E_formats : List V → Boxes → Toks → Name → Option Ent
  | [.c (.lp n0 0)], [(m0, [.d (.list q_l)])], [], _ => some ⟨n0.lv ≤ 1 ∧ m0 = n0 ∧ q_l = LB (bys q_l), .tup [.agg [.int .i64 (fxF (bys q_l)).k, .int .i64 (fxF (bys q_l)).r, .list (LI .i64 (fxF (bys q_l)).m)], .agg [.int .i64 (fxF (fxR (bys q_l))).k, .int .i64 (fxF (fxR (bys q_l))).r, .list (LI .i64 (fxF (fxR (bys q_l))).m)]], [(n0, [.d (.list (LB (fxR (fxR (bys q_l)))))])], []⟩
  | _, _, _, _ => none
def E_formats_eq := And.intro (@E_formats.eq_1) (@E_formats.eq_1)
theorem E_formats_ok : Snd Tryz.prog 6 E_formats := by
  intro vs b k n e h hn hp
  unfold E_formats at h
  split at h
  · cases h; obtain ⟨hl0, rfl, hq0⟩ := hp; obtain ⟨_, rfl⟩ := LB_ex hq0; simp only [ints_LI, bys_LB, blks_LK, lls_LL]; exact Spec.ren1 (spec_formats _) 0 (by simp [supOK, V.names, C.names, namesB, namesK, cvtC_eq]) hl0 
  · cases h

theorem spec_bytes (l : List UInt8) (fk fr : Int) (fm : List Int) (w : Int) (hm : fm.length ≤ 1000000) (hw : 0 ≤ w ∧ w ≤ 1000) : Spec Tryz.prog 0 9 [.c (.lp ⟨0, 0⟩ 0), .agg [.d (.int .i64 fk), .d (.int .i64 fr), .d (.list (LI .i64 fm))], vI .i64 w] [(⟨0, 0⟩, [.d (.list (LB l))])] [] (vL (LB (btO l (w * fmZ ⟨fk, fr, fm⟩).toNat))) [(⟨0, 0⟩, [.d (.list (LB (btR l (w * fmZ ⟨fk, fr, fm⟩).toNat)))])] [] := by
  refine spec_of_E (X := ⟨Tryz.prog, tt, Tryz.f9.ntmps, 1, fun s => if s = 13 then 2 else 0, (tab [(28, E_rfsize), (17, E_next)])⟩) (M := [(1000007, [6])]) (m := 229847) rfl rfl ⟨tt_ok, tab_ok (tabs_cons E_rfsize_ok (tabs_cons E_next_ok tabs_nil)) _ rfl rfl⟩ tt_mixed Tryz.func9 rfl (by decide) (by show (3 : Nat) ≤ _; exact Nat.le_of_ble_eq_true rfl) ⟨by simp [V.has, C.has, cvtC_eq], by simp [C.has], by simp⟩ ?_
  simp only [↓gPre, gPost, gCore, gDef, Nat.reduceShiftRight, Nat.reduceMod, if_true, if_false, ↓reduceIte, reduceCtorEq, Nat.reduceEqDiff, Nat.reduceLT, Nat.reduceLeDiff, implies_true, forall_const, eq_self, ne_eq, not_true_eq_false, not_false_eq_true, imp_self, Nat.reduceAdd, Nat.reduceMul, Int.reduceLE, Int.reduceLT, Int.reduceNeg, Int.reduceAdd, Int.reduceToNat, E_rfsize_eq, E_next_eq, ph_eta, rs_eta, fm_eta, cv_eta, cvtD_eq, cvtC_eq, Tryz.ntmps9, Tryz.results9, gTT]
  refine ⟨hm, ?_⟩
  obtain ⟨z1, z2⟩ := fmZ_mul ⟨fk, fr, fm⟩ (w := w) (B := 1000) hw.1 (by omega)
  rw [IntWalk.i64_in (w * fmZ ⟨fk, fr, fm⟩) (by omega)]
  generalize w * fmZ ⟨fk, fr, fm⟩ = z at *
  refine ⟨by omega, ?_⟩
  refine ELoop_keep (fun g => ⟨[(16, vI .i64 (g : Nat))], [(⟨0, 0⟩, [.d (.list (LB (btR l g)))])], [(⟨1, 13⟩, ⟨true, 1, LB (btP l z.toNat g)⟩)]⟩) (fun g => g ≤ z.toNat) (fun g => z.toNat - g) (· + 1) 0 (Nat.zero_le _) ?_ ?_
  · simp only [↓gPre, gPost, gCore, gDef, Nat.reduceShiftRight, Nat.reduceMod, if_true, if_false, ↓reduceIte, reduceCtorEq, Nat.reduceEqDiff, Nat.reduceLT, Nat.reduceLeDiff, implies_true, forall_const, eq_self, ne_eq, not_true_eq_false, not_false_eq_true, imp_self, Nat.reduceAdd, Nat.reduceMul, Int.reduceLE, Int.reduceLT, Int.reduceNeg, Int.reduceAdd, Int.reduceToNat, E_rfsize_eq, E_next_eq, ph_eta, rs_eta, fm_eta, cv_eta, cvtD_eq, cvtC_eq, Tryz.ntmps9, Tryz.results9, gTT]
    simp [btP_zero, LB, LI, btR]
  intro g hg
  simp only [↓gPre, gPost, gCore, gDef, Nat.reduceShiftRight, Nat.reduceMod, if_true, if_false, ↓reduceIte, reduceCtorEq, Nat.reduceEqDiff, Nat.reduceLT, Nat.reduceLeDiff, implies_true, forall_const, eq_self, ne_eq, not_true_eq_false, not_false_eq_true, imp_self, Nat.reduceAdd, Nat.reduceMul, Int.reduceLE, Int.reduceLT, Int.reduceNeg, Int.reduceAdd, Int.reduceToNat, E_rfsize_eq, E_next_eq, ph_eta, rs_eta, fm_eta, cv_eta, cvtD_eq, cvtC_eq, Tryz.ntmps9, Tryz.results9, gTT]
  have hl := btP_len l z.toNat g
  have hd1 := dN_ge (btR l g) 256
  have hd2 := dN_lt (btR l g) 256 (by decide)
  have hb : UInt8.ofNat (dN (btR l g) 256).toNat = byt (dN (btR l g) 256) := by
    unfold byt
    rw [Int.emod_eq_of_lt hd1 hd2]
  refine ⟨fun h => ?_, fun h => ?_⟩
  · have h1 := of_decide_eq_true h
    refine ⟨by omega, by omega, ⟨(wrapN _ (by omega)).symm, rfl, ?_⟩, by omega, by omega⟩
    rw [btP_succ, u8_wrap]
    simp [LB, LI, List.map_set]
  · have : g = z.toNat := by have := of_decide_eq_false h; omega
    rw [this, btP_len]
    exact ⟨rfl, (btP_all ..).symm, rfl⟩
def E_bytes : List V → Boxes → Toks → Name → Option Ent
  | [.c (.lp n0 0), .agg [.d (.int .i64 fk), .d (.int .i64 fr), .d (.list q_fm)], .c (.d (.int .i64 w))], [(m0, [.d (.list q_l)])], [], _ => some ⟨(ints q_fm).length ≤ 1000000 ∧ (0 ≤ w ∧ w ≤ 1000) ∧ n0.lv ≤ 1 ∧ m0 = n0 ∧ q_fm = LI .i64 (ints q_fm) ∧ q_l = LB (bys q_l), vL (LB (btO (bys q_l) (w * fmZ ⟨fk, fr, (ints q_fm)⟩).toNat)), [(n0, [.d (.list (LB (btR (bys q_l) (w * fmZ ⟨fk, fr, (ints q_fm)⟩).toNat)))])], []⟩
  | _, _, _, _ => none
def E_bytes_eq := And.intro (@E_bytes.eq_1) (@E_bytes.eq_1)
theorem E_bytes_ok : Snd Tryz.prog 9 E_bytes := by
  intro vs b k n e h hn hp
  unfold E_bytes at h
  split at h
  · cases h; obtain ⟨hp0, hp1, hl0, rfl, hq0, hq1⟩ := hp; obtain ⟨_, rfl⟩ := LI_ex hq0; obtain ⟨_, rfl⟩ := LB_ex hq1; simp only [ints_LI, bys_LB, blks_LK, lls_LL] at hp0 hp1 ⊢; exact Spec.ren1 (spec_bytes _ _ _ _ _ hp0 hp1) 0 (by simp [supOK, V.names, C.names, namesB, namesK, cvtC_eq]) hl0 
  · cases h

theorem spec_sane  : Spec Tryz.prog 0 4 [] [] [] (vB true) [] [] := by
  refine spec_of_E (X := ⟨Tryz.prog, tt, Tryz.f4.ntmps, 1, fun _ => 0, (tab [(7, E_cnew), (10, E_crun), (13, E_cfinish), (15, E_cvvalid), (16, E_fsize)])⟩) (M := [(4, [0, 0, 0, 0, 0, 288230367561777407, 0, 0, 0, 0, 0, 288230101273805055, 0, 0, 0, 0, 0, 288203987872645375, 0, 0, 0, 0, 0, 285978576338026751, 0, 0, 0, 0, 0, 144115188075856127, 0])]) (m := 255) rfl rfl ⟨tt_ok, tab_ok (tabs_cons E_cnew_ok (tabs_cons E_crun_ok (tabs_cons E_cfinish_ok (tabs_cons E_cvvalid_ok (tabs_cons E_fsize_ok tabs_nil))))) _ rfl rfl⟩ tt_mixed Tryz.func4 rfl (by decide) (by show (0 : Nat) ≤ _; exact Nat.le_of_ble_eq_true rfl) ⟨fun m hm => (V.bare_has rfl m hm).elim, by simp, by simp⟩ ?_
  simp only [↓gPre, gPost, gCore, gDef, Nat.reduceShiftRight, Nat.reduceMod, if_true, if_false, ↓reduceIte, reduceCtorEq, Nat.reduceEqDiff, Nat.reduceLT, Nat.reduceLeDiff, implies_true, forall_const, eq_self, ne_eq, not_true_eq_false, not_false_eq_true, imp_self, Nat.reduceAdd, Nat.reduceMul, Int.reduceLE, Int.reduceLT, Int.reduceNeg, Int.reduceAdd, Int.reduceToNat, E_cnew_eq, E_crun_eq, E_cfinish_eq, E_cvvalid_eq, E_fsize_eq, ph_eta, rs_eta, fm_eta, cv_eta, cvtD_eq, cvtC_eq, Tryz.ntmps4, Tryz.results4, gTT]
  have e0 : cnR ⟨2, 48000, [1, 2]⟩ ⟨2, 48000, [3]⟩ = cvA0 := rfl
  have e1 : bys [D.int .u8 100, D.int .u8 0, D.int .u8 100, D.int .u8 0] = eg0 := by decide +kernel
  have e2 : ruR cvA0 eg0 = cvA1 := rfl
  have e3 : cnE ⟨2, 48000, [1, 2]⟩ ⟨2, 48000, [3]⟩ = 0 := eg_cn.1
  obtain ⟨z1, z2, z3⟩ := eg_fz
  simp only [e0, e1, e2, e3, eg_cn.2, eg_ru.1, eg_ru.2, eg_fn.1, eg_fn.2]
  refine ⟨⟨by omega, by omega, by omega, by omega, by decide, rfl⟩, ⟨by omega, by omega, by omega, by omega⟩, ⟨5, Tryz.underlying22, Tryz.underlying5, Tryz.underlying9⟩, fun _ => ⟨by omega, by omega, by omega, by omega⟩, fun _ => by omega, ?_⟩
  rw [z1]
  rfl
def E_sane : List V → Boxes → Toks → Name → Option Ent
  | [], [], [], _ => some ⟨True, vB true, [], []⟩
  | _, _, _, _ => none
def E_sane_eq := And.intro (@E_sane.eq_1) (@E_sane.eq_1)
theorem E_sane_ok : Snd Tryz.prog 4 E_sane := by
  intro vs b k n e h hn hp
  unfold E_sane at h
  split at h
  · cases h; exact (spec_sane ).lift rfl _
  · cases h

end Go.Vam
