/- The law ConvertRuns gives true. Conditions: none. -/
import Derived.Test.YtjciocipdoophaaGreatCvX
set_option linter.unusedVariables false
set_option linter.defProp false
set_option linter.unusedSimpArgs false
set_option maxRecDepth 40000
set_option maxHeartbeats 4000000
namespace Go.Vam
open Go.Proofs

theorem spec_lruns (r s : List UInt8) (w : Int) (hw : 0 ≤ w ∧ w ≤ 255) : Spec Tryz.prog 0 3 [vL (LB r), vL (LB s), vI .u8 w] [] [] (vB true) [] [] := by
  refine spec_of_E (X := ⟨Tryz.prog, tt, Tryz.f3.ntmps, 1, fun _ => 0, (tab [(4, E_sane), (5, E_new), (6, E_formats), (7, E_cnew), (8, E_rcnew), (9, E_bytes), (10, E_crun), (11, E_rcrun), (12, E_rcsame), (13, E_cfinish), (14, E_rcfinish)])⟩) (M := [(11, [0, 0, 0, 0, 0, 2658456783851456962096102963851272135, 0, 0, 0, 0, 0, 2658456783851456957628532133499740103, 0]), (16, [0, 0, 0, 0, 0, 2658456942191725107474202919815847879, 0, 0, 0, 0, 0, 2658456937356021829015686220991143879, 0, 0, 0, 0])]) (m := 2658456783851456957628532133499740103) rfl rfl ⟨tt_ok, tab_ok (tabs_cons E_sane_ok (tabs_cons E_new_ok (tabs_cons E_formats_ok (tabs_cons E_cnew_ok (tabs_cons E_rcnew_ok (tabs_cons E_bytes_ok (tabs_cons E_crun_ok (tabs_cons E_rcrun_ok (tabs_cons E_rcsame_ok (tabs_cons E_cfinish_ok (tabs_cons E_rcfinish_ok tabs_nil))))))))))) _ rfl rfl⟩ tt_mixed Tryz.func3 rfl (by decide) (by show (3 : Nat) ≤ _; exact Nat.le_of_ble_eq_true rfl) ⟨fun m hm => (V.bare_has rfl m hm).elim, by simp, by simp⟩ ?_
  simp only [↓gPre, gPost, gCore, gDef, Nat.reduceShiftRight, Nat.reduceMod, if_true, if_false, ↓reduceIte, reduceCtorEq, Nat.reduceEqDiff, Nat.reduceLT, Nat.reduceLeDiff, implies_true, forall_const, eq_self, ne_eq, not_true_eq_false, not_false_eq_true, imp_self, Nat.reduceAdd, Nat.reduceMul, Int.reduceLE, Int.reduceLT, Int.reduceNeg, Int.reduceAdd, Int.reduceToNat, E_sane_eq, E_new_eq, E_formats_eq, E_cnew_eq, E_rcnew_eq, E_bytes_eq, E_crun_eq, E_rcrun_eq, E_rcsame_eq, E_cfinish_eq, E_rcfinish_eq, ph_eta, rs_eta, fm_eta, cv_eta, cvtD_eq, cvtC_eq, Tryz.ntmps3, Tryz.results3, gTT]
  refine fun h0 => ?_
  have hr2 : r.length ≤ 200 := by have := of_decide_eq_false h0; omega
  have g0 := fg_fx (List.take 300 s)
  have g1 := fg_fx (fxR (List.take 300 s))
  generalize fxF (List.take 300 s) = x at *
  generalize fxF (fxR (List.take 300 s)) = y at *
  generalize fxR (fxR (List.take 300 s)) = l1 at *
  have ht1 : 0 ≤ w.tmod 12 ∧ w.tmod 12 < 12 := by rw [Int.tmod_eq_emod_of_nonneg hw.1]; omega
  rw [IntWalk.i64_in (w.tmod 12) (by omega)]
  have hm := (chV_in g0.m).2.1
  have hm' := (chV_in g1.m).2.1
  have f1 := fmZ_mul x (w := w.tmod 12) (B := 12) ht1.1 (by omega)
  have f2 := fmZ_mul x (w := 3) (B := 12) (by decide) (by decide)
  have hb0 := btO_len l1 (w.tmod 12 * fmZ x).toNat
  have hb1 := btO_len (btR l1 (w.tmod 12 * fmZ x).toNat) (3 * fmZ x).toNat
  generalize btO l1 (w.tmod 12 * fmZ x).toNat = b0 at *
  generalize btO (btR l1 (w.tmod 12 * fmZ x).toNat) (3 * fmZ x).toNat = b1 at *
  have H := ok_fg g0 g1
  have hs0 : smallC (cnR x y) := cn_small H
  have hcn := (cn_ok H).1
  rw [hcn]
  refine ⟨⟨by omega, by omega⟩, ⟨by omega, by omega⟩, fun h => absurd h (by decide), fun _ => ⟨by kernel_rfl, by decide, ⟨by omega, by omega, by omega⟩, by omega, ?_⟩⟩
  generalize hc0 : cnR x y = S0 at *
  have hs1 := rsS_keep hs0 (b := b0) (by omega)
  have hs2 := rsS_keep hs1 (b := r) (by omega)
  have hs3 := rsS_keep hs2 (b := b1) (by omega)
  refine ELoop_keep (fun g => ⟨[(64, vI .i64 (g : Nat))], [(⟨1, 10⟩, [.d (.int .i64 (rsQ S0 b0 r b1 g).f.k), .d (.int .i64 (rsQ S0 b0 r b1 g).f.r), .d (.list (LI .i64 (rsQ S0 b0 r b1 g).f.m)), .d (.int .i64 (rsQ S0 b0 r b1 g).t.k), .d (.int .i64 (rsQ S0 b0 r b1 g).t.r), .d (.list (LI .i64 (rsQ S0 b0 r b1 g).t.m)), .d (.int .i64 (rsQ S0 b0 r b1 g).mi), .d (.int .i64 (rsQ S0 b0 r b1 g).mo), .d (.list (LI .i64 (rsQ S0 b0 r b1 g).mc)), .d (.int .i64 (rsQ S0 b0 r b1 g).r.c), .d (.int .i64 (rsQ S0 b0 r b1 g).r.p.n), .d (.int .i64 (rsQ S0 b0 r b1 g).r.p.d), .d (.int .i64 (rsQ S0 b0 r b1 g).r.p.a), .d (.int .i64 (rsQ S0 b0 r b1 g).r.p.p), .d (.int .i64 (rsQ S0 b0 r b1 g).r.p.f), .d (.list (LI .i32 (rsQ S0 b0 r b1 g).r.l))]), (⟨1, 12⟩, [.d (.int .i64 (rsQ S0 b0 r b1 g).f.k), .d (.int .i64 (rsQ S0 b0 r b1 g).f.r), .d (.list (LI .i64 (rsQ S0 b0 r b1 g).f.m)), .d (.int .i64 (rsQ S0 b0 r b1 g).t.k), .d (.int .i64 (rsQ S0 b0 r b1 g).t.r), .d (.list (LI .i64 (rsQ S0 b0 r b1 g).t.m)), .d (.int .i64 (rsQ S0 b0 r b1 g).mi), .d (.int .i64 (rsQ S0 b0 r b1 g).mo), .d (.list (LI .i64 (rsQ S0 b0 r b1 g).mc)), .d (.int .i64 (rsQ S0 b0 r b1 g).r.c), .d (.int .i64 (rsQ S0 b0 r b1 g).r.p.n), .d (.int .i64 (rsQ S0 b0 r b1 g).r.p.d), .d (.int .i64 (rsQ S0 b0 r b1 g).r.p.a), .d (.int .i64 (rsQ S0 b0 r b1 g).r.p.p), .d (.int .i64 (rsQ S0 b0 r b1 g).r.p.f), .d (.list (LI .i32 (rsQ S0 b0 r b1 g).r.l))])], []⟩) (fun g => g ≤ 3) (fun g => 3 - g) (· + 1) 0 (by decide) ?_ ?_
  · simp only [↓gPre, gPost, gCore, gDef, Nat.reduceShiftRight, Nat.reduceMod, if_true, if_false, ↓reduceIte, reduceCtorEq, Nat.reduceEqDiff, Nat.reduceLT, Nat.reduceLeDiff, implies_true, forall_const, eq_self, ne_eq, not_true_eq_false, not_false_eq_true, imp_self, Nat.reduceAdd, Nat.reduceMul, Int.reduceLE, Int.reduceLT, Int.reduceNeg, Int.reduceAdd, Int.reduceToNat, E_sane_eq, E_new_eq, E_formats_eq, E_cnew_eq, E_rcnew_eq, E_bytes_eq, E_crun_eq, E_rcrun_eq, E_rcsame_eq, E_cfinish_eq, E_rcfinish_eq, ph_eta, rs_eta, fm_eta, cv_eta, cvtD_eq, cvtC_eq, Tryz.ntmps3, Tryz.results3, gTT]
    repeat' (first | rfl | apply And.intro)
  intro g hg
  obtain ⟨a0, a1, a2, a3⟩ : rsQ S0 b0 r b1 0 = S0 ∧ rsQ S0 b0 r b1 1 = rsS S0 b0 ∧ rsQ S0 b0 r b1 2 = rsS (rsS S0 b0) r ∧ rsQ S0 b0 r b1 3 = rsS (rsS (rsS S0 b0) r) b1 := ⟨rfl, rfl, rfl, rfl⟩
  obtain rfl | rfl | rfl | rfl : g = 0 ∨ g = 1 ∨ g = 2 ∨ g = 3 := by omega
  · simp only [↓gPre, gPost, gCore, gDef, Nat.reduceShiftRight, Nat.reduceMod, if_true, if_false, ↓reduceIte, reduceCtorEq, Nat.reduceEqDiff, Nat.reduceLT, Nat.reduceLeDiff, implies_true, forall_const, eq_self, ne_eq, not_true_eq_false, not_false_eq_true, imp_self, Nat.reduceAdd, Nat.reduceMul, Int.reduceLE, Int.reduceLT, Int.reduceNeg, Int.reduceAdd, Int.reduceToNat, E_sane_eq, E_new_eq, E_formats_eq, E_cnew_eq, E_rcnew_eq, E_bytes_eq, E_crun_eq, E_rcrun_eq, E_rcsame_eq, E_cfinish_eq, E_rcfinish_eq, ph_eta, rs_eta, fm_eta, cv_eta, cvtD_eq, cvtC_eq, Tryz.ntmps3, Tryz.results3, gTT]
    simp only [a0, a1, a2, a3]
    obtain ⟨k1, k2, k3, k4⟩ := ru_keep2 hs0 (b := b0) (by omega)
    obtain ⟨m1, m2, m3, m4⟩ := hs0
    refine fun _ => ⟨by decide, ⟨m1, m2, m3, m4, by omega⟩, ⟨m1, m2, m3, m4, by omega⟩, ⟨5, Tryz.underlying22, Tryz.underlying5, Tryz.underlying9⟩, ⟨5, Tryz.underlying22, Tryz.underlying5, Tryz.underlying9⟩, ⟨k1, k2, k3, k4⟩, fun h => ?_, fun h => ?_⟩
    · have hz : ruE S0 b0 = 0 := by simpa using h
      rw [rsS_ok hz]
      exact ⟨by kernel_rfl, ⟨k1, k2, k3, k4⟩, ⟨k1, k2, k3, k4⟩, ⟨5, Tryz.underlying22, Tryz.underlying5, Tryz.underlying9⟩, ⟨5, Tryz.underlying22, Tryz.underlying5, Tryz.underlying9⟩, ⟨by decide, rfl, rfl, rfl, rfl, rfl, rfl, rfl, rfl, rfl, rfl, rfl, rfl, rfl, rfl, rfl, rfl⟩, by decide⟩
    · have hz : ruE S0 b0 ≠ 0 := by simpa using h
      rw [rsS_no hz]
      exact ⟨⟨m1, m2, m3, m4⟩, ⟨m1, m2, m3, m4⟩, ⟨5, Tryz.underlying22, Tryz.underlying5, Tryz.underlying9⟩, ⟨5, Tryz.underlying22, Tryz.underlying5, Tryz.underlying9⟩, ⟨by decide, rfl, rfl, rfl, rfl, rfl, rfl, rfl, rfl, rfl, rfl, rfl, rfl, rfl, rfl, rfl, rfl⟩, by decide⟩
  · simp only [↓gPre, gPost, gCore, gDef, Nat.reduceShiftRight, Nat.reduceMod, if_true, if_false, ↓reduceIte, reduceCtorEq, Nat.reduceEqDiff, Nat.reduceLT, Nat.reduceLeDiff, implies_true, forall_const, eq_self, ne_eq, not_true_eq_false, not_false_eq_true, imp_self, Nat.reduceAdd, Nat.reduceMul, Int.reduceLE, Int.reduceLT, Int.reduceNeg, Int.reduceAdd, Int.reduceToNat, E_sane_eq, E_new_eq, E_formats_eq, E_cnew_eq, E_rcnew_eq, E_bytes_eq, E_crun_eq, E_rcrun_eq, E_rcsame_eq, E_cfinish_eq, E_rcfinish_eq, ph_eta, rs_eta, fm_eta, cv_eta, cvtD_eq, cvtC_eq, Tryz.ntmps3, Tryz.results3, gTT]
    simp only [a0, a1, a2, a3]
    obtain ⟨k1, k2, k3, k4⟩ := ru_keep2 hs1 (b := r) (by omega)
    obtain ⟨m1, m2, m3, m4⟩ := hs1
    refine fun _ => ⟨by decide, ⟨m1, m2, m3, m4, by omega⟩, ⟨m1, m2, m3, m4, by omega⟩, ⟨5, Tryz.underlying22, Tryz.underlying5, Tryz.underlying9⟩, ⟨5, Tryz.underlying22, Tryz.underlying5, Tryz.underlying9⟩, ⟨k1, k2, k3, k4⟩, fun h => ?_, fun h => ?_⟩
    · have hz : ruE (rsS S0 b0) r = 0 := by simpa using h
      rw [rsS_ok hz]
      exact ⟨by kernel_rfl, ⟨k1, k2, k3, k4⟩, ⟨k1, k2, k3, k4⟩, ⟨5, Tryz.underlying22, Tryz.underlying5, Tryz.underlying9⟩, ⟨5, Tryz.underlying22, Tryz.underlying5, Tryz.underlying9⟩, ⟨by decide, rfl, rfl, rfl, rfl, rfl, rfl, rfl, rfl, rfl, rfl, rfl, rfl, rfl, rfl, rfl, rfl⟩, by decide⟩
    · have hz : ruE (rsS S0 b0) r ≠ 0 := by simpa using h
      rw [rsS_no hz]
      exact ⟨⟨m1, m2, m3, m4⟩, ⟨m1, m2, m3, m4⟩, ⟨5, Tryz.underlying22, Tryz.underlying5, Tryz.underlying9⟩, ⟨5, Tryz.underlying22, Tryz.underlying5, Tryz.underlying9⟩, ⟨by decide, rfl, rfl, rfl, rfl, rfl, rfl, rfl, rfl, rfl, rfl, rfl, rfl, rfl, rfl, rfl, rfl⟩, by decide⟩
  · simp only [↓gPre, gPost, gCore, gDef, Nat.reduceShiftRight, Nat.reduceMod, if_true, if_false, ↓reduceIte, reduceCtorEq, Nat.reduceEqDiff, Nat.reduceLT, Nat.reduceLeDiff, implies_true, forall_const, eq_self, ne_eq, not_true_eq_false, not_false_eq_true, imp_self, Nat.reduceAdd, Nat.reduceMul, Int.reduceLE, Int.reduceLT, Int.reduceNeg, Int.reduceAdd, Int.reduceToNat, E_sane_eq, E_new_eq, E_formats_eq, E_cnew_eq, E_rcnew_eq, E_bytes_eq, E_crun_eq, E_rcrun_eq, E_rcsame_eq, E_cfinish_eq, E_rcfinish_eq, ph_eta, rs_eta, fm_eta, cv_eta, cvtD_eq, cvtC_eq, Tryz.ntmps3, Tryz.results3, gTT]
    simp only [a0, a1, a2, a3]
    obtain ⟨k1, k2, k3, k4⟩ := ru_keep2 hs2 (b := b1) (by omega)
    obtain ⟨m1, m2, m3, m4⟩ := hs2
    refine fun _ => ⟨by decide, ⟨m1, m2, m3, m4, by omega⟩, ⟨m1, m2, m3, m4, by omega⟩, ⟨5, Tryz.underlying22, Tryz.underlying5, Tryz.underlying9⟩, ⟨5, Tryz.underlying22, Tryz.underlying5, Tryz.underlying9⟩, ⟨k1, k2, k3, k4⟩, fun h => ?_, fun h => ?_⟩
    · have hz : ruE (rsS (rsS S0 b0) r) b1 = 0 := by simpa using h
      rw [rsS_ok hz]
      exact ⟨by kernel_rfl, ⟨k1, k2, k3, k4⟩, ⟨k1, k2, k3, k4⟩, ⟨5, Tryz.underlying22, Tryz.underlying5, Tryz.underlying9⟩, ⟨5, Tryz.underlying22, Tryz.underlying5, Tryz.underlying9⟩, ⟨by decide, rfl, rfl, rfl, rfl, rfl, rfl, rfl, rfl, rfl, rfl, rfl, rfl, rfl, rfl, rfl, rfl⟩, by decide⟩
    · have hz : ruE (rsS (rsS S0 b0) r) b1 ≠ 0 := by simpa using h
      rw [rsS_no hz]
      exact ⟨⟨m1, m2, m3, m4⟩, ⟨m1, m2, m3, m4⟩, ⟨5, Tryz.underlying22, Tryz.underlying5, Tryz.underlying9⟩, ⟨5, Tryz.underlying22, Tryz.underlying5, Tryz.underlying9⟩, ⟨by decide, rfl, rfl, rfl, rfl, rfl, rfl, rfl, rfl, rfl, rfl, rfl, rfl, rfl, rfl, rfl, rfl⟩, by decide⟩
  · simp only [↓gPre, gPost, gCore, gDef, Nat.reduceShiftRight, Nat.reduceMod, if_true, if_false, ↓reduceIte, reduceCtorEq, Nat.reduceEqDiff, Nat.reduceLT, Nat.reduceLeDiff, implies_true, forall_const, eq_self, ne_eq, not_true_eq_false, not_false_eq_true, imp_self, Nat.reduceAdd, Nat.reduceMul, Int.reduceLE, Int.reduceLT, Int.reduceNeg, Int.reduceAdd, Int.reduceToNat, E_sane_eq, E_new_eq, E_formats_eq, E_cnew_eq, E_rcnew_eq, E_bytes_eq, E_crun_eq, E_rcrun_eq, E_rcsame_eq, E_cfinish_eq, E_rcfinish_eq, ph_eta, rs_eta, fm_eta, cv_eta, cvtD_eq, cvtC_eq, Tryz.ntmps3, Tryz.results3, gTT]
    exact fun h => absurd h (by decide)

end Go.Vam
