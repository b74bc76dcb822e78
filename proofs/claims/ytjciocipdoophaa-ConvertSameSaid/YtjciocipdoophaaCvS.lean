/- The law ConvertSame gives true. Conditions: none. -/
import Derived.Test.YtjciocipdoophaaCvP
set_option linter.unusedVariables false
set_option linter.defProp false
set_option linter.unusedSimpArgs false
set_option maxRecDepth 40000
set_option maxHeartbeats 4000000
namespace Go.Vam
open Go.Proofs

theorem spec_lsame (s : List UInt8) (w : Int) (hw : 0 ≤ w ∧ w ≤ 255) : Spec Try.prog 0 5 [vL (LB s), vI .u8 w] [] [] (vB true) [] [] := by
  refine spec_of_E (X := ⟨Try.prog, tt, Try.f5.ntmps, 1, fun _ => 0, (tab [(8, E_sane), (10, E_new), (9, E_formats), (11, E_cnew), (20, E_bytes), (21, E_crun), (22, E_cfinish)])⟩) (M := [(11, [0, 0, 0, 0, 0, 75555557882905244139379, 0, 0, 0, 0, 0, 75484076749619619626867, 0, 0, 0, 0, 0, 68548100977904828219251, 0, 0, 0])]) (m := 134414195) rfl rfl ⟨tt_ok, tab_ok (tabs_cons E_sane_ok (tabs_cons E_new_ok (tabs_cons E_formats_ok (tabs_cons E_cnew_ok (tabs_cons E_bytes_ok (tabs_cons E_crun_ok (tabs_cons E_cfinish_ok tabs_nil))))))) _ rfl rfl⟩ tt_mixed Try.func5 rfl (by decide) (by show (2 : Nat) ≤ _; exact Nat.le_of_ble_eq_true rfl) ⟨fun m hm => (V.bare_has rfl m hm).elim, by simp, by simp⟩ ?_
  simp only [↓gPre, gPost, gCore, gDef, Nat.reduceShiftRight, Nat.reduceMod, if_true, if_false, ↓reduceIte, reduceCtorEq, Nat.reduceEqDiff, Nat.reduceLT, Nat.reduceLeDiff, implies_true, forall_const, eq_self, ne_eq, not_true_eq_false, not_false_eq_true, imp_self, Nat.reduceAdd, Nat.reduceMul, Int.reduceLE, Int.reduceLT, Int.reduceNeg, Int.reduceAdd, Int.reduceToNat, E_sane_eq, E_new_eq, E_formats_eq, E_cnew_eq, E_bytes_eq, E_crun_eq, E_cfinish_eq, ph_eta, rs_eta, fm_eta, cv_eta, cvtD_eq, cvtC_eq, Try.ntmps5, Try.results5, gTT]
  have g0 := fg_fx (List.take 300 s)
  have hid : dfO (fxF (List.take 300 s)).m (fxF (List.take 300 s)).m = idL (fxF (List.take 300 s)).m.length := (map_id _).2.1
  generalize fxF (List.take 300 s) = x at *
  generalize fxR (fxR (List.take 300 s)) = l1 at *
  obtain ⟨w1, w2⟩ := mod20 hw
  rw [w1]
  generalize (w.tmod 20).toNat = F at *
  have hk := g0.k
  refine ⟨fun h => ?_, fun h => ?_⟩
  · have h1 := of_decide_eq_true h
    have gy := fg_k g0 (k := x.k - 2) (by omega)
    rw [IntWalk.i64_in (x.k - 2) (by omega)]
    obtain ⟨e1, e2, e3, e4, e5, ⟨a1, a2, a3, a4⟩, ⟨b1, b2, b3, b4⟩, e8, ⟨e9, e10⟩, e11⟩ := same_law gy (by show x.k - 2 ≤ 5; omega) hid w2 l1
    rw [e1, e2, e3, e4, e5]
    exact ⟨e11, by decide, ⟨e11, by omega, by omega⟩, ⟨a1, a2, a3, a4, e8⟩, ⟨b1, b2, b3, b4⟩, ⟨5, Try.underlying25, Try.underlying5, Try.underlying9⟩, ⟨5, Try.underlying25, Try.underlying5, Try.underlying9⟩, fun _ => by omega, ⟨5, Try.underlying25, Try.underlying5, Try.underlying9⟩, by simp⟩
  · have h1 := of_decide_eq_false h
    obtain ⟨e1, e2, e3, e4, e5, ⟨a1, a2, a3, a4⟩, ⟨b1, b2, b3, b4⟩, e8, ⟨e9, e10⟩, e11⟩ := same_law g0 (by omega) hid w2 l1
    rw [e1, e2, e3, e4, e5]
    exact ⟨e11, by decide, ⟨e11, by omega, by omega⟩, ⟨a1, a2, a3, a4, e8⟩, ⟨b1, b2, b3, b4⟩, ⟨5, Try.underlying25, Try.underlying5, Try.underlying9⟩, ⟨5, Try.underlying25, Try.underlying5, Try.underlying9⟩, fun _ => by omega, ⟨5, Try.underlying25, Try.underlying5, Try.underlying9⟩, by simp⟩

end Go.Vam
