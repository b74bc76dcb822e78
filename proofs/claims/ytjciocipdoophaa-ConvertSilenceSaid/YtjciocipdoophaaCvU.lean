/- The law ConvertSilence gives true. Conditions: none. -/
import Derived.Test.YtjciocipdoophaaCvP
set_option linter.unusedVariables false
set_option linter.defProp false
set_option linter.unusedSimpArgs false
set_option maxRecDepth 40000
set_option maxHeartbeats 4000000
namespace Go.Vam
open Go.Proofs

theorem spec_lsilence (s : List UInt8) (w : Int) (hw : 0 ≤ w ∧ w ≤ 255) : Spec Try.prog 0 7 [vL (LB s), vI .u8 w] [] [] (vB true) [] [] := by
  refine spec_of_E (X := ⟨Try.prog, tt, Try.f7.ntmps, 1, fun _ => 0, (tab [(8, E_sane), (10, E_new), (9, E_formats), (11, E_cnew), (24, E_zero), (21, E_crun), (22, E_cfinish), (18, E_fsize)])⟩) (M := [(6, [0, 0, 0, 0, 0, 18446759501232472051, 0, 0, 0, 0, 0, 18446752869802967027, 0]), (9, [0, 0, 0, 0, 0, 36821430553381568499, 0, 0, 0, 0, 0, 34587645138205802483, 0, 0]), (12, [0, 0, 0, 0, 0, 40564819131763923866053889097715, 0, 0, 0, 0, 0, 40564814371618509133451513692147, 0, 0, 0, 0, 0, 40564669300520155377950548951027, 0, 0, 0, 0, 0, 40545012166693221507569826529267, 0, 0, 0, 0, 0, 39000062997665066924495719497715, 0, 0, 0, 0])]) (m := 18446744073709944819) rfl rfl ⟨tt_ok, tab_ok (tabs_cons E_sane_ok (tabs_cons E_new_ok (tabs_cons E_formats_ok (tabs_cons E_cnew_ok (tabs_cons E_zero_ok (tabs_cons E_crun_ok (tabs_cons E_cfinish_ok (tabs_cons E_fsize_ok tabs_nil)))))))) _ rfl rfl⟩ tt_mixed Try.func7 rfl (by decide) (by show (2 : Nat) ≤ _; exact Nat.le_of_ble_eq_true rfl) ⟨fun m hm => (V.bare_has rfl m hm).elim, by simp, by simp⟩ ?_
  simp only [↓gPre, gPost, gCore, gDef, Nat.reduceShiftRight, Nat.reduceMod, if_true, if_false, ↓reduceIte, reduceCtorEq, Nat.reduceEqDiff, Nat.reduceLT, Nat.reduceLeDiff, implies_true, forall_const, eq_self, ne_eq, not_true_eq_false, not_false_eq_true, imp_self, Nat.reduceAdd, Nat.reduceMul, Int.reduceLE, Int.reduceLT, Int.reduceNeg, Int.reduceAdd, Int.reduceToNat, E_sane_eq, E_new_eq, E_formats_eq, E_cnew_eq, E_zero_eq, E_crun_eq, E_cfinish_eq, E_fsize_eq, ph_eta, rs_eta, fm_eta, cv_eta, cvtD_eq, cvtC_eq, Try.ntmps7, Try.results7, gTT]
  have g0 := fg_fx (List.take 300 s)
  have g1 := fg_fx (fxR (List.take 300 s))
  generalize fxF (List.take 300 s) = x at *
  generalize fxF (fxR (List.take 300 s)) = y at *
  obtain ⟨w1, w2⟩ := mod20 hw
  rw [w1]
  generalize (w.tmod 20).toNat = F at *
  have hn : IntKind.i64.wrap (1 + (F : Int)) = ((F + 1 : Nat) : Int) := by rw [IntWalk.i64_in _ (by omega)]; omega
  rw [hn]
  obtain ⟨e1, e2, e3, e4, ⟨K, k1, k2, k3, k4, k5⟩, ⟨a1, a2, a3, a4⟩, ⟨b1, b2, b3, b4⟩, e8, ⟨e9, e10⟩, z1, z2, z3⟩ := sil_law g0 g1 (n := F + 1) (by omega) (by omega)
  have hm := (chV_in g0.m).2.1
  have hm' := (chV_in g1.m).2.1
  have r0 := fg_rate g0
  have r1 := fg_rate g1
  rw [e1, e2, e3, e4, z1]
  have hlen := congrArg List.length k1
  rw [List.length_append] at hlen
  have hzl : (ziO y.k (K * fz y)).length = K * fz y := by simp [ziO]
  rw [hzl] at hlen
  have hKb : K * fz y ≤ 131072 * 32 := Nat.mul_le_mul k5 z3
  generalize (ruO (cnR x y) (ziO x.k ((F + 1) * fz x))) = O at *
  generalize (fnO (ruR (cnR x y) (ziO x.k ((F + 1) * fz x)))) = U at *
  have hq : IntKind.i64.wrap ((IntKind.i64.wrap ((O.length : Int) + (U.length : Int))).tdiv ((fz y : Nat) : Int)) = (K : Int) := by
    rw [← Int.natCast_add, hlen, IntWalk.i64_in ((K * fz y : Nat) : Int) (by omega), Int.natCast_mul, Int.mul_tdiv_cancel _ (by omega), IntWalk.i64_in _ (by omega)]
  rw [hq]
  have hy : ((K : Int) * ((fz y : Nat) : Int)).toNat = K * fz y := by rw [← Int.natCast_mul, Int.toNat_natCast]
  rw [hy]
  have p0 : 0 ≤ ((K : Int) - 1) * x.r := Int.mul_nonneg (by omega) (by omega)
  have p1 : ((F + 1 : Nat) : Int) * y.r ≤ 20 * 96000 := Int.mul_le_mul (by omega) r1.2 (by omega) (by decide)
  have p2 : (K : Int) * x.r = ((K : Int) - 1) * x.r + x.r := by rw [Int.sub_mul, Int.one_mul]; omega
  have p3 : 0 ≤ ((F + 1 : Nat) : Int) * y.r := Int.mul_nonneg (by omega) (by omega)
  rw [IntWalk.i64_in ((K : Int) - 1) (by omega), IntWalk.i64_in (((K : Int) - 1) * x.r) (by omega), IntWalk.i64_in (((F + 1 : Nat) : Int) * y.r) (by omega), IntWalk.i64_in ((K : Int) * x.r) (by omega)]
  refine ⟨by decide, ⟨by omega, by omega⟩, by kernel_rfl, ⟨by omega, by omega, by omega⟩, ⟨a1, a2, a3, a4, e8⟩, ⟨b1, b2, b3, b4⟩, by omega, fun h => ?_, fun _ => ⟨by omega, by kernel_rfl, ⟨5, Try.underlying25, Try.underlying5, Try.underlying9⟩, ⟨5, Try.underlying25, Try.underlying5, Try.underlying9⟩, by omega, ⟨by omega, by omega, by omega⟩, ⟨5, Try.underlying25, Try.underlying5, Try.underlying9⟩, ?_⟩⟩
  · simp only [bne_self_eq_false, Bool.or_self, Bool.false_or, beq_iff_eq] at h
    omega
  · rw [k1, decide_eq_true k2, decide_eq_true k3]
    simp

end Go.Vam
