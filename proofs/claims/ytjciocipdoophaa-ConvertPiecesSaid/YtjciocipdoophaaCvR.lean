/- The law ConvertPieces gives true. Conditions: none. -/
import Derived.Test.YtjciocipdoophaaCvP
set_option linter.unusedVariables false
set_option linter.defProp false
set_option linter.unusedSimpArgs false
set_option maxRecDepth 40000
set_option maxHeartbeats 4000000
namespace Go.Vam
open Go.Proofs

theorem spec_lpieces (s p : List UInt8) (w : Int) (hw : 0 ≤ w ∧ w ≤ 255) : Spec Try.prog 0 4 [vL (LB s), vL (LB p), vI .u8 w] [] [] (vB true) [] [] := by
  refine spec_of_E (X := ⟨Try.prog, tt, Try.f4.ntmps, 1, fun _ => 0, (tab [(8, E_sane), (10, E_new), (9, E_formats), (11, E_cnew), (20, E_bytes), (21, E_crun), (22, E_cfinish), (18, E_fsize), (13, E_rcsame)])⟩) (M := [(20, [0, 0, 0, 0, 0, 162338258390930483897021006610375, 0, 0, 0, 0, 0, 162318722149685511489557754806215, 0, 0]), (21, [0, 0, 0, 0, 0, 238397545861194727829691537817543, 0, 0, 0, 0, 0, 223106510495941710674137555402695, 0, 0]), (27, [0, 0, 0, 0, 0, 356811582894285308607793015687168648129019847, 0, 0, 0, 0, 0, 356801034140910759515425651074338263314464711, 0, 0, 0, 0, 0, 355418126601744065599910496669735557303107527, 0, 0, 0, 0, 0, 270396535532346064872805570755263679061557191, 0, 0])]) (m := 162259281684986699402295801544647) rfl rfl ⟨tt_ok, tab_ok (tabs_cons E_sane_ok (tabs_cons E_new_ok (tabs_cons E_formats_ok (tabs_cons E_cnew_ok (tabs_cons E_bytes_ok (tabs_cons E_crun_ok (tabs_cons E_cfinish_ok (tabs_cons E_fsize_ok (tabs_cons E_rcsame_ok tabs_nil))))))))) _ rfl rfl⟩ tt_mixed Try.func4 rfl (by decide) (by show (3 : Nat) ≤ _; exact Nat.le_of_ble_eq_true rfl) ⟨fun m hm => (V.bare_has rfl m hm).elim, by simp, by simp⟩ ?_
  simp only [↓gPre, gPost, gCore, gDef, Nat.reduceShiftRight, Nat.reduceMod, if_true, if_false, ↓reduceIte, reduceCtorEq, Nat.reduceEqDiff, Nat.reduceLT, Nat.reduceLeDiff, implies_true, forall_const, eq_self, ne_eq, not_true_eq_false, not_false_eq_true, imp_self, Nat.reduceAdd, Nat.reduceMul, Int.reduceLE, Int.reduceLT, Int.reduceNeg, Int.reduceAdd, Int.reduceToNat, E_sane_eq, E_new_eq, E_formats_eq, E_cnew_eq, E_bytes_eq, E_crun_eq, E_cfinish_eq, E_fsize_eq, E_rcsame_eq, ph_eta, rs_eta, fm_eta, cv_eta, cvtD_eq, cvtC_eq, Try.ntmps4, Try.results4, gTT]
  refine fun h0 => ?_
  have g0 := fg_fx (List.take 300 s)
  have g1 := fg_fx (fxR (List.take 300 s))
  generalize fxF (List.take 300 s) = x at *
  generalize fxF (fxR (List.take 300 s)) = y at *
  generalize fxR (fxR (List.take 300 s)) = l1 at *
  obtain ⟨w1, w2⟩ := mod20 hw
  rw [w1]
  generalize (w.tmod 20).toNat = F at *
  obtain ⟨e1, e2, e3, e4, ⟨a1, a2, a3, a4⟩, e5, z1, z2, z3, e6, e7⟩ := piece_law g0 g1 w2 l1
  have hbl : (btO l1 (F * fz x)).length = F * fz x := btO_len ..
  have hFz : F * fz x ≤ 19 * 32 := Nat.mul_le_mul w2 z3
  rw [e1, e2, e3, z1, e4, e6]
  generalize btO l1 (F * fz x) = b at *
  have hm := (chV_in g0.m).2.1
  have hm' := (chV_in g1.m).2.1
  have hp8 : p.length ≤ 8 := by have := of_decide_eq_false h0; omega
  refine ⟨⟨by omega, by omega⟩, by decide, ⟨by omega, by omega, by omega⟩, ⟨a1, a2, a3, a4, by omega⟩, by omega, fun h => ?_, fun _ => ?_⟩
  · simp only [bne_self_eq_false, Bool.or_self, Bool.false_or, beq_iff_eq] at h
    omega
  refine ELoop_nilT 17 1 ⟨1, 99⟩ rfl (by simp only [↓gPre, gPost, gCore, gDef, Nat.reduceShiftRight, Nat.reduceMod, if_true, if_false, ↓reduceIte, reduceCtorEq, Nat.reduceEqDiff, Nat.reduceLT, Nat.reduceLeDiff, implies_true, forall_const, eq_self, ne_eq, not_true_eq_false, not_false_eq_true, imp_self, Nat.reduceAdd, Nat.reduceMul, Int.reduceLE, Int.reduceLT, Int.reduceNeg, Int.reduceAdd, Int.reduceToNat, E_sane_eq, E_new_eq, E_formats_eq, E_cnew_eq, E_bytes_eq, E_crun_eq, E_cfinish_eq, E_fsize_eq, E_rcsame_eq, ph_eta, rs_eta, fm_eta, cv_eta, cvtD_eq, cvtC_eq, Try.ntmps4, Try.results4, gTT]) (Nat.le_refl _) ?_
  simp only [↓gPre, gPost, gCore, gDef, Nat.reduceShiftRight, Nat.reduceMod, if_true, if_false, ↓reduceIte, reduceCtorEq, Nat.reduceEqDiff, Nat.reduceLT, Nat.reduceLeDiff, implies_true, forall_const, eq_self, ne_eq, not_true_eq_false, not_false_eq_true, imp_self, Nat.reduceAdd, Nat.reduceMul, Int.reduceLE, Int.reduceLT, Int.reduceNeg, Int.reduceAdd, Int.reduceToNat, E_sane_eq, E_new_eq, E_formats_eq, E_cnew_eq, E_bytes_eq, E_crun_eq, E_cfinish_eq, E_fsize_eq, E_rcsame_eq, ph_eta, rs_eta, fm_eta, cv_eta, cvtD_eq, cvtC_eq, Try.ntmps4, Try.results4, gTT]
  refine ELoop_keep (fun i => ⟨[(19, vI .i64 (i : Nat)), (18, vI .i64 ((pcQ F p i * fz x : Nat) : Int)), (17, .c (.own ⟨1, 99⟩ (LB (ouB x y (pcQ F p i) (b.take (pcQ F p i * fz x))))))], [(⟨1, 10⟩, [.d (.int .i64 (cvS x y (pcQ F p i) (b.take (pcQ F p i * fz x))).f.k), .d (.int .i64 (cvS x y (pcQ F p i) (b.take (pcQ F p i * fz x))).f.r), .d (.list (LI .i64 (cvS x y (pcQ F p i) (b.take (pcQ F p i * fz x))).f.m)), .d (.int .i64 (cvS x y (pcQ F p i) (b.take (pcQ F p i * fz x))).t.k), .d (.int .i64 (cvS x y (pcQ F p i) (b.take (pcQ F p i * fz x))).t.r), .d (.list (LI .i64 (cvS x y (pcQ F p i) (b.take (pcQ F p i * fz x))).t.m)), .d (.int .i64 (cvS x y (pcQ F p i) (b.take (pcQ F p i * fz x))).mi), .d (.int .i64 (cvS x y (pcQ F p i) (b.take (pcQ F p i * fz x))).mo), .d (.list (LI .i64 (cvS x y (pcQ F p i) (b.take (pcQ F p i * fz x))).mc)), .d (.int .i64 (cvS x y (pcQ F p i) (b.take (pcQ F p i * fz x))).r.c), .d (.int .i64 (cvS x y (pcQ F p i) (b.take (pcQ F p i * fz x))).r.p.n), .d (.int .i64 (cvS x y (pcQ F p i) (b.take (pcQ F p i * fz x))).r.p.d), .d (.int .i64 (cvS x y (pcQ F p i) (b.take (pcQ F p i * fz x))).r.p.a), .d (.int .i64 (cvS x y (pcQ F p i) (b.take (pcQ F p i * fz x))).r.p.p), .d (.int .i64 (cvS x y (pcQ F p i) (b.take (pcQ F p i * fz x))).r.p.f), .d (.list (LI .i32 (cvS x y (pcQ F p i) (b.take (pcQ F p i * fz x))).r.l))])], [(⟨1, 99⟩, ⟨false, 1, LB (ouB x y (pcQ F p i) (b.take (pcQ F p i * fz x)))⟩)]⟩) (fun i => i ≤ p.length + 1) (fun i => p.length + 1 - i) (· + 1) 0 (Nat.zero_le _) ?_ ?_
  · simp only [↓gPre, gPost, gCore, gDef, Nat.reduceShiftRight, Nat.reduceMod, if_true, if_false, ↓reduceIte, reduceCtorEq, Nat.reduceEqDiff, Nat.reduceLT, Nat.reduceLeDiff, implies_true, forall_const, eq_self, ne_eq, not_true_eq_false, not_false_eq_true, imp_self, Nat.reduceAdd, Nat.reduceMul, Int.reduceLE, Int.reduceLT, Int.reduceNeg, Int.reduceAdd, Int.reduceToNat, E_sane_eq, E_new_eq, E_formats_eq, E_cnew_eq, E_bytes_eq, E_crun_eq, E_cfinish_eq, E_fsize_eq, E_rcsame_eq, ph_eta, rs_eta, fm_eta, cv_eta, cvtD_eq, cvtC_eq, Try.ntmps4, Try.results4, gTT]
    have q0 : pcQ F p 0 = 0 := rfl
    rw [q0, Nat.zero_mul, List.take_zero, ouB_zero (ok_fg g0 g1)]
    exact ⟨⟨rfl, rfl, rfl⟩, ⟨rfl, rfl, rfl, rfl, rfl, rfl, rfl, rfl, rfl, rfl, rfl, rfl, rfl, rfl, rfl, rfl⟩, rfl⟩
  intro i hi
  simp only [↓gPre, gPost, gCore, gDef, Nat.reduceShiftRight, Nat.reduceMod, if_true, if_false, ↓reduceIte, reduceCtorEq, Nat.reduceEqDiff, Nat.reduceLT, Nat.reduceLeDiff, implies_true, forall_const, eq_self, ne_eq, not_true_eq_false, not_false_eq_true, imp_self, Nat.reduceAdd, Nat.reduceMul, Int.reduceLE, Int.reduceLT, Int.reduceNeg, Int.reduceAdd, Int.reduceToNat, E_sane_eq, E_new_eq, E_formats_eq, E_cnew_eq, E_bytes_eq, E_crun_eq, E_cfinish_eq, E_fsize_eq, E_rcsame_eq, ph_eta, rs_eta, fm_eta, cv_eta, cvtD_eq, cvtC_eq, Try.ntmps4, Try.results4, gTT]
  have q1 := pcQ_le F p i
  have q2 := pcQ_le F p (i + 1)
  have q3 := pcQ_mono F p i
  obtain ⟨s1, s2, s3, s4, ⟨s5, s6, s7, s8⟩, s9, s10⟩ := piece_step g0 g1 q3 q2 w2 hbl
  refine ⟨fun h => ⟨fun h2 => ?_, fun h2 => ?_⟩, fun h => ?_⟩
  · have hip : i < p.length := by have := of_decide_eq_true h2; omega
    have hto := piece_to (n := F) (z := fz x) ⟨z2, z3⟩ w2 (q := pcQ F p i) (k := (p[i]?.getD 0).toNat) (by have := u8_lt (p[i]?.getD 0); omega) q1
    have hqs : pcQ F p (i + 1) = min F (pcQ F p i + (p[i]?.getD 0).toNat % 6) := by
      show (if i < p.length then _ else _) = _
      rw [if_pos hip]
    rw [← hqs, ← hbl] at hto
    rw [hto, Int.toNat_natCast, s1, s2]
    have s3l := congrArg List.length s3
    rw [List.length_append] at s3l
    rw [s3]
    refine ⟨by omega, by decide, by kernel_rfl, ⟨by omega, by omega, by omega, by omega⟩, ⟨s5, s6, s7, s8, by rw [List.length_take, List.length_drop]; omega⟩, fun h3 => absurd h3 (by decide), fun _ => ⟨by kernel_rfl, by unfold roomOK; omega, ⟨⟨(wrapN _ (by omega)).symm, rfl, rfl⟩, ⟨rfl, rfl, rfl, rfl, rfl, rfl, rfl, rfl, rfl, rfl, rfl, rfl, rfl, rfl, rfl, rfl⟩, rfl⟩, by omega, by omega⟩⟩
  · have hip : i = p.length := by have := of_decide_eq_true h; have := of_decide_eq_false h2; omega
    have hqs : pcQ F p (i + 1) = F := by rw [hip]; exact pcQ_end F p
    have hbm : b.length = pcQ F p (i + 1) * fz x := by rw [hqs, hbl]
    rw [hbm, s1, s2]
    have s3l := congrArg List.length s3
    rw [List.length_append] at s3l
    rw [s3]
    refine ⟨by kernel_rfl, ⟨by omega, by omega, by omega⟩, ⟨s5, s6, s7, s8, by rw [List.length_take, List.length_drop]; omega⟩, fun h3 => absurd h3 (by decide), fun _ => ⟨by kernel_rfl, by unfold roomOK; omega, ⟨⟨(wrapN _ (by omega)).symm, rfl, rfl⟩, ⟨rfl, rfl, rfl, rfl, rfl, rfl, rfl, rfl, rfl, rfl, rfl, rfl, rfl, rfl, rfl, rfl⟩, rfl⟩, by omega, by omega⟩⟩
  · have hip : i = p.length + 1 := by have := of_decide_eq_false h; omega
    have hqs : pcQ F p i = F := by rw [hip]; exact pcQ_end F p
    have hbt : b.take (F * fz x) = b := List.take_of_length_le (by omega)
    rw [hqs, hbt] at s5 s6 s7 s8 ⊢
    rw [e7]
    have hf := (fin_ok (ok_fg g0 g1) (W := F) (by omega) b).1
    exact ⟨⟨s5, s6, s7, s8⟩, ⟨s5, s6, s7, s8⟩, ⟨5, Try.underlying25, Try.underlying5, Try.underlying9⟩, ⟨5, Try.underlying25, Try.underlying5, Try.underlying9⟩, fun _ => ⟨s5, s6, s7, s8⟩, ⟨5, Try.underlying25, Try.underlying5, Try.underlying9⟩, ⟨5, Try.underlying25, Try.underlying5, Try.underlying9⟩, by rw [hf]; simp⟩

end Go.Vam
