/- The law ConvertThere gives true. Conditions: none. -/
import Derived.Test.YtjciocipdoophaaCvP
set_option linter.unusedVariables false
set_option linter.defProp false
set_option linter.unusedSimpArgs false
set_option maxRecDepth 40000
set_option maxHeartbeats 4000000
namespace Go.Vam
open Go.Proofs

theorem spec_lthere (s : List UInt8) (w t : Int) (hw : 0 ≤ w ∧ w ≤ 255) (ht : 0 ≤ t ∧ t ≤ 255) : Spec Try.prog 0 6 [vL (LB s), vI .u8 w, vI .u8 t] [] [] (vB true) [] [] := by
  refine spec_of_E (X := ⟨Try.prog, tt, Try.f6.ntmps, 1, fun _ => 0, (tab [(8, E_sane), (10, E_new), (9, E_formats), (23, E_next), (11, E_cnew), (20, E_bytes), (21, E_crun), (22, E_cfinish)])⟩) (M := [(7, [0, 0, 0, 0, 0, 8945627006238151, 0, 0, 0, 0, 0, 0]), (9, [0, 0, 0, 0, 0, 1171368248680959180231, 0, 0, 0, 0, 0, 0]), (15, [0, 0, 0, 0, 0, 1218212226819328454838332183018951, 0, 0, 0, 0, 0, 973555660975280180349468464381383, 0, 0]), (17, [0, 0, 0, 0, 0, 178405960259016989347369873277379832170151367, 0, 0, 0, 0, 0, 178405919052949120014977813259360963479469511, 0, 0, 0, 0, 0, 178400517070374250116870332187467984159112647, 0, 0, 0, 0, 0, 178231737016381464638992498382181827126230471, 0, 0, 0, 0, 0, 161854627261210538269427205275705686645276103, 0, 0, 0])]) (m := 402652615) rfl rfl ⟨tt_ok, tab_ok (tabs_cons E_sane_ok (tabs_cons E_new_ok (tabs_cons E_formats_ok (tabs_cons E_next_ok (tabs_cons E_cnew_ok (tabs_cons E_bytes_ok (tabs_cons E_crun_ok (tabs_cons E_cfinish_ok tabs_nil)))))))) _ rfl rfl⟩ tt_mixed Try.func6 rfl (by decide) (by show (3 : Nat) ≤ _; exact Nat.le_of_ble_eq_true rfl) ⟨fun m hm => (V.bare_has rfl m hm).elim, by simp, by simp⟩ ?_
  simp only [↓gPre, gPost, gCore, gDef, Nat.reduceShiftRight, Nat.reduceMod, if_true, if_false, ↓reduceIte, reduceCtorEq, Nat.reduceEqDiff, Nat.reduceLT, Nat.reduceLeDiff, implies_true, forall_const, eq_self, ne_eq, not_true_eq_false, not_false_eq_true, imp_self, Nat.reduceAdd, Nat.reduceMul, Int.reduceLE, Int.reduceLT, Int.reduceNeg, Int.reduceAdd, Int.reduceToNat, E_sane_eq, E_new_eq, E_formats_eq, E_next_eq, E_cnew_eq, E_bytes_eq, E_crun_eq, E_cfinish_eq, ph_eta, rs_eta, fm_eta, cv_eta, cvtD_eq, cvtC_eq, Try.ntmps6, Try.results6, gTT]
  have g0 := fg_fx (List.take 300 s)
  have hrot : ∀ k, k < (fxF (List.take 300 s)).m.length → ordF (fxF (List.take 300 s)).m (rotL (fxF (List.take 300 s)).m k) := fun k hk => map_rot _ hk
  generalize fxF (List.take 300 s) = x at *
  generalize fxR (fxR (List.take 300 s)) = l1 at *
  have hd1 := dN_ge l1 4
  have hd2 := dN_lt l1 4 (by decide)
  have hk := g0.k
  have hm1 := (chV_in g0.m).1
  have hm2 := (chV_in g0.m).2.1
  have ek : IntKind.i64.wrap (1 + x.k.tmod 5) = 1 + x.k % 5 := by rw [Int.tmod_eq_emod_of_nonneg (by omega), IntWalk.i64_in _ (by omega)]
  rw [ek]
  have hκ : 1 ≤ 1 + x.k % 5 ∧ 1 + x.k % 5 ≤ 5 := by omega
  generalize 1 + x.k % 5 = κ at *
  have gX := fg_k g0 (k := κ) (by omega)
  obtain ⟨s1, s2⟩ := sel_k hκ (i := (dN l1 4).toNat) (by omega)
  generalize (if κ < ([4, 5, κ, 7] : List Int)[(dN l1 4).toNat]?.getD 0 then ([4, 5, κ, 7] : List Int)[(dN l1 4).toNat]?.getD 0 else κ) = κ2 at *
  rw [IntWalk.i64_in t (by omega)]
  have ht1 : 0 ≤ t.tmod x.m.length ∧ t.tmod x.m.length < x.m.length := by
    rw [Int.tmod_eq_emod_of_nonneg ht.1]
    exact ⟨Int.emod_nonneg _ (by omega), Int.emod_lt_of_pos _ (by omega)⟩
  generalize t.tmod x.m.length = τ at *
  have hr := hrot τ.toNat (by omega)
  have eq : List.take (x.m.length - τ.toNat) (List.drop τ.toNat x.m) ++ List.take (τ.toNat - 0) x.m = rotL x.m τ.toNat := by
    unfold rotL
    rw [Nat.sub_zero, List.take_of_length_le (by rw [List.length_drop]; omega)]
  have ql1 : (List.take (x.m.length - τ.toNat) (List.drop τ.toNat x.m)).length ≤ 8 := by rw [List.length_take, List.length_drop]; omega
  have ql2 : (List.take (τ.toNat - 0) x.m).length ≤ 8 := by rw [List.length_take]; omega
  rw [eq]
  have hq5 : (rotL x.m τ.toNat).length = x.m.length := hr.2.2.2.2.1
  have hch := (dfE_ch hr.1).2
  generalize rotL x.m τ.toNat = q at *
  have gY := fg_m g0 (k := κ2) s1 (m := q) hch
  obtain ⟨w1, w2⟩ := mod20 hw
  rw [w1]
  generalize (w.tmod 20).toNat = F at *
  obtain ⟨e1, ⟨e2, e3⟩, ⟨e4, e5⟩, ⟨e6, e7, e8⟩, ⟨a1, a2, a3, a4⟩, ⟨b1, b2, b3, b4⟩, ⟨c1, c2, c3, c4⟩, h9, e10⟩ := there_law (x := ⟨κ, x.r, x.m⟩) (y := ⟨κ2, x.r, q⟩) gX gY hκ.2 rfl hr s2 w2 (dT l1 4)
  obtain ⟨e11, d1, d2, d3, d4⟩ := h9 _ rfl
  have e12 := congrArg List.length e8
  rw [List.length_append] at e11 e12
  rw [e1, e2, e3, e4, e5, e6, e7, e8]
  refine ⟨by decide, by kernel_rfl, ⟨by omega, by omega⟩, by omega, by kernel_rfl, ⟨by omega, by omega, by omega⟩, by unfold roomOK; omega, ⟨by omega, by omega, by omega⟩, by unfold roomOK; omega, ⟨by omega, by omega⟩, ⟨by omega, by omega⟩, by decide, ⟨by omega, by omega, by omega⟩, ⟨a1, a2, a3, a4, by omega⟩, ⟨c1, c2, c3, c4⟩, by kernel_rfl, by unfold roomOK; omega, by unfold roomOK; omega, ⟨b1, b2, b3, b4, by rw [List.length_append]; omega⟩, ⟨d1, d2, d3, d4⟩, ⟨5, Try.underlying25, Try.underlying5, Try.underlying9⟩, ⟨5, Try.underlying25, Try.underlying5, Try.underlying9⟩, fun _ => by omega, ⟨5, Try.underlying25, Try.underlying5, Try.underlying9⟩, by simp⟩

end Go.Vam
