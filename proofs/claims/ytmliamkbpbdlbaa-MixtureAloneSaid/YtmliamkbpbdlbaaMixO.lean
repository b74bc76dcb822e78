/- The law MixtureAlone gives true. Conditions: none. -/
import Derived.Test.YtmliamkbpbdlbaaMixN
set_option linter.unusedVariables false
set_option linter.defProp false
set_option linter.unusedSimpArgs false
set_option maxRecDepth 40000
set_option maxHeartbeats 4000000
namespace Go.Vam
open Go.Proofs

theorem spec_alone1 (s : List UInt8) (h1 : 0 < dN (dT (List.take 300 s) 3) 8) : Spec Try.prog 0 4 [vL (LB s)] [] [] (vB true) [] [] := by
  refine spec_of_E (X := ⟨Try.prog, tt, Try.f4.ntmps, 1, fun _ => 0, (tab [(8, E_sane), (9, E_new), (10, E_next), (16, E_ridentity), (17, E_mblockA), (18, E_rnew), (11, E_made), (14, E_mix), (19, E_psum), (15, E_same), (12, E_limit)])⟩) (M := [(13, [0, 0, 0, 0, 0, 1645598714230381919356640232080599330205705471624008056948387709, 0, 0, 0, 0, 0, 1645598714230381919356640232080599330205091563981235003070607229, 0, 0, 0]), (17, [0, 0, 0, 0, 0, 1645598714230381919356640232119825510370091413843846582834802557, 0, 0, 0, 0, 0, 0]), (18, [0, 0, 0, 0, 0, 1645598714230382650107458896701290934673473020820563014138703741, 0, 0, 0, 0, 0, 1645598714230382650107458833729114634363083542002703533357379453, 0, 0, 0, 0, 0, 1645598714230382650107453453014187697023630027391723518522535805, 0, 0, 0, 0, 0, 1645598714230382650107197560674263151299105569686934828827520893, 0, 0, 0, 0, 0, 1645598714230382650085158152333527808897509723112794065307938685, 0, 0, 0, 0, 0, 1645598714230382648702511950024629174122295190208595651937152893, 0, 0, 0, 0, 0, 1645598714230382632980486585060539859339613807991500790220959613, 0, 0, 0]), (23, [0, 0, 0, 0, 0, 1645598714613131660153955735523125943667031010695585460662546301, 0, 0, 0, 0, 0, 1645598714524085288394658482522811834179293318873988802684104573, 0, 0]), (27, [0, 0, 0, 0, 0, 1645601466592373314493029843671860092151922862499396040731373437, 0, 0, 0, 0, 0, 1645601068143532689361926670501633033071535121627224272994807677, 0, 0]), (31, [0, 0, 0, 0, 0, 3278247767197516039307273717899220534359187324927250119513845629, 0, 0, 0, 0, 0, 2481206497245056862638460520098003883508174640010984873204363133, 0]), (34, [0, 0, 0, 0, 0, 13297322421869575202531507635295472679590702423402569228455608561533, 0, 0, 0, 0, 0, 0]), (1000012, [9001])]) (m := 1645598714230381919356640232080599330196629083243932598847647613) rfl rfl ⟨tt_ok, tab_ok (tabs_cons E_sane_ok (tabs_cons E_new_ok (tabs_cons E_next_ok (tabs_cons E_ridentity_ok (tabs_cons E_mblockA_ok (tabs_cons E_rnew_ok (tabs_cons E_made_ok (tabs_cons E_mix_ok (tabs_cons E_psum_ok (tabs_cons E_same_ok (tabs_cons E_limit_ok tabs_nil))))))))))) _ rfl rfl⟩ tt_mixed Try.func4 rfl (by decide) (by show (1 : Nat) ≤ _; exact Nat.le_of_ble_eq_true rfl) ⟨fun m hm => (V.bare_has rfl m hm).elim, by simp, by simp⟩ ?_
  simp only [↓gPre, gPost, gCore, gDef, Nat.reduceShiftRight, Nat.reduceMod, if_true, if_false, ↓reduceIte, reduceCtorEq, Nat.reduceEqDiff, Nat.reduceLT, Nat.reduceLeDiff, implies_true, forall_const, eq_self, ne_eq, not_true_eq_false, not_false_eq_true, imp_self, Nat.reduceAdd, Nat.reduceMul, Int.reduceLE, Int.reduceLT, Int.reduceNeg, Int.reduceAdd, Int.reduceToNat, E_sane_eq, E_new_eq, E_next_eq, E_ridentity_eq, E_mblockA_eq, E_rnew_eq, E_made_eq, E_mix_eq, E_psum_eq, E_same_eq, E_limit_eq, LX_nil, LX_length, LX_getD, LX_append, LX_one, LX_cells, LX_inj, LX_nil_eq, LX_inps_LX, LX_take, LX_drop, inps_LX, Nat.reduceSub, Nat.reduceDiv, Try.ntmps4, Try.results4, gTT]
  have p0 := dN_ge (List.take 300 s) 3
  have p1 := dN_lt (List.take 300 s) 3 (by decide)
  have q0 := dN_ge (dT (List.take 300 s) 3) 8
  have q1 := dN_lt (dT (List.take 300 s) 3) 8 (by decide)
  rw [IntWalk.i64_in (1 + dN (List.take 300 s) 3) (by omega)]
  refine ⟨by kernel_rfl, ⟨⟨by omega, by omega⟩, ⟨by omega, by omega⟩, Int.mul_pos (by omega) h1⟩, ?_⟩
  generalize dT (dT (List.take 300 s) 3) 8 = s1 at *
  generalize dN (dT (List.take 300 s) 3) 8 = q at *
  generalize hp : 1 + dN (List.take 300 s) 3 = p at *
  have hpb : 1 ≤ p ∧ p ≤ 8 := by omega
  have hqb : 0 ≤ q ∧ q ≤ 100 := by omega
  have id3 := id_ok hpb
  rw [id3.2.1, id3.2.2.1]
  have hpq : (p * q).toNat = q.toNat * p.toNat := by rw [toNat_mul (by omega) (by omega), Nat.mul_comm]
  have hl0 : (bkO s1 (p * q).toNat).length = (p * q).toNat := by simp [bkO]
  have hbv := blkV_in (blkV_bkO s1 (c := p) (n := q) hpb (by omega))
  have hq8 := Nat.mul_le_mul (show q.toNat ≤ 8 by omega) (show p.toNat ≤ 3 by omega)
  have hq9 : p.toNat * q.toNat ≤ 24 := by rw [Nat.mul_comm]; exact hq8
  generalize bkO s1 (p * q).toNat = l0 at *
  generalize bkR s1 (p * q).toNat = s2 at *
  rw [← hl0]
  obtain ⟨cl1, cl2, cl3⟩ := clampL_in hbv.2
  refine ELoop_keep (fun g => ⟨[(56, vI .i64 (g : Nat))], [], [(⟨1, 48⟩, ⟨true, 1, LI .i32 (clampP l0 g)⟩)]⟩) (fun g => g ≤ l0.length) (fun g => l0.length - g) (· + 1) 0 (Nat.zero_le _) ?_ ?_
  · simp only [↓gPre, gPost, gCore, gDef, Nat.reduceShiftRight, Nat.reduceMod, if_true, if_false, ↓reduceIte, reduceCtorEq, Nat.reduceEqDiff, Nat.reduceLT, Nat.reduceLeDiff, implies_true, forall_const, eq_self, ne_eq, not_true_eq_false, not_false_eq_true, imp_self, Nat.reduceAdd, Nat.reduceMul, Int.reduceLE, Int.reduceLT, Int.reduceNeg, Int.reduceAdd, Int.reduceToNat, E_sane_eq, E_new_eq, E_next_eq, E_ridentity_eq, E_mblockA_eq, E_rnew_eq, E_made_eq, E_mix_eq, E_psum_eq, E_same_eq, E_limit_eq, LX_nil, LX_length, LX_getD, LX_append, LX_one, LX_cells, LX_inj, LX_nil_eq, LX_inps_LX, LX_take, LX_drop, inps_LX, Nat.reduceSub, Nat.reduceDiv, Try.ntmps4, Try.results4, gTT]
    rw [clampP_zero]
    exact ⟨rfl, rfl⟩
  intro g hg
  simp only [↓gPre, gPost, gCore, gDef, Nat.reduceShiftRight, Nat.reduceMod, if_true, if_false, ↓reduceIte, reduceCtorEq, Nat.reduceEqDiff, Nat.reduceLT, Nat.reduceLeDiff, implies_true, forall_const, eq_self, ne_eq, not_true_eq_false, not_false_eq_true, imp_self, Nat.reduceAdd, Nat.reduceMul, Int.reduceLE, Int.reduceLT, Int.reduceNeg, Int.reduceAdd, Int.reduceToNat, E_sane_eq, E_new_eq, E_next_eq, E_ridentity_eq, E_mblockA_eq, E_rnew_eq, E_made_eq, E_mix_eq, E_psum_eq, E_same_eq, E_limit_eq, LX_nil, LX_length, LX_getD, LX_append, LX_one, LX_cells, LX_inj, LX_nil_eq, LX_inps_LX, LX_take, LX_drop, inps_LX, Nat.reduceSub, Nat.reduceDiv, Try.ntmps4, Try.results4, gTT]
  have hcl := clampP_len l0 g
  refine ⟨fun h => ?_, fun h => ?_⟩
  · have hgl : g < l0.length := by have := of_decide_eq_true h; omega
    rw [clampP_succ hgl, clampP_get hgl]
    exact ⟨by omega, by omega, by omega, by omega, ⟨(wrapN _ (by omega)).symm, rfl⟩, by omega, by omega⟩
  have hgl : g = l0.length := by have := of_decide_eq_false h; omega
  rw [hgl, clampP_all]
  have hcl3 : (clampL l0).length = q.toNat * p.toNat := by rw [cl3, hl0, hpq]
  obtain ⟨kX, eX, sX⟩ := alone_sum hpb hqb hcl3 cl1
  have hX : (⟨p, clampL l0, p, p, idL p.toNat, 65536, 65536, 0, 0⟩ : Inp) = aloneI p (clampL l0) := rfl
  rw [hX]
  obtain ⟨t1, t2, t3⟩ : newT 8388607 1 = 8388607 ∧ newR 8388607 1 = 1 ∧ newG 8388607 1 = 65536 := by decide
  rw [t1, t2, t3]
  have hv8 : validL 8388607 1 65536 = true := by decide
  obtain ⟨rE, rO⟩ := run_quietN hv8 (chB_of hpb.1 hpb.2 (by rw [hcl3]; exact Nat.mul_mod_left ..) (by rw [hcl3]; omega)) cl2
  obtain ⟨m1, m2, m3⟩ : mxE p q [aloneI p (clampL l0)] 8388607 1 65536 = 0 ∧ mxC p q [aloneI p (clampL l0)] 8388607 1 65536 = p ∧ mxO p q [aloneI p (clampL l0)] 8388607 1 65536 = clampL l0 := by
    unfold mxE mxC mxO
    rw [if_pos eX, if_pos eX, if_pos eX, sX]
    refine ⟨rE, ?_, rO⟩
    unfold runC
    rw [if_pos rE]
  rw [m1, m2, m3]
  have n1 := mdL_len s2 p q (dN s2 5).toNat
  have kA := kept_mdL s2 (ch := p) (fr := q) hpb hqb (dN s2 5).toNat
  have oA := md_ok s2 (ch := p) (fr := q) hpb hqb (dN s2 5).toNat
  have u0 := dN_ge s2 5
  have u1 := dN_lt s2 5 (by decide)
  generalize mdL s2 p q (dN s2 5).toNat = A at *
  generalize mdR s2 p q (dN s2 5).toNat = s3 at *
  have n2 := mdL_len s3 p q (dN s3 5).toNat
  have kB := kept_mdL s3 (ch := p) (fr := q) hpb hqb (dN s3 5).toNat
  have oB := md_ok s3 (ch := p) (fr := q) hpb hqb (dN s3 5).toNat
  have v0 := dN_ge s3 5
  have v1 := dN_lt s3 5 (by decide)
  generalize mdL s3 p q (dN s3 5).toNat = B at *
  generalize mdR s3 p q (dN s3 5).toNat = s4 at *
  have hB := muB_of hpb hqb
  have kAB := keptI_app kA kB
  obtain ⟨a1, a2, a3⟩ := muS_ok hB kA oA (by omega)
  obtain ⟨b1, b2, b3⟩ := muS_ok hB kB oB (by omega)
  obtain ⟨c1, c2, c3⟩ := muS_ok hB kAB (fun x hx => (List.mem_append.1 hx).elim (oA x) (oB x)) (by rw [List.length_append]; omega)
  rw [a1, b1, c1]
  have hlen : IntKind.i64.wrap (p * q) = ((p.toNat * q.toNat : Nat) : Int) := by
    have : p * q = ((p.toNat * q.toNat : Nat) : Int) := by rw [Int.natCast_mul]; congr 1 <;> omega
    rw [this, IntWalk.i64_in _ (by rw [Nat.mul_comm]; omega)]
  refine ⟨cl3.symm, kX, ⟨hpb, by omega⟩, ⟨hpb, by omega⟩, kA, kB, by unfold roomOK; omega, by unfold roomOK; omega, kAB, fun _ => by omega, fun h => ?_, fun _ => ?_⟩
  · rw [hlen, a2, b2, c2] at h
    simp at h
  have sAB : ∀ j : Nat, (muS p q (A ++ B))[j]?.getD 0 = (muS p q A)[j]?.getD 0 + (muS p q B)[j]?.getD 0 := fun j => by rw [c3, a3, b3, sumP_app]
  have bA := sumP_in (ch := p) (fr := q) (xs := A)
  have bB := sumP_in (ch := p) (fr := q) (xs := B)
  have hv := lim_ok s4
  refine ELoop_keep (fun g => ⟨[(162, vI .i64 (g : Nat))], [], []⟩) (fun g => g ≤ (muS p q (A ++ B)).length) (fun g => (muS p q (A ++ B)).length - g) (· + 1) 0 (Nat.zero_le _) ?_ ?_
  · simp only [↓gPre, gPost, gCore, gDef, Nat.reduceShiftRight, Nat.reduceMod, if_true, if_false, ↓reduceIte, reduceCtorEq, Nat.reduceEqDiff, Nat.reduceLT, Nat.reduceLeDiff, implies_true, forall_const, eq_self, ne_eq, not_true_eq_false, not_false_eq_true, imp_self, Nat.reduceAdd, Nat.reduceMul, Int.reduceLE, Int.reduceLT, Int.reduceNeg, Int.reduceAdd, Int.reduceToNat, E_sane_eq, E_new_eq, E_next_eq, E_ridentity_eq, E_mblockA_eq, E_rnew_eq, E_made_eq, E_mix_eq, E_psum_eq, E_same_eq, E_limit_eq, LX_nil, LX_length, LX_getD, LX_append, LX_one, LX_cells, LX_inj, LX_nil_eq, LX_inps_LX, LX_take, LX_drop, inps_LX, Nat.reduceSub, Nat.reduceDiv, Try.ntmps4, Try.results4, gTT]
    rfl
  intro k hk
  simp only [↓gPre, gPost, gCore, gDef, Nat.reduceShiftRight, Nat.reduceMod, if_true, if_false, ↓reduceIte, reduceCtorEq, Nat.reduceEqDiff, Nat.reduceLT, Nat.reduceLeDiff, implies_true, forall_const, eq_self, ne_eq, not_true_eq_false, not_false_eq_true, imp_self, Nat.reduceAdd, Nat.reduceMul, Int.reduceLE, Int.reduceLT, Int.reduceNeg, Int.reduceAdd, Int.reduceToNat, E_sane_eq, E_new_eq, E_next_eq, E_ridentity_eq, E_mblockA_eq, E_rnew_eq, E_made_eq, E_mix_eq, E_psum_eq, E_same_eq, E_limit_eq, LX_nil, LX_length, LX_getD, LX_append, LX_one, LX_cells, LX_inj, LX_nil_eq, LX_inps_LX, LX_take, LX_drop, inps_LX, Nat.reduceSub, Nat.reduceDiv, Try.ntmps4, Try.results4, gTT]
  refine ⟨fun h => ?_, fun h => ⟨kA, ?_⟩⟩
  · have hkl : k < (muS p q (A ++ B)).length := by have := of_decide_eq_true h; omega
    have hA := bA k
    have hB2 := bB k
    rw [← a3 k] at hA
    rw [← b3 k] at hB2
    rw [sAB k, IntWalk.i64_in ((muS p q A)[k]?.getD 0 + (muS p q B)[k]?.getD 0) (by omega), bne_self_eq_false]
    exact ⟨by kernel_rfl, ⟨by omega, by omega⟩, ⟨by omega, by omega⟩, ⟨by omega, by omega⟩, fun h => absurd h (by decide), fun _ => ⟨(wrapN _ (by omega)).symm, by omega, by omega⟩⟩
  clear bA bB sAB h
  have rA := muS_run hB kA (by omega) a1 hv
  generalize newT (lmT s4) (lmR s4) = T at *
  generalize newR (lmT s4) (lmR s4) = R at *
  generalize newG (lmT s4) (lmR s4) = G at *
  obtain ⟨hcA, haA⟩ : chB p (muS p q A) = false ∧ (muS p q A).all okX = true := by
    unfold runE at rA
    rw [if_neg (by rw [hv]; decide)] at rA
    split at rA
    · cases rA
    · rename_i e1
      split at rA
      · cases rA
      · rename_i e2
        exact ⟨by simpa using e1, by simpa using e2⟩
  have hh := run_holds hv hcA haA
  have hrl := run_len hv hcA haA
  have e4 : mxE p q A T R G = 0 := by unfold mxE; rw [if_pos a1]; exact rA
  have e5 : mxO p q A T R G = runO T R G p (muS p q A) := by unfold mxO; rw [if_pos a1]
  have e6 : mxT p q A T R G = T := by unfold mxT; rw [if_pos a1]; unfold runT; rw [if_pos rA]
  rw [e4, e5]
  have hvi := validL_in hv
  refine ELoop_keep (fun g => ⟨[(194, vI .i64 (g : Nat))], [], []⟩) (fun g => g ≤ (runO T R G p (muS p q A)).length) (fun g => (runO T R G p (muS p q A)).length - g) (· + 1) 0 (Nat.zero_le _) ?_ ?_
  · simp only [↓gPre, gPost, gCore, gDef, Nat.reduceShiftRight, Nat.reduceMod, if_true, if_false, ↓reduceIte, reduceCtorEq, Nat.reduceEqDiff, Nat.reduceLT, Nat.reduceLeDiff, implies_true, forall_const, eq_self, ne_eq, not_true_eq_false, not_false_eq_true, imp_self, Nat.reduceAdd, Nat.reduceMul, Int.reduceLE, Int.reduceLT, Int.reduceNeg, Int.reduceAdd, Int.reduceToNat, E_sane_eq, E_new_eq, E_next_eq, E_ridentity_eq, E_mblockA_eq, E_rnew_eq, E_made_eq, E_mix_eq, E_psum_eq, E_same_eq, E_limit_eq, LX_nil, LX_length, LX_getD, LX_append, LX_one, LX_cells, LX_inj, LX_nil_eq, LX_inps_LX, LX_take, LX_drop, inps_LX, Nat.reduceSub, Nat.reduceDiv, Try.ntmps4, Try.results4, gTT]
    rfl
  intro j hj
  simp only [↓gPre, gPost, gCore, gDef, Nat.reduceShiftRight, Nat.reduceMod, if_true, if_false, ↓reduceIte, reduceCtorEq, Nat.reduceEqDiff, Nat.reduceLT, Nat.reduceLeDiff, implies_true, forall_const, eq_self, ne_eq, not_true_eq_false, not_false_eq_true, imp_self, Nat.reduceAdd, Nat.reduceMul, Int.reduceLE, Int.reduceLT, Int.reduceNeg, Int.reduceAdd, Int.reduceToNat, E_sane_eq, E_new_eq, E_next_eq, E_ridentity_eq, E_mblockA_eq, E_rnew_eq, E_made_eq, E_mix_eq, E_psum_eq, E_same_eq, E_limit_eq, LX_nil, LX_length, LX_getD, LX_append, LX_one, LX_cells, LX_inj, LX_nil_eq, LX_inps_LX, LX_take, LX_drop, inps_LX, Nat.reduceSub, Nat.reduceDiv, Try.ntmps4, Try.results4, gTT]
  refine ⟨fun h => ?_, fun h => ?_⟩
  · have hjl : j < (runO T R G p (muS p q A)).length := by have := of_decide_eq_true h; omega
    have hjA : j < (muS p q A).length := by rw [← hrl]; exact hjl
    have hx := (hh j _ _ (List.getElem?_eq_getElem hjA) (List.getElem?_eq_getElem hjl)).1
    have hy : (runO T R G p (muS p q A))[j]?.getD 0 = (runO T R G p (muS p q A))[j] := by rw [List.getElem?_eq_getElem hjl]; rfl
    rw [hy]
    generalize (runO T R G p (muS p q A))[j] = v at *
    rw [IntWalk.i64_in v (by omega), IntWalk.i32_in (0 - v) (by omega), IntWalk.i64_in (0 - v) (by omega)]
    refine ⟨by omega, fun h2 => ?_, fun _ => ⟨(wrapN _ (by omega)).symm, by omega, by omega⟩⟩
    simp only [Bool.or_eq_true, decide_eq_true_eq] at h2
    omega
  · rw [hrl, a2, hlen]
    simp

theorem spec_alone0 (s : List UInt8) (h1 : dN (dT (List.take 300 s) 3) 8 = 0) : Spec Try.prog 0 4 [vL (LB s)] [] [] (vB true) [] [] := by
  refine spec_of_E (X := ⟨Try.prog, tt, Try.f4.ntmps, 1, fun _ => 0, (tab [(8, E_sane), (9, E_new), (10, E_next), (16, E_ridentity), (17, E_mblock), (18, E_rnew), (11, E_made), (14, E_mix), (19, E_psum), (15, E_same), (12, E_limit)])⟩) (M := [(13, [0, 0, 0, 0, 0, 1645598714230381919356640232080599330205705471624008056948387709, 0, 0, 0, 0, 0, 1645598714230381919356640232080599330205091563981235003070607229, 0, 0, 0]), (17, [0, 0, 0, 0, 0, 1645598714230381919356640232119825510370091413843846582834802557, 0, 0, 0, 0, 0, 0]), (18, [0, 0, 0, 0, 0, 1645598714230382650107458896701290934673473020820563014138703741, 0, 0, 0, 0, 0, 1645598714230382650107458833729114634363083542002703533357379453, 0, 0, 0, 0, 0, 1645598714230382650107453453014187697023630027391723518522535805, 0, 0, 0, 0, 0, 1645598714230382650107197560674263151299105569686934828827520893, 0, 0, 0, 0, 0, 1645598714230382650085158152333527808897509723112794065307938685, 0, 0, 0, 0, 0, 1645598714230382648702511950024629174122295190208595651937152893, 0, 0, 0, 0, 0, 1645598714230382632980486585060539859339613807991500790220959613, 0, 0, 0]), (23, [0, 0, 0, 0, 0, 1645598714613131660153955735523125943667031010695585460662546301, 0, 0, 0, 0, 0, 1645598714524085288394658482522811834179293318873988802684104573, 0, 0]), (27, [0, 0, 0, 0, 0, 1645601466592373314493029843671860092151922862499396040731373437, 0, 0, 0, 0, 0, 1645601068143532689361926670501633033071535121627224272994807677, 0, 0]), (31, [0, 0, 0, 0, 0, 3278247767197516039307273717899220534359187324927250119513845629, 0, 0, 0, 0, 0, 2481206497245056862638460520098003883508174640010984873204363133, 0]), (34, [0, 0, 0, 0, 0, 13297322421869575202531507635295472679590702423402569228455608561533, 0, 0, 0, 0, 0, 0])]) (m := 1645598714230381919356640232080599330196629083243932598847647613) rfl rfl ⟨tt_ok, tab_ok (tabs_cons E_sane_ok (tabs_cons E_new_ok (tabs_cons E_next_ok (tabs_cons E_ridentity_ok (tabs_cons E_mblock_ok (tabs_cons E_rnew_ok (tabs_cons E_made_ok (tabs_cons E_mix_ok (tabs_cons E_psum_ok (tabs_cons E_same_ok (tabs_cons E_limit_ok tabs_nil))))))))))) _ rfl rfl⟩ tt_mixed Try.func4 rfl (by decide) (by show (1 : Nat) ≤ _; exact Nat.le_of_ble_eq_true rfl) ⟨fun m hm => (V.bare_has rfl m hm).elim, by simp, by simp⟩ ?_
  simp only [↓gPre, gPost, gCore, gDef, Nat.reduceShiftRight, Nat.reduceMod, if_true, if_false, ↓reduceIte, reduceCtorEq, Nat.reduceEqDiff, Nat.reduceLT, Nat.reduceLeDiff, implies_true, forall_const, eq_self, ne_eq, not_true_eq_false, not_false_eq_true, imp_self, Nat.reduceAdd, Nat.reduceMul, Int.reduceLE, Int.reduceLT, Int.reduceNeg, Int.reduceAdd, Int.reduceToNat, E_sane_eq, E_new_eq, E_next_eq, E_ridentity_eq, E_mblock_eq, E_rnew_eq, E_made_eq, E_mix_eq, E_psum_eq, E_same_eq, E_limit_eq, LX_nil, LX_length, LX_getD, LX_append, LX_one, LX_cells, LX_inj, LX_nil_eq, LX_inps_LX, LX_take, LX_drop, inps_LX, Nat.reduceSub, Nat.reduceDiv, Try.ntmps4, Try.results4, gTT]
  have p0 := dN_ge (List.take 300 s) 3
  have p1 := dN_lt (List.take 300 s) 3 (by decide)
  have q0 := dN_ge (dT (List.take 300 s) 3) 8
  have q1 := dN_lt (dT (List.take 300 s) 3) 8 (by decide)
  rw [IntWalk.i64_in (1 + dN (List.take 300 s) 3) (by omega)]
  refine ⟨by kernel_rfl, ⟨⟨by omega, by omega⟩, ⟨by omega, by omega⟩⟩, ?_⟩
  generalize dT (dT (List.take 300 s) 3) 8 = s1 at *
  generalize dN (dT (List.take 300 s) 3) 8 = q at *
  generalize hp : 1 + dN (List.take 300 s) 3 = p at *
  have hpb : 1 ≤ p ∧ p ≤ 8 := by omega
  have hqb : 0 ≤ q ∧ q ≤ 100 := by omega
  have id3 := id_ok hpb
  rw [id3.2.1, id3.2.2.1]
  have hpq : (p * q).toNat = q.toNat * p.toNat := by rw [toNat_mul (by omega) (by omega), Nat.mul_comm]
  have hl0 : (bkO s1 (p * q).toNat).length = (p * q).toNat := by simp [bkO]
  have hbv := blkV_in (blkV_bkO s1 (c := p) (n := q) hpb (by omega))
  have hq8 := Nat.mul_le_mul (show q.toNat ≤ 8 by omega) (show p.toNat ≤ 3 by omega)
  have hq9 : p.toNat * q.toNat ≤ 24 := by rw [Nat.mul_comm]; exact hq8
  generalize bkO s1 (p * q).toNat = l0 at *
  generalize bkR s1 (p * q).toNat = s2 at *
  have hl00 : l0 = [] := List.eq_nil_of_length_eq_zero (by rw [hl0, h1]; simp)
  obtain ⟨cl1, cl2, cl3⟩ : l0.all smpX = true ∧ (∀ x ∈ l0, -8388607 ≤ x ∧ x ≤ 8388607) ∧ l0.length = l0.length := by rw [hl00]; exact ⟨rfl, by simp, rfl⟩
  have hl01 : l0.length = 0 := by rw [hl00]; rfl
  refine ELoop_keep (fun g => ⟨[(56, vI .i64 (g : Nat))], [], []⟩) (fun g => g = 0) (fun g => 0) (· + 1) 0 rfl ?_ ?_
  · simp only [↓gPre, gPost, gCore, gDef, Nat.reduceShiftRight, Nat.reduceMod, if_true, if_false, ↓reduceIte, reduceCtorEq, Nat.reduceEqDiff, Nat.reduceLT, Nat.reduceLeDiff, implies_true, forall_const, eq_self, ne_eq, not_true_eq_false, not_false_eq_true, imp_self, Nat.reduceAdd, Nat.reduceMul, Int.reduceLE, Int.reduceLT, Int.reduceNeg, Int.reduceAdd, Int.reduceToNat, E_sane_eq, E_new_eq, E_next_eq, E_ridentity_eq, E_mblock_eq, E_rnew_eq, E_made_eq, E_mix_eq, E_psum_eq, E_same_eq, E_limit_eq, LX_nil, LX_length, LX_getD, LX_append, LX_one, LX_cells, LX_inj, LX_nil_eq, LX_inps_LX, LX_take, LX_drop, inps_LX, Nat.reduceSub, Nat.reduceDiv, Try.ntmps4, Try.results4, gTT]
    rfl
  intro g hg
  simp only [↓gPre, gPost, gCore, gDef, Nat.reduceShiftRight, Nat.reduceMod, if_true, if_false, ↓reduceIte, reduceCtorEq, Nat.reduceEqDiff, Nat.reduceLT, Nat.reduceLeDiff, implies_true, forall_const, eq_self, ne_eq, not_true_eq_false, not_false_eq_true, imp_self, Nat.reduceAdd, Nat.reduceMul, Int.reduceLE, Int.reduceLT, Int.reduceNeg, Int.reduceAdd, Int.reduceToNat, E_sane_eq, E_new_eq, E_next_eq, E_ridentity_eq, E_mblock_eq, E_rnew_eq, E_made_eq, E_mix_eq, E_psum_eq, E_same_eq, E_limit_eq, LX_nil, LX_length, LX_getD, LX_append, LX_one, LX_cells, LX_inj, LX_nil_eq, LX_inps_LX, LX_take, LX_drop, inps_LX, Nat.reduceSub, Nat.reduceDiv, Try.ntmps4, Try.results4, gTT]
  refine ⟨fun h => ?_, fun h => ?_⟩
  · have := of_decide_eq_true h
    omega
  have hcl3 : (l0).length = q.toNat * p.toNat := by rw [cl3, hl0, hpq]
  obtain ⟨kX, eX, sX⟩ := alone_sum hpb hqb hcl3 cl1
  have hX : (⟨p, l0, p, p, idL p.toNat, 65536, 65536, 0, 0⟩ : Inp) = aloneI p (l0) := rfl
  rw [hX]
  obtain ⟨t1, t2, t3⟩ : newT 8388607 1 = 8388607 ∧ newR 8388607 1 = 1 ∧ newG 8388607 1 = 65536 := by decide
  rw [t1, t2, t3]
  have hv8 : validL 8388607 1 65536 = true := by decide
  obtain ⟨rE, rO⟩ := run_quietN hv8 (chB_of hpb.1 hpb.2 (by rw [hcl3]; exact Nat.mul_mod_left ..) (by rw [hcl3]; omega)) cl2
  obtain ⟨m1, m2, m3⟩ : mxE p q [aloneI p (l0)] 8388607 1 65536 = 0 ∧ mxC p q [aloneI p (l0)] 8388607 1 65536 = p ∧ mxO p q [aloneI p (l0)] 8388607 1 65536 = l0 := by
    unfold mxE mxC mxO
    rw [if_pos eX, if_pos eX, if_pos eX, sX]
    refine ⟨rE, ?_, rO⟩
    unfold runC
    rw [if_pos rE]
  rw [m1, m2, m3]
  have n1 := mdL_len s2 p q (dN s2 5).toNat
  have kA := kept_mdL s2 (ch := p) (fr := q) hpb hqb (dN s2 5).toNat
  have oA := md_ok s2 (ch := p) (fr := q) hpb hqb (dN s2 5).toNat
  have u0 := dN_ge s2 5
  have u1 := dN_lt s2 5 (by decide)
  generalize mdL s2 p q (dN s2 5).toNat = A at *
  generalize mdR s2 p q (dN s2 5).toNat = s3 at *
  have n2 := mdL_len s3 p q (dN s3 5).toNat
  have kB := kept_mdL s3 (ch := p) (fr := q) hpb hqb (dN s3 5).toNat
  have oB := md_ok s3 (ch := p) (fr := q) hpb hqb (dN s3 5).toNat
  have v0 := dN_ge s3 5
  have v1 := dN_lt s3 5 (by decide)
  generalize mdL s3 p q (dN s3 5).toNat = B at *
  generalize mdR s3 p q (dN s3 5).toNat = s4 at *
  have hB := muB_of hpb hqb
  have kAB := keptI_app kA kB
  obtain ⟨a1, a2, a3⟩ := muS_ok hB kA oA (by omega)
  obtain ⟨b1, b2, b3⟩ := muS_ok hB kB oB (by omega)
  obtain ⟨c1, c2, c3⟩ := muS_ok hB kAB (fun x hx => (List.mem_append.1 hx).elim (oA x) (oB x)) (by rw [List.length_append]; omega)
  rw [a1, b1, c1]
  have hlen : IntKind.i64.wrap (p * q) = ((p.toNat * q.toNat : Nat) : Int) := by
    have : p * q = ((p.toNat * q.toNat : Nat) : Int) := by rw [Int.natCast_mul]; congr 1 <;> omega
    rw [this, IntWalk.i64_in _ (by rw [Nat.mul_comm]; omega)]
  refine ⟨kX, ⟨hpb, by omega⟩, ⟨hpb, by omega⟩, kA, kB, by unfold roomOK; omega, by unfold roomOK; omega, kAB, fun _ => by omega, fun h => ?_, fun _ => ?_⟩
  · rw [hlen, a2, b2, c2] at h
    simp at h
  have sAB : ∀ j : Nat, (muS p q (A ++ B))[j]?.getD 0 = (muS p q A)[j]?.getD 0 + (muS p q B)[j]?.getD 0 := fun j => by rw [c3, a3, b3, sumP_app]
  have bA := sumP_in (ch := p) (fr := q) (xs := A)
  have bB := sumP_in (ch := p) (fr := q) (xs := B)
  have hv := lim_ok s4
  refine ELoop_keep (fun g => ⟨[(162, vI .i64 (g : Nat))], [], []⟩) (fun g => g ≤ (muS p q (A ++ B)).length) (fun g => (muS p q (A ++ B)).length - g) (· + 1) 0 (Nat.zero_le _) ?_ ?_
  · simp only [↓gPre, gPost, gCore, gDef, Nat.reduceShiftRight, Nat.reduceMod, if_true, if_false, ↓reduceIte, reduceCtorEq, Nat.reduceEqDiff, Nat.reduceLT, Nat.reduceLeDiff, implies_true, forall_const, eq_self, ne_eq, not_true_eq_false, not_false_eq_true, imp_self, Nat.reduceAdd, Nat.reduceMul, Int.reduceLE, Int.reduceLT, Int.reduceNeg, Int.reduceAdd, Int.reduceToNat, E_sane_eq, E_new_eq, E_next_eq, E_ridentity_eq, E_mblock_eq, E_rnew_eq, E_made_eq, E_mix_eq, E_psum_eq, E_same_eq, E_limit_eq, LX_nil, LX_length, LX_getD, LX_append, LX_one, LX_cells, LX_inj, LX_nil_eq, LX_inps_LX, LX_take, LX_drop, inps_LX, Nat.reduceSub, Nat.reduceDiv, Try.ntmps4, Try.results4, gTT]
    rfl
  intro k hk
  simp only [↓gPre, gPost, gCore, gDef, Nat.reduceShiftRight, Nat.reduceMod, if_true, if_false, ↓reduceIte, reduceCtorEq, Nat.reduceEqDiff, Nat.reduceLT, Nat.reduceLeDiff, implies_true, forall_const, eq_self, ne_eq, not_true_eq_false, not_false_eq_true, imp_self, Nat.reduceAdd, Nat.reduceMul, Int.reduceLE, Int.reduceLT, Int.reduceNeg, Int.reduceAdd, Int.reduceToNat, E_sane_eq, E_new_eq, E_next_eq, E_ridentity_eq, E_mblock_eq, E_rnew_eq, E_made_eq, E_mix_eq, E_psum_eq, E_same_eq, E_limit_eq, LX_nil, LX_length, LX_getD, LX_append, LX_one, LX_cells, LX_inj, LX_nil_eq, LX_inps_LX, LX_take, LX_drop, inps_LX, Nat.reduceSub, Nat.reduceDiv, Try.ntmps4, Try.results4, gTT]
  refine ⟨fun h => ?_, fun h => ⟨kA, ?_⟩⟩
  · have hkl : k < (muS p q (A ++ B)).length := by have := of_decide_eq_true h; omega
    have hA := bA k
    have hB2 := bB k
    rw [← a3 k] at hA
    rw [← b3 k] at hB2
    rw [sAB k, IntWalk.i64_in ((muS p q A)[k]?.getD 0 + (muS p q B)[k]?.getD 0) (by omega), bne_self_eq_false]
    exact ⟨by kernel_rfl, ⟨by omega, by omega⟩, ⟨by omega, by omega⟩, ⟨by omega, by omega⟩, fun h => absurd h (by decide), fun _ => ⟨(wrapN _ (by omega)).symm, by omega, by omega⟩⟩
  clear bA bB sAB h
  have rA := muS_run hB kA (by omega) a1 hv
  generalize newT (lmT s4) (lmR s4) = T at *
  generalize newR (lmT s4) (lmR s4) = R at *
  generalize newG (lmT s4) (lmR s4) = G at *
  obtain ⟨hcA, haA⟩ : chB p (muS p q A) = false ∧ (muS p q A).all okX = true := by
    unfold runE at rA
    rw [if_neg (by rw [hv]; decide)] at rA
    split at rA
    · cases rA
    · rename_i e1
      split at rA
      · cases rA
      · rename_i e2
        exact ⟨by simpa using e1, by simpa using e2⟩
  have hh := run_holds hv hcA haA
  have hrl := run_len hv hcA haA
  have e4 : mxE p q A T R G = 0 := by unfold mxE; rw [if_pos a1]; exact rA
  have e5 : mxO p q A T R G = runO T R G p (muS p q A) := by unfold mxO; rw [if_pos a1]
  have e6 : mxT p q A T R G = T := by unfold mxT; rw [if_pos a1]; unfold runT; rw [if_pos rA]
  rw [e4, e5]
  have hvi := validL_in hv
  refine ELoop_keep (fun g => ⟨[(194, vI .i64 (g : Nat))], [], []⟩) (fun g => g ≤ (runO T R G p (muS p q A)).length) (fun g => (runO T R G p (muS p q A)).length - g) (· + 1) 0 (Nat.zero_le _) ?_ ?_
  · simp only [↓gPre, gPost, gCore, gDef, Nat.reduceShiftRight, Nat.reduceMod, if_true, if_false, ↓reduceIte, reduceCtorEq, Nat.reduceEqDiff, Nat.reduceLT, Nat.reduceLeDiff, implies_true, forall_const, eq_self, ne_eq, not_true_eq_false, not_false_eq_true, imp_self, Nat.reduceAdd, Nat.reduceMul, Int.reduceLE, Int.reduceLT, Int.reduceNeg, Int.reduceAdd, Int.reduceToNat, E_sane_eq, E_new_eq, E_next_eq, E_ridentity_eq, E_mblock_eq, E_rnew_eq, E_made_eq, E_mix_eq, E_psum_eq, E_same_eq, E_limit_eq, LX_nil, LX_length, LX_getD, LX_append, LX_one, LX_cells, LX_inj, LX_nil_eq, LX_inps_LX, LX_take, LX_drop, inps_LX, Nat.reduceSub, Nat.reduceDiv, Try.ntmps4, Try.results4, gTT]
    rfl
  intro j hj
  simp only [↓gPre, gPost, gCore, gDef, Nat.reduceShiftRight, Nat.reduceMod, if_true, if_false, ↓reduceIte, reduceCtorEq, Nat.reduceEqDiff, Nat.reduceLT, Nat.reduceLeDiff, implies_true, forall_const, eq_self, ne_eq, not_true_eq_false, not_false_eq_true, imp_self, Nat.reduceAdd, Nat.reduceMul, Int.reduceLE, Int.reduceLT, Int.reduceNeg, Int.reduceAdd, Int.reduceToNat, E_sane_eq, E_new_eq, E_next_eq, E_ridentity_eq, E_mblock_eq, E_rnew_eq, E_made_eq, E_mix_eq, E_psum_eq, E_same_eq, E_limit_eq, LX_nil, LX_length, LX_getD, LX_append, LX_one, LX_cells, LX_inj, LX_nil_eq, LX_inps_LX, LX_take, LX_drop, inps_LX, Nat.reduceSub, Nat.reduceDiv, Try.ntmps4, Try.results4, gTT]
  refine ⟨fun h => ?_, fun h => ?_⟩
  · have hjl : j < (runO T R G p (muS p q A)).length := by have := of_decide_eq_true h; omega
    have hjA : j < (muS p q A).length := by rw [← hrl]; exact hjl
    have hx := (hh j _ _ (List.getElem?_eq_getElem hjA) (List.getElem?_eq_getElem hjl)).1
    have hy : (runO T R G p (muS p q A))[j]?.getD 0 = (runO T R G p (muS p q A))[j] := by rw [List.getElem?_eq_getElem hjl]; rfl
    rw [hy]
    generalize (runO T R G p (muS p q A))[j] = v at *
    rw [IntWalk.i64_in v (by omega), IntWalk.i32_in (0 - v) (by omega), IntWalk.i64_in (0 - v) (by omega)]
    refine ⟨by omega, fun h2 => ?_, fun _ => ⟨(wrapN _ (by omega)).symm, by omega, by omega⟩⟩
    simp only [Bool.or_eq_true, decide_eq_true_eq] at h2
    omega
  · rw [hrl, a2, hlen]
    simp

theorem spec_alone (s : List UInt8) : Spec Try.prog 0 4 [vL (LB s)] [] [] (vB true) [] [] := by
  by_cases h : dN (dT (List.take 300 s) 3) 8 = 0
  · exact spec_alone0 s h
  · exact spec_alone1 s (by have := dN_ge (dT (List.take 300 s) 3) 8; omega)

end Go.Vam
