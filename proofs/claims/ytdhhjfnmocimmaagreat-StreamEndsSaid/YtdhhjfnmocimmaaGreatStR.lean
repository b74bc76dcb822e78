/- Streams from dice. Conditions: none. -/
import Derived.Test.YtdhhjfnmocimmaaGreatStQ
set_option linter.unusedVariables false
set_option linter.defProp false
set_option linter.unusedSimpArgs false
set_option maxRecDepth 40000
set_option maxHeartbeats 4000000
namespace Go.Vam
open Go.Proofs

def msO (l : List UInt8) (di : Int) : Sm := ⟨di, 1, msP l, 0, ⟨1 + dN l 2, ⟨baN (dT l 2), baD (dT l 2), 0, 0, 0⟩, []⟩, if di = 2 then ⟨1 + dN l 2, msP l, 0, 0, []⟩ else rg0, 0, 0, 0⟩
theorem ms_rg (l : List UInt8) : rgV ⟨1 + dN l 2, msP l, 0, 0, []⟩ = true := by
  have h1 := msP_in l
  exact rgV_mk ⟨h1.1, by show msP l ≤ _; omega⟩ ⟨by show (0 : Int) ≤ 0; decide, by show (0 : Int) ≤ 0; decide, by show (0 : Int) ≤ 1125899906842624; decide⟩ (blk_nil (msC_in l)) (by simp) (by show (0 : Int) - 0 ≤ msP l; omega)
theorem msO_V (l : List UInt8) {di : Int} (hd : di = 1 ∨ di = 2) : smV (msO l di) = true := by
  have h1 := msP_in l
  have hB : smB (msO l di) = true := smB_mk ⟨by show (1 : Int) ≤ 1; decide, by show (1 : Int) ≤ 7; decide⟩ ⟨h1.1, by show msP l ≤ _; omega⟩ ⟨by show (0 : Int) ≤ 0; decide, by show (0 : Int) ≤ msP l; omega⟩ (msV l) rfl (by show (0 : Int) ≤ 0; decide) (by show (0 : Int) ≤ 0; decide) (by show (0 : Int) ≤ 0; decide)
  rcases hd with rfl | rfl
  · exact smV_1 hB rfl (by show waN ⟨1 + dN l 2, ⟨baN (dT l 2), baD (dT l 2), 0, 0, 0⟩, []⟩ ≤ msP l; rw [msW]; omega) rfl
  · exact smV_2 hB rfl (ms_rg l) rfl rfl
theorem ms_new (l : List UInt8) {di : Int} (hd : di = 1 ∨ di = 2) : snE di (1 + dN l 2) (baN (dT l 2)) (baD (dT l 2)) (msP l) 0 = 0 ∧ snR di (1 + dN l 2) (baN (dT l 2)) (baD (dT l 2)) (msP l) 0 = msO l di := by
  have e : snS di (1 + dN l 2) (baN (dT l 2)) (baD (dT l 2)) (msP l) 0 = msO l di := by
    unfold snS nwR rnR
    rw [if_pos (msV l), if_pos (ms_rg l)]
    rfl
  unfold snE snR
  rw [e, if_pos (msO_V l hd), if_pos (msO_V l hd)]
  exact ⟨rfl, rfl⟩


theorem spec_mstream (u : List UInt8) (di : Int) (hd : di = 1 ∨ di = 2) : Spec Tryz.prog 0 24 [.c (.lp ⟨0, 0⟩ 0), vI .i64 di] [(⟨0, 0⟩, [.d (.list (LB u))])] [] (.agg (smC (msX u di))) [(⟨0, 0⟩, [.d (.list (LB (msR u)))])] [] := by
  refine spec_of_E (X := ⟨Tryz.prog, tt, Tryz.f24.ntmps, 1, fun _ => 0, (tab [(32, E_next), (61, E_base), (22, E_rsnew20), (62, E_acted)])⟩) (M := [(2, [0, 0, 0, 0, 0, 68744475123, 0, 0, 0, 0, 0, 68742545907, 0, 0])]) (m := 68736254451) rfl rfl ⟨tt_ok, tab_ok (tabs_cons E_next_ok (tabs_cons E_base_ok (tabs_cons E_rsnew20_ok (tabs_cons E_acted_ok tabs_nil)))) _ rfl rfl⟩ tt_mixed Tryz.func24 rfl (by decide) (by show (2 : Nat) ≤ _; exact Nat.le_of_ble_eq_true rfl) ⟨by simp [V.has, C.has, smC_eq], by simp [C.has], by simp⟩ ?_
  simp only [↓gPre, gPost, gCore, gDef, Nat.reduceShiftRight, Nat.reduceMod, if_true, if_false, ↓reduceIte, reduceCtorEq, Nat.reduceEqDiff, Nat.reduceLT, Nat.reduceLeDiff, implies_true, forall_const, eq_self, ne_eq, not_true_eq_false, not_false_eq_true, imp_self, Nat.reduceAdd, Nat.reduceMul, Int.reduceLE, Int.reduceLT, Int.reduceNeg, Int.reduceAdd, Int.reduceToNat, E_next_eq, E_base_eq, E_rsnew20_eq, E_acted_eq, rg_eta, sm_eta, ph_eta, rs_eta, smD_eq, smC_eq, Tryz.ntmps24, Tryz.results24, gTT]
  have c1 := dN_lt u 2 (by decide)
  have c2 := dN_ge u 2
  have p1 := msP_in u
  have p2 := msM_in u
  have hP : 1 + dN (baR (dT u 2)) 200 = msP u := rfl
  obtain ⟨n1, n2⟩ := ms_new u hd
  rw [IntWalk.i64_in (1 + dN u 2) (by omega), IntWalk.i64_in (1 + dN (baR (dT u 2)) 200) (by rw [hP]; omega), hP, n1, n2]
  refine ⟨fun h => absurd h (by decide), fun _ => ?_⟩
  have hM : IntKind.i64.wrap ((if 6 < (msO u di).q then 6 else (msO u di).q) + 1) = msM u := by
    show IntKind.i64.wrap ((if 6 < msP u then 6 else msP u) + 1) = _
    unfold msM
    rw [IntWalk.i64_in _ (by split <;> omega)]
    split <;> split <;> omega
  rw [hM]
  have d1 := dN_ge (msD u) 7
  have d2 := dN_lt (msD u) 7 (by decide)
  have hN : ((msN u : Nat) : Int) = dN (msD u) 7 := by unfold msN; omega
  refine ELoop_keep (fun g => ⟨[(8, vI .i64 ((msN u : Int) - (g : Nat)))], [(⟨0, 0⟩, [.d (.list (LB (msQ u g)))]), (⟨1, 6⟩, [.d (.int .i64 (msS u di g).di), .d (.int .i64 (msS u di g).st), .d (.int .i64 (msS u di g).q), .d (.int .i64 (msS u di g).s0), .d (.int .i64 (msS u di g).r.c), .d (.int .i64 (msS u di g).r.p.n), .d (.int .i64 (msS u di g).r.p.d), .d (.int .i64 (msS u di g).r.p.a), .d (.int .i64 (msS u di g).r.p.p), .d (.int .i64 (msS u di g).r.p.f), .d (.list (LI .i32 (msS u di g).r.l)), .d (.int .i64 (msS u di g).g.c), .d (.int .i64 (msS u di g).g.q), .d (.int .i64 (msS u di g).g.w), .d (.int .i64 (msS u di g).g.r), .d (.list (LI .i32 (msS u di g).g.l)), .d (.int .i64 (msS u di g).wr), .d (.int .i64 (msS u di g).pl), .d (.int .i64 (msS u di g).mi)])], []⟩) (fun g => g ≤ msN u) (fun g => msN u - g) (· + 1) 0 (Nat.zero_le _) ?_ ?_
  · simp only [↓gPre, gPost, gCore, gDef, Nat.reduceShiftRight, Nat.reduceMod, if_true, if_false, ↓reduceIte, reduceCtorEq, Nat.reduceEqDiff, Nat.reduceLT, Nat.reduceLeDiff, implies_true, forall_const, eq_self, ne_eq, not_true_eq_false, not_false_eq_true, imp_self, Nat.reduceAdd, Nat.reduceMul, Int.reduceLE, Int.reduceLT, Int.reduceNeg, Int.reduceAdd, Int.reduceToNat, E_next_eq, E_base_eq, E_rsnew20_eq, E_acted_eq, rg_eta, sm_eta, ph_eta, rs_eta, smD_eq, smC_eq, Tryz.ntmps24, Tryz.results24, gTT]
    exact ⟨by rw [hN]; exact Int.sub_zero _, rfl, rfl, rfl, rfl, rfl, rfl, rfl, rfl, rfl, rfl, rfl, rfl, rfl, rfl, rfl, rfl, rfl, rfl, rfl, rfl⟩
  intro g hg
  simp only [↓gPre, gPost, gCore, gDef, Nat.reduceShiftRight, Nat.reduceMod, if_true, if_false, ↓reduceIte, reduceCtorEq, Nat.reduceEqDiff, Nat.reduceLT, Nat.reduceLeDiff, implies_true, forall_const, eq_self, ne_eq, not_true_eq_false, not_false_eq_true, imp_self, Nat.reduceAdd, Nat.reduceMul, Int.reduceLE, Int.reduceLT, Int.reduceNeg, Int.reduceAdd, Int.reduceToNat, E_next_eq, E_base_eq, E_rsnew20_eq, E_acted_eq, rg_eta, sm_eta, ph_eta, rs_eta, smD_eq, smC_eq, Tryz.ntmps24, Tryz.results24, gTT]
  have ok := msS_ok u hd g (by omega)
  have hc : 1 ≤ (msS u di g).r.c ∧ (msS u di g).r.c ≤ 8 := by rw [ok.c]; omega
  have hn := msN_le u
  have hl := ok.ll
  have hg2 := ok.gl
  refine ⟨fun h => ⟨⟨by omega, by omega, by omega⟩, ⟨by rw [IntWalk.i64_in _ (by omega)]; omega, rfl, rfl, rfl, rfl, rfl, rfl, rfl, rfl, rfl, rfl, rfl, rfl, rfl, rfl, rfl, rfl, rfl, rfl, rfl, rfl⟩, by have := of_decide_eq_true h; omega, by have := of_decide_eq_true h; omega⟩, fun h => ?_⟩
  have he : g = msN u := by have := of_decide_eq_false h; omega
  subst he
  exact ⟨⟨rfl, rfl, rfl, rfl, rfl, rfl, rfl, rfl, rfl, rfl, rfl, rfl, rfl, rfl, rfl, rfl, rfl, rfl, rfl⟩, rfl⟩
def E_mstream : List V → Boxes → Toks → Name → Option Ent
  | [.c (.lp n0 0), .c (.d (.int .i64 di))], [(m0, [.d (.list q_u)])], [], _ => some ⟨(di = 1 ∨ di = 2) ∧ n0.lv ≤ 1 ∧ m0 = n0 ∧ q_u = LB (bys q_u), .agg (smC (msX (bys q_u) di)), [(n0, [.d (.list (LB (msR (bys q_u))))])], []⟩
  | _, _, _, _ => none
def E_mstream_eq := And.intro (@E_mstream.eq_1) (@E_mstream.eq_1)
theorem E_mstream_ok : Snd Tryz.prog 24 E_mstream := by
  intro vs b k n e h hn hp
  unfold E_mstream at h
  split at h
  · cases h; obtain ⟨hp0, hl0, rfl, hq0⟩ := hp; obtain ⟨_, rfl⟩ := LB_ex hq0; simp only [ints_LI, bys_LB, blks_LK, lls_LL] at hp0 ⊢; exact Spec.ren1 (spec_mstream _ _ hp0) 0 (by simp [supOK, V.names, C.names, namesB, namesK, smC_eq]) hl0 
  · cases h

theorem spec_made (u : List UInt8) : Spec Tryz.prog 0 11 [.c (.lp ⟨0, 0⟩ 0)] [(⟨0, 0⟩, [.d (.list (LB u))])] [] (.agg (smC (msX (dT u 2) (1 + dN u 2)))) [(⟨0, 0⟩, [.d (.list (LB (msR (dT u 2))))])] [] := by
  refine spec_of_E (X := ⟨Tryz.prog, tt, Tryz.f11.ntmps, 1, fun _ => 0, (tab [(32, E_next), (24, E_mstream)])⟩) (M := []) (m := 5) rfl rfl ⟨tt_ok, tab_ok (tabs_cons E_next_ok (tabs_cons E_mstream_ok tabs_nil)) _ rfl rfl⟩ tt_mixed Tryz.func11 rfl (by decide) (by show (1 : Nat) ≤ _; exact Nat.le_of_ble_eq_true rfl) ⟨by simp [V.has, C.has, smC_eq], by simp [C.has], by simp⟩ ?_
  simp only [↓gPre, gPost, gCore, gDef, Nat.reduceShiftRight, Nat.reduceMod, if_true, if_false, ↓reduceIte, reduceCtorEq, Nat.reduceEqDiff, Nat.reduceLT, Nat.reduceLeDiff, implies_true, forall_const, eq_self, ne_eq, not_true_eq_false, not_false_eq_true, imp_self, Nat.reduceAdd, Nat.reduceMul, Int.reduceLE, Int.reduceLT, Int.reduceNeg, Int.reduceAdd, Int.reduceToNat, E_next_eq, E_mstream_eq, rg_eta, sm_eta, ph_eta, rs_eta, smD_eq, smC_eq, Tryz.ntmps11, Tryz.results11, gTT]
  have c1 := dN_lt u 2 (by decide)
  have c2 := dN_ge u 2
  rw [IntWalk.i64_in (1 + dN u 2) (by omega)]
  exact ⟨by omega, rfl, rfl, rfl, rfl, rfl, rfl, rfl, rfl, rfl, rfl, rfl, rfl, rfl, rfl, rfl, rfl, rfl, rfl, rfl⟩
def E_made : List V → Boxes → Toks → Name → Option Ent
  | [.c (.lp n0 0)], [(m0, [.d (.list q_u)])], [], _ => some ⟨n0.lv ≤ 1 ∧ m0 = n0 ∧ q_u = LB (bys q_u), .agg (smC (msX (dT (bys q_u) 2) (1 + dN (bys q_u) 2))), [(n0, [.d (.list (LB (msR (dT (bys q_u) 2))))])], []⟩
  | _, _, _, _ => none
def E_made_eq := And.intro (@E_made.eq_1) (@E_made.eq_1)
theorem E_made_ok : Snd Tryz.prog 11 E_made := by
  intro vs b k n e h hn hp
  unfold E_made at h
  split at h
  · cases h; obtain ⟨hl0, rfl, hq0⟩ := hp; obtain ⟨_, rfl⟩ := LB_ex hq0; simp only [ints_LI, bys_LB, blks_LK, lls_LL]; exact Spec.ren1 (spec_made _) 0 (by simp [supOK, V.names, C.names, namesB, namesK, smC_eq]) hl0 
  · cases h

theorem spec_light (di st q s0 c n d a p f : Int) (l : List Int) (gc gq gw gr : Int) (gl : List Int) (wr pl mi : Int) : Spec Tryz.prog 0 38 [.agg (smC ⟨di, st, q, s0, ⟨c, ⟨n, d, a, p, f⟩, l⟩, ⟨gc, gq, gw, gr, gl⟩, wr, pl, mi⟩)] [] [] (vB (decide (d ≤ IntKind.i64.wrap (100 * n)) || di == 1)) [] [] := by
  refine spec_of_E (X := ⟨Tryz.prog, tt, Tryz.f38.ntmps, 1, fun _ => 0, (tab [])⟩) (M := [(1, [0, 0, 0, 0, 0, 1048455, 0, 0, 0, 0, 0, 1032199, 0, 0, 0, 0, 0, 0])]) (m := 7) rfl rfl ⟨tt_ok, tab_ok tabs_nil _ rfl rfl⟩ tt_mixed Tryz.func38 rfl (by decide) (by show (1 : Nat) ≤ _; exact Nat.le_of_ble_eq_true rfl) ⟨fun m hm => (V.bare_has rfl m hm).elim, by simp, by simp⟩ ?_
  simp only [↓gPre, gPost, gCore, gDef, Nat.reduceShiftRight, Nat.reduceMod, if_true, if_false, ↓reduceIte, reduceCtorEq, Nat.reduceEqDiff, Nat.reduceLT, Nat.reduceLeDiff, implies_true, forall_const, eq_self, ne_eq, not_true_eq_false, not_false_eq_true, imp_self, Nat.reduceAdd, Nat.reduceMul, Int.reduceLE, Int.reduceLT, Int.reduceNeg, Int.reduceAdd, Int.reduceToNat, rg_eta, sm_eta, ph_eta, rs_eta, smD_eq, smC_eq, Tryz.ntmps38, Tryz.results38, gTT]

def E_light : List V → Boxes → Toks → Name → Option Ent
  | [.agg [.d (.int .i64 di), .d (.int .i64 st), .d (.int .i64 q), .d (.int .i64 s0), .d (.int .i64 c), .d (.int .i64 n), .d (.int .i64 d), .d (.int .i64 a), .d (.int .i64 p), .d (.int .i64 f), .d (.list q_l), .d (.int .i64 gc), .d (.int .i64 gq), .d (.int .i64 gw), .d (.int .i64 gr), .d (.list q_gl), .d (.int .i64 wr), .d (.int .i64 pl), .d (.int .i64 mi)]], [], [], _ => some ⟨q_l = LI .i32 (ints q_l) ∧ q_gl = LI .i32 (ints q_gl), vB (decide (d ≤ IntKind.i64.wrap (100 * n)) || di == 1), [], []⟩
  | _, _, _, _ => none
def E_light_eq := And.intro (@E_light.eq_1) (@E_light.eq_1)
theorem E_light_ok : Snd Tryz.prog 38 E_light := by
  intro vs b k n e h hn hp
  unfold E_light at h
  split at h
  · cases h; obtain ⟨hq0, hq1⟩ := hp; obtain ⟨_, rfl⟩ := LI_ex hq0; obtain ⟨_, rfl⟩ := LI_ex hq1; simp only [ints_LI, bys_LB, blks_LK, lls_LL]; exact (spec_light _ _ _ _ _ _ _ _ _ _ _ _ _ _ _ _ _ _ _).lift rfl _
  · cases h

end Go.Vam
