/- Take and Give. Conditions: none. -/
import Derived.Test.YtdhhjfnmocimmaaStL
set_option linter.unusedVariables false
set_option linter.defProp false
set_option linter.unusedSimpArgs false
set_option maxRecDepth 40000
set_option maxHeartbeats 4000000
namespace Go.Vam
open Go.Proofs

theorem cvO_len {x : Rs} {k : Int} {y : List Int} (hl : x.l.length ≤ 1000000) (hy : y.length ≤ 1000000) (h : cvE x k y = 0) : (cvO x k y).length ≤ 524288 := by
  obtain ⟨h1, h2⟩ := cvE_tk h
  obtain ⟨f1, f2, f3⟩ := feR_ok h1 hl hy
  have h3 := rcE_ok (tkE_po h2).1
  have e : cvO x k y = outO (feR x k y) (cvN x k y).toNat := if_pos h
  obtain ⟨⟨k1, k2⟩, k3, k4, k5⟩ := blk_in (rsV_in f2).2 (by omega)
  have := Nat.mul_le_mul (show (cvN x k y).toNat ≤ 65536 by omega) (show (feR x k y).c.toNat ≤ 8 by omega)
  rw [e, outO_len]
  omega

theorem spec_stakeA (di st q s0 c n d a p f : Int) (l : List Int) (gc gq gw gr : Int) (gl : List Int) (wr pl mi : Int) (i : Int) (hl : l.length ≤ 1000000) (hg : gl.length ≤ 1000000) (h3 : st = 3 → tkE ⟨c, ⟨n, d, a, p, f⟩, l⟩ (skK ⟨di, st, q, s0, ⟨c, ⟨n, d, a, p, f⟩, l⟩, ⟨gc, gq, gw, gr, gl⟩, wr, pl, mi⟩ i) ≠ 0) (h5 : st = 5 → fiE ⟨c, ⟨n, d, a, p, f⟩, l⟩ i ≠ 0) : Spec Try.prog 0 17 [.agg (smC ⟨di, st, q, s0, ⟨c, ⟨n, d, a, p, f⟩, l⟩, ⟨gc, gq, gw, gr, gl⟩, wr, pl, mi⟩), vI .i64 i] [] [] (.tup [.agg [.int .i64 (skC ⟨di, st, q, s0, ⟨c, ⟨n, d, a, p, f⟩, l⟩, ⟨gc, gq, gw, gr, gl⟩, wr, pl, mi⟩ i), .list (LI .i32 (skO ⟨di, st, q, s0, ⟨c, ⟨n, d, a, p, f⟩, l⟩, ⟨gc, gq, gw, gr, gl⟩, wr, pl, mi⟩ i))], .int .i64 (skX ⟨di, st, q, s0, ⟨c, ⟨n, d, a, p, f⟩, l⟩, ⟨gc, gq, gw, gr, gl⟩, wr, pl, mi⟩ i), .agg (smD (skR ⟨di, st, q, s0, ⟨c, ⟨n, d, a, p, f⟩, l⟩, ⟨gc, gq, gw, gr, gl⟩, wr, pl, mi⟩ i)), .int .i64 (skE ⟨di, st, q, s0, ⟨c, ⟨n, d, a, p, f⟩, l⟩, ⟨gc, gq, gw, gr, gl⟩, wr, pl, mi⟩ i)]) [] [] := by
  refine spec_of_E (X := ⟨Try.prog, tt, Try.f17.ntmps, 1, fun _ => 0, (tab [(33, E_sisd), (42, E_sbad), (25, E_swaiting), (43, E_pmake), (44, E_take), (45, E_finish), (46, E_silence), (39, E_sown), (47, E_spad)])⟩) (M := []) (m := 2720119987622162846539767) rfl rfl ⟨tt_ok, tab_ok (tabs_cons E_sisd_ok (tabs_cons E_sbad_ok (tabs_cons E_swaiting_ok (tabs_cons E_pmake_ok (tabs_cons E_take_ok (tabs_cons E_finish_ok (tabs_cons E_silence_ok (tabs_cons E_sown_ok (tabs_cons E_spad_ok tabs_nil))))))))) _ rfl rfl⟩ tt_mixed Try.func17 rfl (by decide) (by show (2 : Nat) ≤ _; exact Nat.le_of_ble_eq_true rfl) ⟨fun m hm => (V.bare_has rfl m hm).elim, by simp, by simp⟩ ?_
  simp only [↓gPre, gPost, gCore, gDef, Nat.reduceShiftRight, Nat.reduceMod, if_true, if_false, ↓reduceIte, reduceCtorEq, Nat.reduceEqDiff, Nat.reduceLT, Nat.reduceLeDiff, implies_true, forall_const, eq_self, ne_eq, not_true_eq_false, not_false_eq_true, imp_self, Nat.reduceAdd, Nat.reduceMul, Int.reduceLE, Int.reduceLT, Int.reduceNeg, Int.reduceAdd, Int.reduceToNat, E_sisd_eq, E_sbad_eq, E_swaiting_eq, E_pmake_eq, E_take_eq, E_finish_eq, E_silence_eq, E_sown_eq, E_spad_eq, rg_eta, sm_eta, ph_eta, rs_eta, smD_eq, smC_eq, Try.ntmps17, Try.results17, gTT]
  refine ⟨⟨hl, hg⟩, fun h => ?_, fun h => ⟨fun h2 => ?_, fun h2 => ?_⟩⟩
  · have e : skE ⟨di, st, q, s0, ⟨c, ⟨n, d, a, p, f⟩, l⟩, ⟨gc, gq, gw, gr, gl⟩, wr, pl, mi⟩ i = 1 := skE_bad (show smP _ = false from h)
    obtain ⟨e1, e2, e3, e4⟩ := skR_sm0 (x := ⟨di, st, q, s0, ⟨c, ⟨n, d, a, p, f⟩, l⟩, ⟨gc, gq, gw, gr, gl⟩, wr, pl, mi⟩) (i := i) (by rw [e]; decide)
    simp [e, e1, e2, e3, e4, sm0, rs0, rg0, LI_nil]
  · have hP : smP ⟨di, st, q, s0, ⟨c, ⟨n, d, a, p, f⟩, l⟩, ⟨gc, gq, gw, gr, gl⟩, wr, pl, mi⟩ = true := by unfold smP; simpa using h
    have e : skE ⟨di, st, q, s0, ⟨c, ⟨n, d, a, p, f⟩, l⟩, ⟨gc, gq, gw, gr, gl⟩, wr, pl, mi⟩ i = 2 := skE_rng hP h2
    obtain ⟨e1, e2, e3, e4⟩ := skR_sm0 (x := ⟨di, st, q, s0, ⟨c, ⟨n, d, a, p, f⟩, l⟩, ⟨gc, gq, gw, gr, gl⟩, wr, pl, mi⟩) (i := i) (by rw [e]; decide)
    simp [e, e1, e2, e3, e4, sm0, rs0, rg0, LI_nil]
  have hP : smP ⟨di, st, q, s0, ⟨c, ⟨n, d, a, p, f⟩, l⟩, ⟨gc, gq, gw, gr, gl⟩, wr, pl, mi⟩ = true := by unfold smP; simpa using h
  have hgo := skE_go hP h2
  have hv : smV ⟨di, st, q, s0, ⟨c, ⟨n, d, a, p, f⟩, l⟩, ⟨gc, gq, gw, gr, gl⟩, wr, pl, mi⟩ = true ∧ di = 1 := by unfold smP at hP; simpa using hP
  have hb := smB_in (smV_in hv.1).1
  simp only at hb hgo
  have hi : 0 ≤ i ∧ i ≤ 65536 := by simp only [Bool.or_eq_false_iff, decide_eq_false_iff_not] at h2; omega
  have hN : smN ⟨di, st, q, s0, ⟨c, ⟨n, d, a, p, f⟩, l⟩, ⟨gc, gq, gw, gr, gl⟩, wr, pl, mi⟩ = waN ⟨c, ⟨n, d, a, p, f⟩, l⟩ := by unfold smN; rw [if_neg (by rw [hv.1]; decide), if_neg (by show ¬ di = 2; omega)]
  have hw := waN_V hb.2.2.2.1 hl
  have hma : maN ⟨n, d, a, p, f⟩ (smN ⟨di, st, q, s0, ⟨c, ⟨n, d, a, p, f⟩, l⟩, ⟨gc, gq, gw, gr, gl⟩, wr, pl, mi⟩) = ((mkN ⟨n, d, a, p, f⟩ (waN ⟨c, ⟨n, d, a, p, f⟩, l⟩) : Nat) : Int) := by rw [hN]; exact mk_pos (rsV_in hb.2.2.2.1).1 hw.2
  have hK : (if i < maN ⟨n, d, a, p, f⟩ (smN ⟨di, st, q, s0, ⟨c, ⟨n, d, a, p, f⟩, l⟩, ⟨gc, gq, gw, gr, gl⟩, wr, pl, mi⟩) then i else maN ⟨n, d, a, p, f⟩ (smN ⟨di, st, q, s0, ⟨c, ⟨n, d, a, p, f⟩, l⟩, ⟨gc, gq, gw, gr, gl⟩, wr, pl, mi⟩)) = skK ⟨di, st, q, s0, ⟨c, ⟨n, d, a, p, f⟩, l⟩, ⟨gc, gq, gw, gr, gl⟩, wr, pl, mi⟩ i := by
    rw [hma]
    show _ = min ((mkN ⟨n, d, a, p, f⟩ (waN ⟨c, ⟨n, d, a, p, f⟩, l⟩) : Nat) : Int) i
    split <;> omega
  have hKi := skK_in (x := ⟨di, st, q, s0, ⟨c, ⟨n, d, a, p, f⟩, l⟩, ⟨gc, gq, gw, gr, gl⟩, wr, pl, mi⟩) hi.1
  obtain ⟨⟨k1, k2⟩, k3, k4, k5⟩ := blk_in (rsV_in hb.2.2.2.1).2 hl
  simp only at k1 k2 k3
  have hcc : (c.toNat : Int) = c := by omega
  have hii : (i.toNat : Int) = i := by omega
  have hmi : i * c = ((i.toNat * c.toNat : Nat) : Int) := by rw [Int.natCast_mul, hcc, hii]
  have hib := Nat.mul_le_mul (show i.toNat ≤ 65536 by omega) (show c.toNat ≤ 8 by omega)
  refine ⟨fun c3 => ⟨by kernel_rfl, ⟨hl, hg⟩, hl, fun c6 => ?_, fun c6 => ?_⟩, fun c3 => ⟨fun c5 => ⟨hl, ?_⟩, fun c5 => ⟨by kernel_rfl, ⟨hl, hg⟩, ?_⟩⟩⟩
  · have hs : st = 3 := by simpa using c3
    rw [hK] at c6 ⊢
    have e : skE ⟨di, st, q, s0, ⟨c, ⟨n, d, a, p, f⟩, l⟩, ⟨gc, gq, gw, gr, gl⟩, wr, pl, mi⟩ i = tkE ⟨c, ⟨n, d, a, p, f⟩, l⟩ (skK ⟨di, st, q, s0, ⟨c, ⟨n, d, a, p, f⟩, l⟩, ⟨gc, gq, gw, gr, gl⟩, wr, pl, mi⟩ i) := by rw [hgo, if_pos hs]
    have h7 : skE ⟨di, st, q, s0, ⟨c, ⟨n, d, a, p, f⟩, l⟩, ⟨gc, gq, gw, gr, gl⟩, wr, pl, mi⟩ i ≠ 0 := by rw [e]; exact h3 hs
    obtain ⟨e1, e2, e3, e4⟩ := skR_sm0 (x := ⟨di, st, q, s0, ⟨c, ⟨n, d, a, p, f⟩, l⟩, ⟨gc, gq, gw, gr, gl⟩, wr, pl, mi⟩) (i := i) h7
    rw [← e]
    simp [e1, e2, e3, e4, sm0, rs0, rg0, LI_nil]
  · have hs : st = 3 := by simpa using c3
    rw [hK] at c6
    exact absurd (by simpa using c6) (h3 hs)
  · have hs : st = 5 := by simpa using c5
    have e : skE ⟨di, st, q, s0, ⟨c, ⟨n, d, a, p, f⟩, l⟩, ⟨gc, gq, gw, gr, gl⟩, wr, pl, mi⟩ i = fiE ⟨c, ⟨n, d, a, p, f⟩, l⟩ i := by rw [hgo, if_neg (by omega), if_pos hs]
    have h7 : skE ⟨di, st, q, s0, ⟨c, ⟨n, d, a, p, f⟩, l⟩, ⟨gc, gq, gw, gr, gl⟩, wr, pl, mi⟩ i ≠ 0 := by rw [e]; exact h5 hs
    obtain ⟨e1, e2, e3, e4⟩ := skR_sm0 (x := ⟨di, st, q, s0, ⟨c, ⟨n, d, a, p, f⟩, l⟩, ⟨gc, gq, gw, gr, gl⟩, wr, pl, mi⟩) (i := i) h7
    rw [← e]
    refine ⟨fun _ => ⟨fun _ => ?_, fun c7 => ?_⟩, fun _ => ⟨fun _ => ?_, fun c7 => ?_⟩⟩
    · simp [e1, e2, e3, e4, sm0, rs0, rg0, LI_nil]
    · exact absurd (by simpa using c7) h7
    · simp [e1, e2, e3, e4, sm0, rs0, rg0, LI_nil]
    · exact absurd (by simpa using c7) h7
  · have hs3 : ¬ st = 3 := by simpa using c3
    have hs5 : ¬ st = 5 := by simpa using c5
    have e : skE ⟨di, st, q, s0, ⟨c, ⟨n, d, a, p, f⟩, l⟩, ⟨gc, gq, gw, gr, gl⟩, wr, pl, mi⟩ i = 0 := by rw [hgo, if_neg hs3, if_neg hs5]
    obtain ⟨f1, f2, f3⟩ := silO_eq (c := c) (n := i) ⟨k1, k2⟩ hi
    have eM : skM ⟨di, st, q, s0, ⟨c, ⟨n, d, a, p, f⟩, l⟩, ⟨gc, gq, gw, gr, gl⟩, wr, pl, mi⟩ i = 0 := by unfold skM; rw [if_neg hs3, if_neg hs5]
    have eX : skX ⟨di, st, q, s0, ⟨c, ⟨n, d, a, p, f⟩, l⟩, ⟨gc, gq, gw, gr, gl⟩, wr, pl, mi⟩ i = 0 := by unfold skX; rw [if_neg (fun h => hs3 h.2)]
    have eR : skR ⟨di, st, q, s0, ⟨c, ⟨n, d, a, p, f⟩, l⟩, ⟨gc, gq, gw, gr, gl⟩, wr, pl, mi⟩ i = ⟨di, st, q, s0, ⟨c, ⟨n, d, a, p, f⟩, l⟩, ⟨gc, gq, gw, gr, gl⟩, wr, pl, mi⟩ := by unfold skR; rw [if_pos e, if_neg (by simp [hs3, hs5])]
    have eO : skO ⟨di, st, q, s0, ⟨c, ⟨n, d, a, p, f⟩, l⟩, ⟨gc, gq, gw, gr, gl⟩, wr, pl, mi⟩ i = List.replicate (i.toNat * c.toNat) 0 := by unfold skO; rw [if_pos e, eM]; simp [outO]
    have eC : skC ⟨di, st, q, s0, ⟨c, ⟨n, d, a, p, f⟩, l⟩, ⟨gc, gq, gw, gr, gl⟩, wr, pl, mi⟩ i = c := by unfold skC; rw [if_pos e]
    rw [f1, f3, e, eX, eR, eO, eC]

theorem spec_stakeB (di st q s0 c n d a p f : Int) (l : List Int) (gc gq gw gr : Int) (gl : List Int) (wr pl mi : Int) (i : Int) (hl : l.length ≤ 1000000) (hg : gl.length ≤ 1000000) (hs : st = 3) (h3 : tkE ⟨c, ⟨n, d, a, p, f⟩, l⟩ (skK ⟨di, st, q, s0, ⟨c, ⟨n, d, a, p, f⟩, l⟩, ⟨gc, gq, gw, gr, gl⟩, wr, pl, mi⟩ i) = 0) : Spec Try.prog 0 17 [.agg (smC ⟨di, st, q, s0, ⟨c, ⟨n, d, a, p, f⟩, l⟩, ⟨gc, gq, gw, gr, gl⟩, wr, pl, mi⟩), vI .i64 i] [] [] (.tup [.agg [.int .i64 (skC ⟨di, st, q, s0, ⟨c, ⟨n, d, a, p, f⟩, l⟩, ⟨gc, gq, gw, gr, gl⟩, wr, pl, mi⟩ i), .list (LI .i32 (skO ⟨di, st, q, s0, ⟨c, ⟨n, d, a, p, f⟩, l⟩, ⟨gc, gq, gw, gr, gl⟩, wr, pl, mi⟩ i))], .int .i64 (skX ⟨di, st, q, s0, ⟨c, ⟨n, d, a, p, f⟩, l⟩, ⟨gc, gq, gw, gr, gl⟩, wr, pl, mi⟩ i), .agg (smD (skR ⟨di, st, q, s0, ⟨c, ⟨n, d, a, p, f⟩, l⟩, ⟨gc, gq, gw, gr, gl⟩, wr, pl, mi⟩ i)), .int .i64 (skE ⟨di, st, q, s0, ⟨c, ⟨n, d, a, p, f⟩, l⟩, ⟨gc, gq, gw, gr, gl⟩, wr, pl, mi⟩ i)]) [] [] := by
  refine spec_of_E (X := ⟨Try.prog, tt, Try.f17.ntmps, 1, fun s => if s = 99 then 3 else 0, (tab [(33, E_sisd), (42, E_sbad), (25, E_swaiting), (43, E_pmake), (44, E_takeO), (45, E_finish), (46, E_silence), (39, E_sown), (47, E_spad)])⟩) (M := []) (m := 2720119987622162846539767) rfl rfl ⟨tt_ok, tab_ok (tabs_cons E_sisd_ok (tabs_cons E_sbad_ok (tabs_cons E_swaiting_ok (tabs_cons E_pmake_ok (tabs_cons E_takeO_ok (tabs_cons E_finish_ok (tabs_cons E_silence_ok (tabs_cons E_sown_ok (tabs_cons E_spad_ok tabs_nil))))))))) _ rfl rfl⟩ tt_mixed Try.func17 rfl (by decide) (by show (2 : Nat) ≤ _; exact Nat.le_of_ble_eq_true rfl) ⟨fun m hm => (V.bare_has rfl m hm).elim, by simp, by simp⟩ ?_
  simp only [↓gPre, gPost, gCore, gDef, Nat.reduceShiftRight, Nat.reduceMod, if_true, if_false, ↓reduceIte, reduceCtorEq, Nat.reduceEqDiff, Nat.reduceLT, Nat.reduceLeDiff, implies_true, forall_const, eq_self, ne_eq, not_true_eq_false, not_false_eq_true, imp_self, Nat.reduceAdd, Nat.reduceMul, Int.reduceLE, Int.reduceLT, Int.reduceNeg, Int.reduceAdd, Int.reduceToNat, E_sisd_eq, E_sbad_eq, E_swaiting_eq, E_pmake_eq, E_takeO_eq, E_finish_eq, E_silence_eq, E_sown_eq, E_spad_eq, rg_eta, sm_eta, ph_eta, rs_eta, smD_eq, smC_eq, Try.ntmps17, Try.results17, gTT]
  refine ⟨⟨hl, hg⟩, fun h => ?_, fun h => ⟨fun h2 => ?_, fun h2 => ?_⟩⟩
  · have e : skE ⟨di, st, q, s0, ⟨c, ⟨n, d, a, p, f⟩, l⟩, ⟨gc, gq, gw, gr, gl⟩, wr, pl, mi⟩ i = 1 := skE_bad (show smP _ = false from h)
    obtain ⟨e1, e2, e3, e4⟩ := skR_sm0 (x := ⟨di, st, q, s0, ⟨c, ⟨n, d, a, p, f⟩, l⟩, ⟨gc, gq, gw, gr, gl⟩, wr, pl, mi⟩) (i := i) (by rw [e]; decide)
    simp [e, e1, e2, e3, e4, sm0, rs0, rg0, LI_nil]
  · have hP : smP ⟨di, st, q, s0, ⟨c, ⟨n, d, a, p, f⟩, l⟩, ⟨gc, gq, gw, gr, gl⟩, wr, pl, mi⟩ = true := by unfold smP; simpa using h
    have e : skE ⟨di, st, q, s0, ⟨c, ⟨n, d, a, p, f⟩, l⟩, ⟨gc, gq, gw, gr, gl⟩, wr, pl, mi⟩ i = 2 := skE_rng hP h2
    obtain ⟨e1, e2, e3, e4⟩ := skR_sm0 (x := ⟨di, st, q, s0, ⟨c, ⟨n, d, a, p, f⟩, l⟩, ⟨gc, gq, gw, gr, gl⟩, wr, pl, mi⟩) (i := i) (by rw [e]; decide)
    simp [e, e1, e2, e3, e4, sm0, rs0, rg0, LI_nil]
  have hP : smP ⟨di, st, q, s0, ⟨c, ⟨n, d, a, p, f⟩, l⟩, ⟨gc, gq, gw, gr, gl⟩, wr, pl, mi⟩ = true := by unfold smP; simpa using h
  have hgo := skE_go hP h2
  have hv : smV ⟨di, st, q, s0, ⟨c, ⟨n, d, a, p, f⟩, l⟩, ⟨gc, gq, gw, gr, gl⟩, wr, pl, mi⟩ = true ∧ di = 1 := by unfold smP at hP; simpa using hP
  have hb := smB_in (smV_in hv.1).1
  simp only at hb hgo
  have hi : 0 ≤ i ∧ i ≤ 65536 := by simp only [Bool.or_eq_false_iff, decide_eq_false_iff_not] at h2; omega
  have hN : smN ⟨di, st, q, s0, ⟨c, ⟨n, d, a, p, f⟩, l⟩, ⟨gc, gq, gw, gr, gl⟩, wr, pl, mi⟩ = waN ⟨c, ⟨n, d, a, p, f⟩, l⟩ := by unfold smN; rw [if_neg (by rw [hv.1]; decide), if_neg (by show ¬ di = 2; omega)]
  have hw := waN_V hb.2.2.2.1 hl
  have hma : maN ⟨n, d, a, p, f⟩ (smN ⟨di, st, q, s0, ⟨c, ⟨n, d, a, p, f⟩, l⟩, ⟨gc, gq, gw, gr, gl⟩, wr, pl, mi⟩) = ((mkN ⟨n, d, a, p, f⟩ (waN ⟨c, ⟨n, d, a, p, f⟩, l⟩) : Nat) : Int) := by rw [hN]; exact mk_pos (rsV_in hb.2.2.2.1).1 hw.2
  have hK : (if i < maN ⟨n, d, a, p, f⟩ (smN ⟨di, st, q, s0, ⟨c, ⟨n, d, a, p, f⟩, l⟩, ⟨gc, gq, gw, gr, gl⟩, wr, pl, mi⟩) then i else maN ⟨n, d, a, p, f⟩ (smN ⟨di, st, q, s0, ⟨c, ⟨n, d, a, p, f⟩, l⟩, ⟨gc, gq, gw, gr, gl⟩, wr, pl, mi⟩)) = skK ⟨di, st, q, s0, ⟨c, ⟨n, d, a, p, f⟩, l⟩, ⟨gc, gq, gw, gr, gl⟩, wr, pl, mi⟩ i := by
    rw [hma]
    show _ = min ((mkN ⟨n, d, a, p, f⟩ (waN ⟨c, ⟨n, d, a, p, f⟩, l⟩) : Nat) : Int) i
    split <;> omega
  have hKi := skK_in (x := ⟨di, st, q, s0, ⟨c, ⟨n, d, a, p, f⟩, l⟩, ⟨gc, gq, gw, gr, gl⟩, wr, pl, mi⟩) hi.1
  obtain ⟨⟨k1, k2⟩, k3, k4, k5⟩ := blk_in (rsV_in hb.2.2.2.1).2 hl
  simp only at k1 k2 k3
  have hcc : (c.toNat : Int) = c := by omega
  have hii : (i.toNat : Int) = i := by omega
  have hmi : i * c = ((i.toNat * c.toNat : Nat) : Int) := by rw [Int.natCast_mul, hcc, hii]
  have hib := Nat.mul_le_mul (show i.toNat ≤ 65536 by omega) (show c.toNat ≤ 8 by omega)
  refine ⟨fun c3 => ⟨by kernel_rfl, ⟨hl, hg⟩, ⟨hl, ?_⟩, fun c6 => ?_, fun c6 => ⟨by kernel_rfl, ?_⟩⟩, fun c3 => ?_⟩
  · rw [hK]; exact h3
  · rw [hK, h3] at c6; exact absurd c6 (by decide)
  · rw [hK]
    have e : skE ⟨di, st, q, s0, ⟨c, ⟨n, d, a, p, f⟩, l⟩, ⟨gc, gq, gw, gr, gl⟩, wr, pl, mi⟩ i = 0 := by rw [hgo, if_pos hs]; exact h3
    have eM : skM ⟨di, st, q, s0, ⟨c, ⟨n, d, a, p, f⟩, l⟩, ⟨gc, gq, gw, gr, gl⟩, wr, pl, mi⟩ i = skK ⟨di, st, q, s0, ⟨c, ⟨n, d, a, p, f⟩, l⟩, ⟨gc, gq, gw, gr, gl⟩, wr, pl, mi⟩ i := if_pos hs
    have eX : skX ⟨di, st, q, s0, ⟨c, ⟨n, d, a, p, f⟩, l⟩, ⟨gc, gq, gw, gr, gl⟩, wr, pl, mi⟩ i = i - skK ⟨di, st, q, s0, ⟨c, ⟨n, d, a, p, f⟩, l⟩, ⟨gc, gq, gw, gr, gl⟩, wr, pl, mi⟩ i := if_pos ⟨e, hs⟩
    have eS : skS ⟨di, st, q, s0, ⟨c, ⟨n, d, a, p, f⟩, l⟩, ⟨gc, gq, gw, gr, gl⟩, wr, pl, mi⟩ i = st := if_neg (by show ¬ (st = 5 ∧ _); omega)
    have eC : tkC ⟨c, ⟨n, d, a, p, f⟩, l⟩ (skK ⟨di, st, q, s0, ⟨c, ⟨n, d, a, p, f⟩, l⟩, ⟨gc, gq, gw, gr, gl⟩, wr, pl, mi⟩ i) = c := if_pos h3
    have eO : tkO ⟨c, ⟨n, d, a, p, f⟩, l⟩ (skK ⟨di, st, q, s0, ⟨c, ⟨n, d, a, p, f⟩, l⟩, ⟨gc, gq, gw, gr, gl⟩, wr, pl, mi⟩ i) = outO ⟨c, ⟨n, d, a, p, f⟩, l⟩ (skK ⟨di, st, q, s0, ⟨c, ⟨n, d, a, p, f⟩, l⟩, ⟨gc, gq, gw, gr, gl⟩, wr, pl, mi⟩ i).toNat := if_pos h3
    have eT : tkR ⟨c, ⟨n, d, a, p, f⟩, l⟩ (skK ⟨di, st, q, s0, ⟨c, ⟨n, d, a, p, f⟩, l⟩, ⟨gc, gq, gw, gr, gl⟩, wr, pl, mi⟩ i) = poR ⟨c, ⟨n, d, a, p, f⟩, l⟩ (skK ⟨di, st, q, s0, ⟨c, ⟨n, d, a, p, f⟩, l⟩, ⟨gc, gq, gw, gr, gl⟩, wr, pl, mi⟩ i) := if_pos h3
    have eR : skR ⟨di, st, q, s0, ⟨c, ⟨n, d, a, p, f⟩, l⟩, ⟨gc, gq, gw, gr, gl⟩, wr, pl, mi⟩ i = ⟨di, st, q, s0, poR ⟨c, ⟨n, d, a, p, f⟩, l⟩ (skK ⟨di, st, q, s0, ⟨c, ⟨n, d, a, p, f⟩, l⟩, ⟨gc, gq, gw, gr, gl⟩, wr, pl, mi⟩ i), ⟨gc, gq, gw, gr, gl⟩, wr, IntKind.i64.wrap (pl + i), IntKind.i64.wrap (mi + (i - skK ⟨di, st, q, s0, ⟨c, ⟨n, d, a, p, f⟩, l⟩, ⟨gc, gq, gw, gr, gl⟩, wr, pl, mi⟩ i))⟩ := by
      unfold skR
      rw [if_pos e, if_pos (Or.inl hs), eM, eX, eS]
    have eC2 : skC ⟨di, st, q, s0, ⟨c, ⟨n, d, a, p, f⟩, l⟩, ⟨gc, gq, gw, gr, gl⟩, wr, pl, mi⟩ i = c := if_pos e
    have eO2 : skO ⟨di, st, q, s0, ⟨c, ⟨n, d, a, p, f⟩, l⟩, ⟨gc, gq, gw, gr, gl⟩, wr, pl, mi⟩ i = outO ⟨c, ⟨n, d, a, p, f⟩, l⟩ (skK ⟨di, st, q, s0, ⟨c, ⟨n, d, a, p, f⟩, l⟩, ⟨gc, gq, gw, gr, gl⟩, wr, pl, mi⟩ i).toNat ++ List.replicate ((i.toNat - (skK ⟨di, st, q, s0, ⟨c, ⟨n, d, a, p, f⟩, l⟩, ⟨gc, gq, gw, gr, gl⟩, wr, pl, mi⟩ i).toNat) * c.toNat) 0 := by
      unfold skO
      rw [if_pos e, eM]
    have hol : (outO ⟨c, ⟨n, d, a, p, f⟩, l⟩ (skK ⟨di, st, q, s0, ⟨c, ⟨n, d, a, p, f⟩, l⟩, ⟨gc, gq, gw, gr, gl⟩, wr, pl, mi⟩ i).toNat).length = (skK ⟨di, st, q, s0, ⟨c, ⟨n, d, a, p, f⟩, l⟩, ⟨gc, gq, gw, gr, gl⟩, wr, pl, mi⟩ i).toNat * c.toNat := outO_len _ _
    have hle := Nat.mul_le_mul_right c.toNat (show (skK ⟨di, st, q, s0, ⟨c, ⟨n, d, a, p, f⟩, l⟩, ⟨gc, gq, gw, gr, gl⟩, wr, pl, mi⟩ i).toNat ≤ i.toNat by omega)
    rw [eC, eO, eT, e, eC2, eO2, eR, eX, IntWalk.i64_in (i - skK ⟨di, st, q, s0, ⟨c, ⟨n, d, a, p, f⟩, l⟩, ⟨gc, gq, gw, gr, gl⟩, wr, pl, mi⟩ i) (by omega), hmi, hol]
    refine ⟨⟨by omega, by omega⟩, ?_⟩
    rw [show (((i.toNat * c.toNat : Nat) : Int) - (((skK ⟨di, st, q, s0, ⟨c, ⟨n, d, a, p, f⟩, l⟩, ⟨gc, gq, gw, gr, gl⟩, wr, pl, mi⟩ i).toNat * c.toNat : Nat) : Int)).toNat = (i.toNat - (skK ⟨di, st, q, s0, ⟨c, ⟨n, d, a, p, f⟩, l⟩, ⟨gc, gq, gw, gr, gl⟩, wr, pl, mi⟩ i).toNat) * c.toNat by rw [Nat.sub_mul]; omega]
  · exact absurd hs (by simpa using c3)

theorem spec_stakeC (di st q s0 c n d a p f : Int) (l : List Int) (gc gq gw gr : Int) (gl : List Int) (wr pl mi : Int) (i : Int) (hl : l.length ≤ 1000000) (hg : gl.length ≤ 1000000) (hs : st = 5) (h5 : fiE ⟨c, ⟨n, d, a, p, f⟩, l⟩ i = 0) : Spec Try.prog 0 17 [.agg (smC ⟨di, st, q, s0, ⟨c, ⟨n, d, a, p, f⟩, l⟩, ⟨gc, gq, gw, gr, gl⟩, wr, pl, mi⟩), vI .i64 i] [] [] (.tup [.agg [.int .i64 (skC ⟨di, st, q, s0, ⟨c, ⟨n, d, a, p, f⟩, l⟩, ⟨gc, gq, gw, gr, gl⟩, wr, pl, mi⟩ i), .list (LI .i32 (skO ⟨di, st, q, s0, ⟨c, ⟨n, d, a, p, f⟩, l⟩, ⟨gc, gq, gw, gr, gl⟩, wr, pl, mi⟩ i))], .int .i64 (skX ⟨di, st, q, s0, ⟨c, ⟨n, d, a, p, f⟩, l⟩, ⟨gc, gq, gw, gr, gl⟩, wr, pl, mi⟩ i), .agg (smD (skR ⟨di, st, q, s0, ⟨c, ⟨n, d, a, p, f⟩, l⟩, ⟨gc, gq, gw, gr, gl⟩, wr, pl, mi⟩ i)), .int .i64 (skE ⟨di, st, q, s0, ⟨c, ⟨n, d, a, p, f⟩, l⟩, ⟨gc, gq, gw, gr, gl⟩, wr, pl, mi⟩ i)]) [] [] := by
  refine spec_of_E (X := ⟨Try.prog, tt, Try.f17.ntmps, 1, fun s => if s = 99 then 3 else 0, (tab [(33, E_sisd), (42, E_sbad), (25, E_swaiting), (43, E_pmake), (44, E_take), (45, E_finishO), (46, E_silence), (39, E_sown), (47, E_spad)])⟩) (M := []) (m := 2720119987622162846539767) rfl rfl ⟨tt_ok, tab_ok (tabs_cons E_sisd_ok (tabs_cons E_sbad_ok (tabs_cons E_swaiting_ok (tabs_cons E_pmake_ok (tabs_cons E_take_ok (tabs_cons E_finishO_ok (tabs_cons E_silence_ok (tabs_cons E_sown_ok (tabs_cons E_spad_ok tabs_nil))))))))) _ rfl rfl⟩ tt_mixed Try.func17 rfl (by decide) (by show (2 : Nat) ≤ _; exact Nat.le_of_ble_eq_true rfl) ⟨fun m hm => (V.bare_has rfl m hm).elim, by simp, by simp⟩ ?_
  simp only [↓gPre, gPost, gCore, gDef, Nat.reduceShiftRight, Nat.reduceMod, if_true, if_false, ↓reduceIte, reduceCtorEq, Nat.reduceEqDiff, Nat.reduceLT, Nat.reduceLeDiff, implies_true, forall_const, eq_self, ne_eq, not_true_eq_false, not_false_eq_true, imp_self, Nat.reduceAdd, Nat.reduceMul, Int.reduceLE, Int.reduceLT, Int.reduceNeg, Int.reduceAdd, Int.reduceToNat, E_sisd_eq, E_sbad_eq, E_swaiting_eq, E_pmake_eq, E_take_eq, E_finishO_eq, E_silence_eq, E_sown_eq, E_spad_eq, rg_eta, sm_eta, ph_eta, rs_eta, smD_eq, smC_eq, Try.ntmps17, Try.results17, gTT]
  refine ⟨⟨hl, hg⟩, fun h => ?_, fun h => ⟨fun h2 => ?_, fun h2 => ?_⟩⟩
  · have e : skE ⟨di, st, q, s0, ⟨c, ⟨n, d, a, p, f⟩, l⟩, ⟨gc, gq, gw, gr, gl⟩, wr, pl, mi⟩ i = 1 := skE_bad (show smP _ = false from h)
    obtain ⟨e1, e2, e3, e4⟩ := skR_sm0 (x := ⟨di, st, q, s0, ⟨c, ⟨n, d, a, p, f⟩, l⟩, ⟨gc, gq, gw, gr, gl⟩, wr, pl, mi⟩) (i := i) (by rw [e]; decide)
    simp [e, e1, e2, e3, e4, sm0, rs0, rg0, LI_nil]
  · have hP : smP ⟨di, st, q, s0, ⟨c, ⟨n, d, a, p, f⟩, l⟩, ⟨gc, gq, gw, gr, gl⟩, wr, pl, mi⟩ = true := by unfold smP; simpa using h
    have e : skE ⟨di, st, q, s0, ⟨c, ⟨n, d, a, p, f⟩, l⟩, ⟨gc, gq, gw, gr, gl⟩, wr, pl, mi⟩ i = 2 := skE_rng hP h2
    obtain ⟨e1, e2, e3, e4⟩ := skR_sm0 (x := ⟨di, st, q, s0, ⟨c, ⟨n, d, a, p, f⟩, l⟩, ⟨gc, gq, gw, gr, gl⟩, wr, pl, mi⟩) (i := i) (by rw [e]; decide)
    simp [e, e1, e2, e3, e4, sm0, rs0, rg0, LI_nil]
  have hP : smP ⟨di, st, q, s0, ⟨c, ⟨n, d, a, p, f⟩, l⟩, ⟨gc, gq, gw, gr, gl⟩, wr, pl, mi⟩ = true := by unfold smP; simpa using h
  have hgo := skE_go hP h2
  have hv : smV ⟨di, st, q, s0, ⟨c, ⟨n, d, a, p, f⟩, l⟩, ⟨gc, gq, gw, gr, gl⟩, wr, pl, mi⟩ = true ∧ di = 1 := by unfold smP at hP; simpa using hP
  have hb := smB_in (smV_in hv.1).1
  simp only at hb hgo
  have hi : 0 ≤ i ∧ i ≤ 65536 := by simp only [Bool.or_eq_false_iff, decide_eq_false_iff_not] at h2; omega
  have hN : smN ⟨di, st, q, s0, ⟨c, ⟨n, d, a, p, f⟩, l⟩, ⟨gc, gq, gw, gr, gl⟩, wr, pl, mi⟩ = waN ⟨c, ⟨n, d, a, p, f⟩, l⟩ := by unfold smN; rw [if_neg (by rw [hv.1]; decide), if_neg (by show ¬ di = 2; omega)]
  have hw := waN_V hb.2.2.2.1 hl
  have hma : maN ⟨n, d, a, p, f⟩ (smN ⟨di, st, q, s0, ⟨c, ⟨n, d, a, p, f⟩, l⟩, ⟨gc, gq, gw, gr, gl⟩, wr, pl, mi⟩) = ((mkN ⟨n, d, a, p, f⟩ (waN ⟨c, ⟨n, d, a, p, f⟩, l⟩) : Nat) : Int) := by rw [hN]; exact mk_pos (rsV_in hb.2.2.2.1).1 hw.2
  have hK : (if i < maN ⟨n, d, a, p, f⟩ (smN ⟨di, st, q, s0, ⟨c, ⟨n, d, a, p, f⟩, l⟩, ⟨gc, gq, gw, gr, gl⟩, wr, pl, mi⟩) then i else maN ⟨n, d, a, p, f⟩ (smN ⟨di, st, q, s0, ⟨c, ⟨n, d, a, p, f⟩, l⟩, ⟨gc, gq, gw, gr, gl⟩, wr, pl, mi⟩)) = skK ⟨di, st, q, s0, ⟨c, ⟨n, d, a, p, f⟩, l⟩, ⟨gc, gq, gw, gr, gl⟩, wr, pl, mi⟩ i := by
    rw [hma]
    show _ = min ((mkN ⟨n, d, a, p, f⟩ (waN ⟨c, ⟨n, d, a, p, f⟩, l⟩) : Nat) : Int) i
    split <;> omega
  have hKi := skK_in (x := ⟨di, st, q, s0, ⟨c, ⟨n, d, a, p, f⟩, l⟩, ⟨gc, gq, gw, gr, gl⟩, wr, pl, mi⟩) hi.1
  obtain ⟨⟨k1, k2⟩, k3, k4, k5⟩ := blk_in (rsV_in hb.2.2.2.1).2 hl
  simp only at k1 k2 k3
  have hcc : (c.toNat : Int) = c := by omega
  have hii : (i.toNat : Int) = i := by omega
  have hmi : i * c = ((i.toNat * c.toNat : Nat) : Int) := by rw [Int.natCast_mul, hcc, hii]
  have hib := Nat.mul_le_mul (show i.toNat ≤ 65536 by omega) (show c.toNat ≤ 8 by omega)
  have hs3 : ¬ st = 3 := by omega
  have e : skE ⟨di, st, q, s0, ⟨c, ⟨n, d, a, p, f⟩, l⟩, ⟨gc, gq, gw, gr, gl⟩, wr, pl, mi⟩ i = 0 := by rw [hgo, if_neg hs3, if_pos hs]; exact h5
  have hct := cnt_in hb.2.2.2.1 hl hi.1
  have eM : skM ⟨di, st, q, s0, ⟨c, ⟨n, d, a, p, f⟩, l⟩, ⟨gc, gq, gw, gr, gl⟩, wr, pl, mi⟩ i = cnt ⟨c, ⟨n, d, a, p, f⟩, l⟩ i := by unfold skM; rw [if_neg hs3, if_pos hs]
  have eX : skX ⟨di, st, q, s0, ⟨c, ⟨n, d, a, p, f⟩, l⟩, ⟨gc, gq, gw, gr, gl⟩, wr, pl, mi⟩ i = 0 := by unfold skX; rw [if_neg (fun h => hs3 h.2)]
  have eC : fiC ⟨c, ⟨n, d, a, p, f⟩, l⟩ i = c := if_pos h5
  have eO : fiO ⟨c, ⟨n, d, a, p, f⟩, l⟩ i = outO ⟨c, ⟨n, d, a, p, f⟩, l⟩ (cnt ⟨c, ⟨n, d, a, p, f⟩, l⟩ i).toNat := if_pos h5
  have eT : fiR ⟨c, ⟨n, d, a, p, f⟩, l⟩ i = poR ⟨c, ⟨n, d, a, p, f⟩, l⟩ (cnt ⟨c, ⟨n, d, a, p, f⟩, l⟩ i) := if_pos h5
  have eS : skS ⟨di, st, q, s0, ⟨c, ⟨n, d, a, p, f⟩, l⟩, ⟨gc, gq, gw, gr, gl⟩, wr, pl, mi⟩ i = if (poR ⟨c, ⟨n, d, a, p, f⟩, l⟩ (cnt ⟨c, ⟨n, d, a, p, f⟩, l⟩ i)).l.length = 0 then 6 else st := by
    unfold skS
    rw [eM]
    simp [hs]
  have eR : skR ⟨di, st, q, s0, ⟨c, ⟨n, d, a, p, f⟩, l⟩, ⟨gc, gq, gw, gr, gl⟩, wr, pl, mi⟩ i = ⟨di, skS ⟨di, st, q, s0, ⟨c, ⟨n, d, a, p, f⟩, l⟩, ⟨gc, gq, gw, gr, gl⟩, wr, pl, mi⟩ i, q, s0, poR ⟨c, ⟨n, d, a, p, f⟩, l⟩ (cnt ⟨c, ⟨n, d, a, p, f⟩, l⟩ i), ⟨gc, gq, gw, gr, gl⟩, wr, IntKind.i64.wrap (pl + i), IntKind.i64.wrap (mi + 0)⟩ := by
    unfold skR
    rw [if_pos e, if_pos (Or.inr hs), eM, eX]
  have eC2 : skC ⟨di, st, q, s0, ⟨c, ⟨n, d, a, p, f⟩, l⟩, ⟨gc, gq, gw, gr, gl⟩, wr, pl, mi⟩ i = c := if_pos e
  have eO2 : skO ⟨di, st, q, s0, ⟨c, ⟨n, d, a, p, f⟩, l⟩, ⟨gc, gq, gw, gr, gl⟩, wr, pl, mi⟩ i = outO ⟨c, ⟨n, d, a, p, f⟩, l⟩ (cnt ⟨c, ⟨n, d, a, p, f⟩, l⟩ i).toNat ++ List.replicate ((i.toNat - (cnt ⟨c, ⟨n, d, a, p, f⟩, l⟩ i).toNat) * c.toNat) 0 := by
    unfold skO
    rw [if_pos e, eM]
  have hol : (outO ⟨c, ⟨n, d, a, p, f⟩, l⟩ (cnt ⟨c, ⟨n, d, a, p, f⟩, l⟩ i).toNat).length = (cnt ⟨c, ⟨n, d, a, p, f⟩, l⟩ i).toNat * c.toNat := outO_len _ _
  have hle := Nat.mul_le_mul_right c.toNat (show (cnt ⟨c, ⟨n, d, a, p, f⟩, l⟩ i).toNat ≤ i.toNat by omega)
  have hsub : (((i.toNat * c.toNat : Nat) : Int) - (((cnt ⟨c, ⟨n, d, a, p, f⟩, l⟩ i).toNat * c.toNat : Nat) : Int)).toNat = (i.toNat - (cnt ⟨c, ⟨n, d, a, p, f⟩, l⟩ i).toNat) * c.toNat := by rw [Nat.sub_mul]; omega
  refine ⟨fun c3 => absurd (by simpa using c3) hs3, fun c3 => ⟨fun c5 => ⟨⟨hl, h5⟩, fun c6 => ⟨fun c7 => ?_, fun c7 => ⟨by kernel_rfl, ?_⟩⟩, fun c6 => ⟨fun c7 => ?_, fun c7 => ⟨by kernel_rfl, ?_⟩⟩⟩, fun c5 => absurd hs (by simpa using c5)⟩⟩
  · rw [h5] at c7; exact absurd c7 (by decide)
  · rw [eT] at c6
    have c8 : (poR ⟨c, ⟨n, d, a, p, f⟩, l⟩ (cnt ⟨c, ⟨n, d, a, p, f⟩, l⟩ i)).l.length = 0 := by simpa using c6
    rw [eC, eO, eT, e, eC2, eO2, eR, eX, eS, if_pos c8, hmi, hol]
    refine ⟨⟨by omega, by omega⟩, ?_⟩
    rw [hsub]
  · rw [h5] at c7; exact absurd c7 (by decide)
  · rw [eT] at c6
    have c8 : ¬ (poR ⟨c, ⟨n, d, a, p, f⟩, l⟩ (cnt ⟨c, ⟨n, d, a, p, f⟩, l⟩ i)).l.length = 0 := by
      intro h8
      rw [h8] at c6
      exact absurd c6 (by decide)
    rw [eC, eO, eT, e, eC2, eO2, eR, eX, eS, if_neg c8, hmi, hol]
    refine ⟨⟨by omega, by omega⟩, ?_⟩
    rw [hsub]

theorem spec_stake (di st q s0 c n d a p f : Int) (l : List Int) (gc gq gw gr : Int) (gl : List Int) (wr pl mi : Int) (i : Int) (hl : l.length ≤ 1000000) (hg : gl.length ≤ 1000000) : Spec Try.prog 0 17 [.agg [.d (.int .i64 di), .d (.int .i64 st), .d (.int .i64 q), .d (.int .i64 s0), .d (.int .i64 c), .d (.int .i64 n), .d (.int .i64 d), .d (.int .i64 a), .d (.int .i64 p), .d (.int .i64 f), .d (.list (LI .i32 l)), .d (.int .i64 gc), .d (.int .i64 gq), .d (.int .i64 gw), .d (.int .i64 gr), .d (.list (LI .i32 gl)), .d (.int .i64 wr), .d (.int .i64 pl), .d (.int .i64 mi)], .c (.d (.int .i64 i))] [] [] (.tup [.agg [.int .i64 (skC ⟨di, st, q, s0, ⟨c, ⟨n, d, a, p, f⟩, l⟩, ⟨gc, gq, gw, gr, gl⟩, wr, pl, mi⟩ i), .list (LI .i32 (skO ⟨di, st, q, s0, ⟨c, ⟨n, d, a, p, f⟩, l⟩, ⟨gc, gq, gw, gr, gl⟩, wr, pl, mi⟩ i))], .int .i64 (skX ⟨di, st, q, s0, ⟨c, ⟨n, d, a, p, f⟩, l⟩, ⟨gc, gq, gw, gr, gl⟩, wr, pl, mi⟩ i), .agg (smD (skR ⟨di, st, q, s0, ⟨c, ⟨n, d, a, p, f⟩, l⟩, ⟨gc, gq, gw, gr, gl⟩, wr, pl, mi⟩ i)), .int .i64 (skE ⟨di, st, q, s0, ⟨c, ⟨n, d, a, p, f⟩, l⟩, ⟨gc, gq, gw, gr, gl⟩, wr, pl, mi⟩ i)]) [] [] := by
  by_cases h3 : st = 3 ∧ tkE ⟨c, ⟨n, d, a, p, f⟩, l⟩ (skK ⟨di, st, q, s0, ⟨c, ⟨n, d, a, p, f⟩, l⟩, ⟨gc, gq, gw, gr, gl⟩, wr, pl, mi⟩ i) = 0
  · exact spec_stakeB di st q s0 c n d a p f l gc gq gw gr gl wr pl mi i hl hg h3.1 h3.2
  by_cases h5 : st = 5 ∧ fiE ⟨c, ⟨n, d, a, p, f⟩, l⟩ i = 0
  · exact spec_stakeC di st q s0 c n d a p f l gc gq gw gr gl wr pl mi i hl hg h5.1 h5.2
  · exact spec_stakeA di st q s0 c n d a p f l gc gq gw gr gl wr pl mi i hl hg (fun h h2 => h3 ⟨h, h2⟩) (fun h h2 => h5 ⟨h, h2⟩)

def E_stake : List V → Boxes → Toks → Name → Option Ent
  | [.agg [.d (.int .i64 di), .d (.int .i64 st), .d (.int .i64 q), .d (.int .i64 s0), .d (.int .i64 c), .d (.int .i64 n), .d (.int .i64 d), .d (.int .i64 a), .d (.int .i64 p), .d (.int .i64 f), .d (.list q_l), .d (.int .i64 gc), .d (.int .i64 gq), .d (.int .i64 gw), .d (.int .i64 gr), .d (.list q_gl), .d (.int .i64 wr), .d (.int .i64 pl), .d (.int .i64 mi)], .c (.d (.int .i64 i))], [], [], _ => some ⟨(ints q_l).length ≤ 1000000 ∧ (ints q_gl).length ≤ 1000000 ∧ q_l = LI .i32 (ints q_l) ∧ q_gl = LI .i32 (ints q_gl), .tup [.agg [.int .i64 (skC ⟨di, st, q, s0, ⟨c, ⟨n, d, a, p, f⟩, (ints q_l)⟩, ⟨gc, gq, gw, gr, (ints q_gl)⟩, wr, pl, mi⟩ i), .list (LI .i32 (skO ⟨di, st, q, s0, ⟨c, ⟨n, d, a, p, f⟩, (ints q_l)⟩, ⟨gc, gq, gw, gr, (ints q_gl)⟩, wr, pl, mi⟩ i))], .int .i64 (skX ⟨di, st, q, s0, ⟨c, ⟨n, d, a, p, f⟩, (ints q_l)⟩, ⟨gc, gq, gw, gr, (ints q_gl)⟩, wr, pl, mi⟩ i), .agg (smD (skR ⟨di, st, q, s0, ⟨c, ⟨n, d, a, p, f⟩, (ints q_l)⟩, ⟨gc, gq, gw, gr, (ints q_gl)⟩, wr, pl, mi⟩ i)), .int .i64 (skE ⟨di, st, q, s0, ⟨c, ⟨n, d, a, p, f⟩, (ints q_l)⟩, ⟨gc, gq, gw, gr, (ints q_gl)⟩, wr, pl, mi⟩ i)], [], []⟩
  | _, _, _, _ => none
def E_stake_eq := And.intro (@E_stake.eq_1) (@E_stake.eq_1)
theorem E_stake_ok : Snd Try.prog 17 E_stake := by
  intro vs b k n e h hn hp
  unfold E_stake at h
  split at h
  · cases h; obtain ⟨hp0, hp1, hq0, hq1⟩ := hp; obtain ⟨_, rfl⟩ := LI_ex hq0; obtain ⟨_, rfl⟩ := LI_ex hq1; simp only [ints_LI, bys_LB, blks_LK, lls_LL] at hp0 hp1 ⊢; exact (spec_stake _ _ _ _ _ _ _ _ _ _ _ _ _ _ _ _ _ _ _ _ hp0 hp1).lift rfl _
  · cases h

theorem spec_sgive (di st q s0 c n d a p f : Int) (l : List Int) (gc gq gw gr : Int) (gl : List Int) (wr pl mi : Int) (k : Int) (y : List Int) (hl : l.length ≤ 1000000) (hg : gl.length ≤ 1000000) (hy : y.length ≤ 1000000) : Spec Try.prog 0 26 [.agg (smC ⟨di, st, q, s0, ⟨c, ⟨n, d, a, p, f⟩, l⟩, ⟨gc, gq, gw, gr, gl⟩, wr, pl, mi⟩), .agg [.d (.int .i64 k), .d (.list (LI .i32 y))]] [] [] (.tup [.int .i64 (gvL ⟨di, st, q, s0, ⟨c, ⟨n, d, a, p, f⟩, l⟩, ⟨gc, gq, gw, gr, gl⟩, wr, pl, mi⟩ k y), .agg (smD (gvR ⟨di, st, q, s0, ⟨c, ⟨n, d, a, p, f⟩, l⟩, ⟨gc, gq, gw, gr, gl⟩, wr, pl, mi⟩ k y)), .int .i64 (gvE ⟨di, st, q, s0, ⟨c, ⟨n, d, a, p, f⟩, l⟩, ⟨gc, gq, gw, gr, gl⟩, wr, pl, mi⟩ k y)]) [] [] := by
  refine spec_of_E (X := ⟨Try.prog, tt, Try.f26.ntmps, 1, fun _ => 0, (tab [(33, E_sisd), (34, E_bvalid), (39, E_sown), (57, E_convert), (58, E_rgwrite)])⟩) (M := [(7, [0, 0, 0, 0, 0, 288331670816309247, 0, 0, 0, 0, 0, 288318339237822463, 0]), (10, [0, 0, 0, 0, 0, 414964486571573247, 0, 0, 0, 0, 0, 0])]) (m := 288300747051778047) rfl rfl ⟨tt_ok, tab_ok (tabs_cons E_sisd_ok (tabs_cons E_bvalid_ok (tabs_cons E_sown_ok (tabs_cons E_convert_ok (tabs_cons E_rgwrite_ok tabs_nil))))) _ rfl rfl⟩ tt_mixed Try.func26 rfl (by decide) (by show (2 : Nat) ≤ _; exact Nat.le_of_ble_eq_true rfl) ⟨fun m hm => (V.bare_has rfl m hm).elim, by simp, by simp⟩ ?_
  simp only [↓gPre, gPost, gCore, gDef, Nat.reduceShiftRight, Nat.reduceMod, if_true, if_false, ↓reduceIte, reduceCtorEq, Nat.reduceEqDiff, Nat.reduceLT, Nat.reduceLeDiff, implies_true, forall_const, eq_self, ne_eq, not_true_eq_false, not_false_eq_true, imp_self, Nat.reduceAdd, Nat.reduceMul, Int.reduceLE, Int.reduceLT, Int.reduceNeg, Int.reduceAdd, Int.reduceToNat, E_sisd_eq, E_bvalid_eq, E_sown_eq, E_convert_eq, E_rgwrite_eq, rg_eta, sm_eta, ph_eta, rs_eta, smD_eq, smC_eq, Try.ntmps26, Try.results26, gTT]
  refine ⟨⟨hl, hg⟩, fun _ => hy, fun h => ?_, fun h => ⟨fun h2 => ?_, fun h2 => ⟨fun h3 => ⟨⟨hl, hg⟩, ?_⟩, fun h3 => ⟨⟨hl, hy⟩, fun h4 => ?_, fun h4 => ⟨⟨hg, ?_⟩, fun h5 => ?_, fun h5 => ⟨by kernel_rfl, by kernel_rfl, ?_, by kernel_rfl, ?_⟩⟩⟩⟩⟩⟩
  · have e : gvE ⟨di, st, q, s0, ⟨c, ⟨n, d, a, p, f⟩, l⟩, ⟨gc, gq, gw, gr, gl⟩, wr, pl, mi⟩ k y = 1 := by unfold gvE smR; rw [if_pos h]
    simp [gvL, gvR, e, sm0, rs0, rg0, LI_nil]
  · have hk : k ≠ c := by simpa using h2
    have e : gvE ⟨di, st, q, s0, ⟨c, ⟨n, d, a, p, f⟩, l⟩, ⟨gc, gq, gw, gr, gl⟩, wr, pl, mi⟩ k y = 11 := by unfold gvE smR; rw [if_neg (by rw [h]; decide), if_pos hk]
    simp [gvL, gvR, e, sm0, rs0, rg0, LI_nil]
  all_goals
    have hk : k = c := by simpa using h2
    have hg0 : gvE ⟨di, st, q, s0, ⟨c, ⟨n, d, a, p, f⟩, l⟩, ⟨gc, gq, gw, gr, gl⟩, wr, pl, mi⟩ k y = if st ≠ 3 then 0 else if cvE ⟨c, ⟨n, d, a, p, f⟩, l⟩ k y ≠ 0 then cvE ⟨c, ⟨n, d, a, p, f⟩, l⟩ k y else rwE ⟨gc, gq, gw, gr, gl⟩ (cvC ⟨c, ⟨n, d, a, p, f⟩, l⟩ k y) (cvO ⟨c, ⟨n, d, a, p, f⟩, l⟩ k y) := by
      unfold gvE smR
      rw [if_neg (by rw [h]; decide), if_neg (by simpa using hk)]
  · have hs : st ≠ 3 := by simpa using h3
    have e : gvE ⟨di, st, q, s0, ⟨c, ⟨n, d, a, p, f⟩, l⟩, ⟨gc, gq, gw, gr, gl⟩, wr, pl, mi⟩ k y = 0 := by rw [hg0, if_pos hs]
    have e1 : gvL ⟨di, st, q, s0, ⟨c, ⟨n, d, a, p, f⟩, l⟩, ⟨gc, gq, gw, gr, gl⟩, wr, pl, mi⟩ k y = 0 := by unfold gvL; rw [if_neg (fun h => hs h.2)]
    have e2 : gvR ⟨di, st, q, s0, ⟨c, ⟨n, d, a, p, f⟩, l⟩, ⟨gc, gq, gw, gr, gl⟩, wr, pl, mi⟩ k y = ⟨di, st, q, s0, ⟨c, ⟨n, d, a, p, f⟩, l⟩, ⟨gc, gq, gw, gr, gl⟩, wr, pl, mi⟩ := by unfold gvR; rw [if_pos e, if_neg hs]
    rw [e, e1, e2]
  all_goals
    have hs : st = 3 := by simpa using h3
    rw [if_neg (by simpa using hs)] at hg0
  · have h6 : cvE ⟨c, ⟨n, d, a, p, f⟩, l⟩ k y ≠ 0 := by simpa using h4
    have e : gvE ⟨di, st, q, s0, ⟨c, ⟨n, d, a, p, f⟩, l⟩, ⟨gc, gq, gw, gr, gl⟩, wr, pl, mi⟩ k y = cvE ⟨c, ⟨n, d, a, p, f⟩, l⟩ k y := by rw [hg0, if_pos h6]
    have e0 : gvE ⟨di, st, q, s0, ⟨c, ⟨n, d, a, p, f⟩, l⟩, ⟨gc, gq, gw, gr, gl⟩, wr, pl, mi⟩ k y ≠ 0 := by rw [e]; exact h6
    rw [← e]
    simp [gvL, gvR, e0, sm0, rs0, rg0, LI_nil]
  all_goals
    have h6 : cvE ⟨c, ⟨n, d, a, p, f⟩, l⟩ k y = 0 := by simpa using h4
    rw [if_neg (by simpa using h6)] at hg0
  · have := cvO_len hl hy h6
    omega
  · have h7 : rwE ⟨gc, gq, gw, gr, gl⟩ (cvC ⟨c, ⟨n, d, a, p, f⟩, l⟩ k y) (cvO ⟨c, ⟨n, d, a, p, f⟩, l⟩ k y) ≠ 0 := by simpa using h5
    have e0 : gvE ⟨di, st, q, s0, ⟨c, ⟨n, d, a, p, f⟩, l⟩, ⟨gc, gq, gw, gr, gl⟩, wr, pl, mi⟩ k y ≠ 0 := by rw [hg0]; exact h7
    rw [← hg0]
    simp [gvL, gvR, e0, sm0, rs0, rg0, LI_nil]
  all_goals
    have hb : blkV k y = true := by
      simp only [Bool.or_eq_false_iff, Bool.not_eq_false'] at h
      exact h.2
    obtain ⟨⟨k1, k2⟩, k3, k4, k5⟩ := blk_in hb hy
  · omega
  have h7 : rwE ⟨gc, gq, gw, gr, gl⟩ (cvC ⟨c, ⟨n, d, a, p, f⟩, l⟩ k y) (cvO ⟨c, ⟨n, d, a, p, f⟩, l⟩ k y) = 0 := by simpa using h5
  have e : gvE ⟨di, st, q, s0, ⟨c, ⟨n, d, a, p, f⟩, l⟩, ⟨gc, gq, gw, gr, gl⟩, wr, pl, mi⟩ k y = 0 := by rw [hg0]; exact h7
  have e1 : gvL ⟨di, st, q, s0, ⟨c, ⟨n, d, a, p, f⟩, l⟩, ⟨gc, gq, gw, gr, gl⟩, wr, pl, mi⟩ k y = rwL ⟨gc, gq, gw, gr, gl⟩ (cvC ⟨c, ⟨n, d, a, p, f⟩, l⟩ k y) (cvO ⟨c, ⟨n, d, a, p, f⟩, l⟩ k y) := if_pos ⟨e, hs⟩
  have e2 : gvR ⟨di, st, q, s0, ⟨c, ⟨n, d, a, p, f⟩, l⟩, ⟨gc, gq, gw, gr, gl⟩, wr, pl, mi⟩ k y = ⟨di, st, q, s0, cvR ⟨c, ⟨n, d, a, p, f⟩, l⟩ k y, rwR ⟨gc, gq, gw, gr, gl⟩ (cvC ⟨c, ⟨n, d, a, p, f⟩, l⟩ k y) (cvO ⟨c, ⟨n, d, a, p, f⟩, l⟩ k y), wr, IntKind.i64.wrap (pl + swN k y), IntKind.i64.wrap (mi + rwL ⟨gc, gq, gw, gr, gl⟩ (cvC ⟨c, ⟨n, d, a, p, f⟩, l⟩ k y) (cvO ⟨c, ⟨n, d, a, p, f⟩, l⟩ k y))⟩ := by
    unfold gvR
    rw [if_pos e, if_pos hs, e1]
  have e3 : swN k y = ((y.length / k.toNat : Nat) : Int) := rfl
  rw [len_div k1 (by omega), e, e1, e2, e3]
def E_sgive : List V → Boxes → Toks → Name → Option Ent
  | [.agg [.d (.int .i64 di), .d (.int .i64 st), .d (.int .i64 q), .d (.int .i64 s0), .d (.int .i64 c), .d (.int .i64 n), .d (.int .i64 d), .d (.int .i64 a), .d (.int .i64 p), .d (.int .i64 f), .d (.list q_l), .d (.int .i64 gc), .d (.int .i64 gq), .d (.int .i64 gw), .d (.int .i64 gr), .d (.list q_gl), .d (.int .i64 wr), .d (.int .i64 pl), .d (.int .i64 mi)], .agg [.d (.int .i64 k), .d (.list q_y)]], [], [], _ => some ⟨(ints q_l).length ≤ 1000000 ∧ (ints q_gl).length ≤ 1000000 ∧ (ints q_y).length ≤ 1000000 ∧ q_l = LI .i32 (ints q_l) ∧ q_gl = LI .i32 (ints q_gl) ∧ q_y = LI .i32 (ints q_y), .tup [.int .i64 (gvL ⟨di, st, q, s0, ⟨c, ⟨n, d, a, p, f⟩, (ints q_l)⟩, ⟨gc, gq, gw, gr, (ints q_gl)⟩, wr, pl, mi⟩ k (ints q_y)), .agg (smD (gvR ⟨di, st, q, s0, ⟨c, ⟨n, d, a, p, f⟩, (ints q_l)⟩, ⟨gc, gq, gw, gr, (ints q_gl)⟩, wr, pl, mi⟩ k (ints q_y))), .int .i64 (gvE ⟨di, st, q, s0, ⟨c, ⟨n, d, a, p, f⟩, (ints q_l)⟩, ⟨gc, gq, gw, gr, (ints q_gl)⟩, wr, pl, mi⟩ k (ints q_y))], [], []⟩
  | _, _, _, _ => none
def E_sgive_eq := And.intro (@E_sgive.eq_1) (@E_sgive.eq_1)
theorem E_sgive_ok : Snd Try.prog 26 E_sgive := by
  intro vs b k n e h hn hp
  unfold E_sgive at h
  split at h
  · cases h; obtain ⟨hp0, hp1, hp2, hq0, hq1, hq2⟩ := hp; obtain ⟨_, rfl⟩ := LI_ex hq0; obtain ⟨_, rfl⟩ := LI_ex hq1; obtain ⟨_, rfl⟩ := LI_ex hq2; simp only [ints_LI, bys_LB, blks_LK, lls_LL] at hp0 hp1 hp2 ⊢; exact (spec_sgive _ _ _ _ _ _ _ _ _ _ _ _ _ _ _ _ _ _ _ _ _ hp0 hp1 hp2).lift rfl _
  · cases h

end Go.Vam
