/- The laws StreamMakes, StreamOwing, StreamWrites, StreamMoves give true. Conditions: none. -/
import Derived.Test.YtdhhjfnmocimmaaGreatStS
set_option linter.unusedVariables false
set_option linter.defProp false
set_option linter.unusedSimpArgs false
set_option maxRecDepth 40000
set_option maxHeartbeats 4000000
namespace Go.Vam
open Go.Proofs

def lightB (x : Sm) : Bool := decide (x.r.p.d ≤ IntKind.i64.wrap (100 * x.r.p.n)) || x.di == 1
def wrQ (l : List UInt8) : Nat → List UInt8
  | 0 => msR (dT l 2)
  | k + 1 => dT (wrQ l k) 30


/-- The phase after so many output frames. -/
def adv (p : Ph) (N : Nat) : Ph := ⟨p.n, p.d, p.a, p.p + qN p N, fAt p N⟩
theorem adv_zero {p : Ph} (h : phV p = true) : adv p 0 = p ∧ qN p 0 = 0 := by
  obtain ⟨_, _, _, _, h5, h6⟩ := phV_in h
  have hp := prt_in h
  have e : ahd p ((0 : Nat) : Int) = p.f := by unfold ahd; simp
  have q0 : qN p 0 = 0 := by
    unfold qN qAt
    rw [e, Int.ediv_eq_zero_of_lt h5.1 (by omega)]
    rfl
  have f0 : fAt p ((0 : Nat) : Int) = p.f := by
    unfold fAt
    rw [e, Int.emod_eq_of_lt h5.1 (by omega)]
  refine ⟨?_, q0⟩
  unfold adv
  rw [q0, f0]
  simp
theorem q_le_ned {p : Ph} (h : phV p = true) {n : Nat} (hn : n ≤ 65536) : (qN p n : Int) ≤ ned p n := by
  have h1 := qN_eq h hn
  unfold ned
  split
  · have : n = 0 := by omega
    subst this
    rw [(adv_zero h).2]
    exact Int.le_refl _
  · omega

theorem sk_fl {x : Sm} {ch : Int} {n : Nat} (h : okS x 1 ch n) (hn : n ≤ 900) (hs : x.st = 3) {i : Int} (hi : 0 ≤ i ∧ i ≤ 65536) :
    skR x i = ⟨x.di, 3, x.q, x.s0, poR x.r (skK x i), x.g, x.wr, x.pl + i, x.mi + skX x i⟩ ∧ waN (poR x.r (skK x i)) + (poR x.r (skK x i)).p.p = waN x.r + x.r.p.p ∧ (0 ≤ skX x i ∧ skX x i ≤ i) := by
  have hb := smB_in h.b
  have he := sk_go h hn hi
  have hX := skX_in he
  have h1 := h.pl
  have h2 := h.mi
  have hK := skK_in (x := x) hi.1
  have eM : skM x i = skK x i := if_pos hs
  have eX : skX x i = i - skK x i := if_pos ⟨he, hs⟩
  have eS : skS x i = 3 := by
    unfold skS
    rw [if_neg (by omega)]
    exact hs
  refine ⟨?_, ?_, by omega⟩
  · unfold skR
    rw [if_pos he, if_pos (Or.inl hs), eM, eS, IntWalk.i64_in (x.pl + i) (by omega), IntWalk.i64_in (x.mi + skX x i) (by omega)]
  · have hpo := sk_po he (Or.inl hs)
    rw [eM] at hpo
    have hv := hb.2.2.2.1
    obtain ⟨p1, p2, p3, p4, p5⟩ := po_ok hv h.lr hpo
    have hq := qN_eq (rsV_in hv).1 (g := (skK x i).toNat) (by omega)
    have hKc : (((skK x i).toNat : Nat) : Int) = skK x i := by omega
    rw [hKc] at hq
    have hw := waN_V hv h.lr
    have hm := (mkN_iff (rsV_in hv).1 hw.2.1 (k := (skK x i).toNat) (by omega)).1 (by
      have : skK x i = min ((mkN x.r.p (waN x.r) : Nat) : Int) i := rfl
      omega)
    have hqn := q_le_ned (rsV_in hv).1 (n := (skK x i).toNat) (by omega)
    obtain ⟨⟨k1, k2⟩, k3, k4, k5⟩ := blk_in (rsV_in hv).2 h.lr
    have hqw : qN x.r.p (skK x i).toNat ≤ x.r.l.length / x.r.c.toNat := by omega
    have hqm := Nat.mul_le_mul_right x.r.c.toNat hqw
    have el : (poR x.r (skK x i)).l.length = (x.r.l.length / x.r.c.toNat - qN x.r.p (skK x i).toNat) * x.r.c.toNat := by
      unfold poR
      rw [if_pos hpo]
      show (x.r.l.drop (min x.r.l.length (qN x.r.p (skK x i).toNat * x.r.c.toNat))).length = _
      rw [List.length_drop, Nat.sub_mul]
      omega
    rw [(waN_V p1 (by have := h.lr; omega)).1, p2, p4, el, Nat.mul_div_cancel _ (by omega), hw.1]
    show _ + (x.r.p.p + qAt x.r.p (skK x i)) = _
    omega
structure okN (x : Sm) (ch : Int) (k : Nat) : Prop where
  ok : okS x 1 ch k
  st : x.st = 3
  q : x.q = 50
  w : x.wr = waN x.r + x.r.p.p

theorem spec_makes (di st q s0 c n d a p f : Int) (l : List Int) (gc gq gw gr : Int) (gl : List Int) (wr pl mi : Int) (u : List UInt8) (i dk ch cap sta bn bd : Int) : Spec Tryz.prog 0 3 [.agg (smC ⟨di, st, q, s0, ⟨c, ⟨n, d, a, p, f⟩, l⟩, ⟨gc, gq, gw, gr, gl⟩, wr, pl, mi⟩), vL (LB u), vI .i64 i, vI .i64 dk, vI .i64 ch, vI .i64 cap, vI .i64 sta, .agg [.d (.int .i64 bn), .d (.int .i64 bd)]] [] [] (vB true) [] [] := by
  refine spec_of_E (X := ⟨Tryz.prog, tt, Tryz.f3.ntmps, 1, fun _ => 0, (tab [(9, E_sane), (10, E_keepst), (12, E_new), (11, E_made), (13, E_sowes), (14, E_rsowes), (15, E_svalid), (16, E_rsvalid20), (17, E_swaiting), (18, E_rswaiting), (19, E_sroom), (20, E_rsroom), (21, E_snew), (22, E_rsnew20), (23, E_rssame20)])⟩) (M := [(16, [0, 0, 0, 0, 0, 21778071559038709357644706297235104956927, 0, 0, 0, 0, 0, 21778071559038557032991434853959091978751, 0, 0, 0, 0, 0, 21778071559029117740191883829362986156543, 0]), (22, [0, 0, 0, 0, 0, 21778217267849497368468105079148307120639, 0, 0, 0, 0, 0, 0]), (23, [0, 0, 0, 0, 0, 21852674480282333138234505613353302721023, 0, 0, 0, 0, 0, 0])]) (m := 21778071559018904734867779442095068381695) rfl rfl ⟨tt_ok, tab_ok (tabs_cons E_sane_ok (tabs_cons E_keepst_ok (tabs_cons E_new_ok (tabs_cons E_made_ok (tabs_cons E_sowes_ok (tabs_cons E_rsowes_ok (tabs_cons E_svalid_ok (tabs_cons E_rsvalid20_ok (tabs_cons E_swaiting_ok (tabs_cons E_rswaiting_ok (tabs_cons E_sroom_ok (tabs_cons E_rsroom_ok (tabs_cons E_snew_ok (tabs_cons E_rsnew20_ok (tabs_cons E_rssame20_ok tabs_nil))))))))))))))) _ rfl rfl⟩ tt_mixed Tryz.func3 rfl (by decide) (by show (8 : Nat) ≤ _; exact Nat.le_of_ble_eq_true rfl) ⟨fun m hm => (V.bare_has rfl m hm).elim, by simp, by simp⟩ ?_
  simp only [↓gPre, gPost, gCore, gDef, Nat.reduceShiftRight, Nat.reduceMod, if_true, if_false, ↓reduceIte, reduceCtorEq, Nat.reduceEqDiff, Nat.reduceLT, Nat.reduceLeDiff, implies_true, forall_const, eq_self, ne_eq, not_true_eq_false, not_false_eq_true, imp_self, Nat.reduceAdd, Nat.reduceMul, Int.reduceLE, Int.reduceLT, Int.reduceNeg, Int.reduceAdd, Int.reduceToNat, E_sane_eq, E_keepst_eq, E_new_eq, E_made_eq, E_sowes_eq, E_rsowes_eq, E_svalid_eq, E_rsvalid20_eq, E_swaiting_eq, E_rswaiting_eq, E_sroom_eq, E_rsroom_eq, E_snew_eq, E_rsnew20_eq, E_rssame20_eq, rg_eta, sm_eta, ph_eta, rs_eta, smD_eq, smC_eq, gS2, gi2, Tryz.ntmps3, Tryz.results3, gTT]
  refine fun h0 => ⟨by kernel_rfl, ?_⟩
  have hb : l.length ≤ 300 ∧ gl.length ≤ 300 := by
    simp only [Bool.not_eq_false', Bool.and_eq_true, decide_eq_true_eq] at h0
    omega
  have hM := msX_ok (dT (List.take 300 u) 2) (di := 1 + dN (List.take 300 u) 2) (by have := dN_lt (List.take 300 u) 2 (by decide); have := dN_ge (List.take 300 u) 2; omega)
  have hM1 := hM.ll
  have hM2 := hM.gl
  have hX : ∀ j : Nat, ((([⟨di, st, q, s0, ⟨c, ⟨n, d, a, p, f⟩, l⟩, ⟨gc, gq, gw, gr, gl⟩, wr, pl, mi⟩, msX (dT (List.take 300 u) 2) (1 + dN (List.take 300 u) 2)] : List Sm)[j]?.getD sm0).r.l.length ≤ 524288 ∧ (([⟨di, st, q, s0, ⟨c, ⟨n, d, a, p, f⟩, l⟩, ⟨gc, gq, gw, gr, gl⟩, wr, pl, mi⟩, msX (dT (List.take 300 u) 2) (1 + dN (List.take 300 u) 2)] : List Sm)[j]?.getD sm0).g.l.length ≤ 524288) := two_of (P := fun x : Sm => x.r.l.length ≤ 524288 ∧ x.g.l.length ≤ 524288) ⟨by show l.length ≤ _; omega, by show gl.length ≤ _; omega⟩ ⟨hM1, hM2⟩ ⟨Nat.zero_le _, Nat.zero_le _⟩
  refine ELoop_keep (fun g => ⟨[(42, vI .i64 (g : Nat))], [], []⟩) (fun g => g ≤ 2) (fun g => 2 - g) (· + 1) 0 (by decide) ?_ ?_
  · simp only [↓gPre, gPost, gCore, gDef, Nat.reduceShiftRight, Nat.reduceMod, if_true, if_false, ↓reduceIte, reduceCtorEq, Nat.reduceEqDiff, Nat.reduceLT, Nat.reduceLeDiff, implies_true, forall_const, eq_self, ne_eq, not_true_eq_false, not_false_eq_true, imp_self, Nat.reduceAdd, Nat.reduceMul, Int.reduceLE, Int.reduceLT, Int.reduceNeg, Int.reduceAdd, Int.reduceToNat, E_sane_eq, E_keepst_eq, E_new_eq, E_made_eq, E_sowes_eq, E_rsowes_eq, E_svalid_eq, E_rsvalid20_eq, E_swaiting_eq, E_rswaiting_eq, E_sroom_eq, E_rsroom_eq, E_snew_eq, E_rsnew20_eq, E_rssame20_eq, rg_eta, sm_eta, ph_eta, rs_eta, smD_eq, smC_eq, gS2, gi2, Tryz.ntmps3, Tryz.results3, gTT]
    rfl
  intro g hg
  simp only [↓gPre, gPost, gCore, gDef, Nat.reduceShiftRight, Nat.reduceMod, if_true, if_false, ↓reduceIte, reduceCtorEq, Nat.reduceEqDiff, Nat.reduceLT, Nat.reduceLeDiff, implies_true, forall_const, eq_self, ne_eq, not_true_eq_false, not_false_eq_true, imp_self, Nat.reduceAdd, Nat.reduceMul, Int.reduceLE, Int.reduceLT, Int.reduceNeg, Int.reduceAdd, Int.reduceToNat, E_sane_eq, E_keepst_eq, E_new_eq, E_made_eq, E_sowes_eq, E_rsowes_eq, E_svalid_eq, E_rsvalid20_eq, E_swaiting_eq, E_rswaiting_eq, E_sroom_eq, E_rsroom_eq, E_snew_eq, E_rsnew20_eq, E_rssame20_eq, rg_eta, sm_eta, ph_eta, rs_eta, smD_eq, smC_eq, gS2, gi2, Tryz.ntmps3, Tryz.results3, gTT]
  have hXg := hX g
  generalize ([⟨di, st, q, s0, ⟨c, ⟨n, d, a, p, f⟩, l⟩, ⟨gc, gq, gw, gr, gl⟩, wr, pl, mi⟩, msX (dT (List.take 300 u) 2) (1 + dN (List.take 300 u) 2)] : List Sm)[g]?.getD sm0 = X at *
  refine ⟨fun h1 => ⟨⟨by omega, by have := of_decide_eq_true h1; omega⟩, by decide, ?_⟩, fun h1 => ⟨by decide, by decide, ?_⟩⟩
  · have hg2 : g + 1 ≤ 2 := by have := of_decide_eq_true h1; omega
    refine ELoop_keep (fun g => ⟨[(51, vI .i64 (g : Nat))], [], []⟩) (fun g => g ≤ 2) (fun g => 2 - g) (· + 1) 0 (by decide) ?_ ?_
    · simp only [↓gPre, gPost, gCore, gDef, Nat.reduceShiftRight, Nat.reduceMod, if_true, if_false, ↓reduceIte, reduceCtorEq, Nat.reduceEqDiff, Nat.reduceLT, Nat.reduceLeDiff, implies_true, forall_const, eq_self, ne_eq, not_true_eq_false, not_false_eq_true, imp_self, Nat.reduceAdd, Nat.reduceMul, Int.reduceLE, Int.reduceLT, Int.reduceNeg, Int.reduceAdd, Int.reduceToNat, E_sane_eq, E_keepst_eq, E_new_eq, E_made_eq, E_sowes_eq, E_rsowes_eq, E_svalid_eq, E_rsvalid20_eq, E_swaiting_eq, E_rswaiting_eq, E_sroom_eq, E_rsroom_eq, E_snew_eq, E_rsnew20_eq, E_rssame20_eq, rg_eta, sm_eta, ph_eta, rs_eta, smD_eq, smC_eq, gS2, gi2, Tryz.ntmps3, Tryz.results3, gTT]
      rfl
    intro j hj
    simp only [↓gPre, gPost, gCore, gDef, Nat.reduceShiftRight, Nat.reduceMod, if_true, if_false, ↓reduceIte, reduceCtorEq, Nat.reduceEqDiff, Nat.reduceLT, Nat.reduceLeDiff, implies_true, forall_const, eq_self, ne_eq, not_true_eq_false, not_false_eq_true, imp_self, Nat.reduceAdd, Nat.reduceMul, Int.reduceLE, Int.reduceLT, Int.reduceNeg, Int.reduceAdd, Int.reduceToNat, E_sane_eq, E_keepst_eq, E_new_eq, E_made_eq, E_sowes_eq, E_rsowes_eq, E_svalid_eq, E_rsvalid20_eq, E_swaiting_eq, E_rswaiting_eq, E_sroom_eq, E_rsroom_eq, E_snew_eq, E_rsnew20_eq, E_rssame20_eq, rg_eta, sm_eta, ph_eta, rs_eta, smD_eq, smC_eq, gS2, gi2, Tryz.ntmps3, Tryz.results3, gTT]
    exact ⟨fun h2 => ⟨⟨by omega, by have := of_decide_eq_true h2; omega⟩, ⟨by omega, by omega⟩, ⟨by omega, by omega⟩, (wrapN _ (by omega)).symm, by have := of_decide_eq_true h2; omega, by have := of_decide_eq_true h2; omega⟩, fun h2 => ⟨by kernel_rfl, ⟨by omega, by omega⟩, ⟨by omega, by omega⟩, ⟨by omega, by omega⟩, ⟨by omega, by omega⟩, ⟨by omega, by omega⟩, ⟨by omega, by omega⟩, (wrapN _ (by omega)).symm, by omega, by omega⟩⟩
  refine ELoop_keep (fun g => ⟨[(104, vI .i64 (g : Nat))], [], []⟩) (fun g => g ≤ 2) (fun g => 2 - g) (· + 1) 0 (by decide) ?_ ?_
  · simp only [↓gPre, gPost, gCore, gDef, Nat.reduceShiftRight, Nat.reduceMod, if_true, if_false, ↓reduceIte, reduceCtorEq, Nat.reduceEqDiff, Nat.reduceLT, Nat.reduceLeDiff, implies_true, forall_const, eq_self, ne_eq, not_true_eq_false, not_false_eq_true, imp_self, Nat.reduceAdd, Nat.reduceMul, Int.reduceLE, Int.reduceLT, Int.reduceNeg, Int.reduceAdd, Int.reduceToNat, E_sane_eq, E_keepst_eq, E_new_eq, E_made_eq, E_sowes_eq, E_rsowes_eq, E_svalid_eq, E_rsvalid20_eq, E_swaiting_eq, E_rswaiting_eq, E_sroom_eq, E_rsroom_eq, E_snew_eq, E_rsnew20_eq, E_rssame20_eq, rg_eta, sm_eta, ph_eta, rs_eta, smD_eq, smC_eq, gS2, gi2, Tryz.ntmps3, Tryz.results3, gTT]
    rfl
  intro z hz
  simp only [↓gPre, gPost, gCore, gDef, Nat.reduceShiftRight, Nat.reduceMod, if_true, if_false, ↓reduceIte, reduceCtorEq, Nat.reduceEqDiff, Nat.reduceLT, Nat.reduceLeDiff, implies_true, forall_const, eq_self, ne_eq, not_true_eq_false, not_false_eq_true, imp_self, Nat.reduceAdd, Nat.reduceMul, Int.reduceLE, Int.reduceLT, Int.reduceNeg, Int.reduceAdd, Int.reduceToNat, E_sane_eq, E_keepst_eq, E_new_eq, E_made_eq, E_sowes_eq, E_rsowes_eq, E_svalid_eq, E_rsvalid20_eq, E_swaiting_eq, E_rswaiting_eq, E_sroom_eq, E_rsroom_eq, E_snew_eq, E_rsnew20_eq, E_rssame20_eq, rg_eta, sm_eta, ph_eta, rs_eta, smD_eq, smC_eq, gS2, gi2, Tryz.ntmps3, Tryz.results3, gTT]
  have hs : ∀ k : Int, (snR k ch bn bd cap sta).r.l.length = 0 ∧ (snR k ch bn bd cap sta).g.l.length = 0 := fun k => snR_le k ch bn bd cap sta
  exact fun h2 => ⟨⟨by omega, by have := of_decide_eq_true h2; omega⟩, ⟨by rw [(hs _).1]; decide, by rw [(hs _).2]; decide⟩, (wrapN _ (by omega)).symm, by have := of_decide_eq_true h2; omega, by have := of_decide_eq_true h2; omega⟩

theorem spec_owing (u : List UInt8) (w : Int) (hw : 0 ≤ w ∧ w ≤ 255) : Spec Tryz.prog 0 4 [vL (LB u), vI .u8 w] [] [] (vB true) [] [] := by
  refine spec_of_E (X := ⟨Tryz.prog, tt, Tryz.f4.ntmps, 1, fun _ => 0, (tab [(9, E_sane), (12, E_new), (24, E_mstream), (13, E_sowes), (25, E_stake), (26, E_frames)])⟩) (M := [(8, [0, 0, 0, 0, 0, 258772852723, 0, 0, 0, 0, 0, 206159503347, 0, 0]), (9, [0, 0, 0, 0, 0, 37778931854161069760499, 0, 0, 0, 0, 0, 37778931317599395405811, 0, 0, 0, 0, 0, 37778898085959957503987, 0, 0, 0, 0, 0, 37777346595888328368115, 0, 0, 0, 0, 0, 37705144886662324576243, 0, 0, 0, 0, 0, 28407985873512710561779, 0, 0])]) (m := 1073139) rfl rfl ⟨tt_ok, tab_ok (tabs_cons E_sane_ok (tabs_cons E_new_ok (tabs_cons E_mstream_ok (tabs_cons E_sowes_ok (tabs_cons E_stake_ok (tabs_cons E_frames_ok tabs_nil)))))) _ rfl rfl⟩ tt_mixed Tryz.func4 rfl (by decide) (by show (2 : Nat) ≤ _; exact Nat.le_of_ble_eq_true rfl) ⟨fun m hm => (V.bare_has rfl m hm).elim, by simp, by simp⟩ ?_
  simp only [↓gPre, gPost, gCore, gDef, Nat.reduceShiftRight, Nat.reduceMod, if_true, if_false, ↓reduceIte, reduceCtorEq, Nat.reduceEqDiff, Nat.reduceLT, Nat.reduceLeDiff, implies_true, forall_const, eq_self, ne_eq, not_true_eq_false, not_false_eq_true, imp_self, Nat.reduceAdd, Nat.reduceMul, Int.reduceLE, Int.reduceLT, Int.reduceNeg, Int.reduceAdd, Int.reduceToNat, E_sane_eq, E_new_eq, E_mstream_eq, E_sowes_eq, E_stake_eq, E_frames_eq, rg_eta, sm_eta, ph_eta, rs_eta, smD_eq, smC_eq, Tryz.ntmps4, Tryz.results4, gTT]
  refine fun h0 => ?_
  have ok := msX_ok (u.take 300) (di := 1) (.inl rfl)
  have hn := msN_le (u.take 300)
  generalize msX (u.take 300) 1 = x at *
  generalize msN (u.take 300) = n at *
  have hch := ok.ch
  generalize 1 + dN (u.take 300) 2 = ch at *
  have hst : x.st = 3 := by simpa using h0
  have tw : 0 ≤ w.tmod 40 ∧ w.tmod 40 < 40 := by rw [Int.tmod_eq_emod_of_nonneg hw.1]; omega
  rw [IntWalk.i64_in (w.tmod 40) (by omega)]
  generalize w.tmod 40 = i at *
  obtain ⟨a1, a2⟩ := owes_go ok (by omega) hst (i := i) (by omega)
  have b1 := sk_go ok (by omega) (i := i) (by omega)
  obtain ⟨f1, f2, f3⟩ := sk_fl ok (by omega) hst (i := i) (by omega)
  obtain ⟨l1, l2, l3⟩ := skO_len ok (by omega) (i := i) (by omega)
  have hfr := frames_of hch l2 (by omega) l3
  have hnn : ((i.toNat : Nat) : Int) = i := by omega
  have hmb := Nat.mul_le_mul (show i.toNat ≤ 40 by omega) (show ch.toNat ≤ 8 by omega)
  have hpl := ok.pl
  have hmi := ok.mi
  have hb := smB_in ok.b
  have hbb : (owN x i == 0) = (skX x i == 0) := by rw [Bool.eq_iff_iff]; simp [a2]
  refine ⟨by decide, ⟨ok.lr, ok.lg⟩, ⟨ok.lr, ok.lg⟩, fun _ => by omega, ?_⟩
  rw [a1, b1, l1, hfr, hnn, f1, hbb, IntWalk.i64_in (x.mi + _) (by omega), IntWalk.i64_in (x.pl + _) (by omega)]
  simp

theorem spec_writes (di st q s0 c n d a p f : Int) (l : List Int) (gc gq gw gr : Int) (gl : List Int) (wr pl mi : Int) (k : Int) (y : List Int) (u : List UInt8) (i co : Int) : Spec Tryz.prog 0 6 [.agg (smC ⟨di, st, q, s0, ⟨c, ⟨n, d, a, p, f⟩, l⟩, ⟨gc, gq, gw, gr, gl⟩, wr, pl, mi⟩), .agg [.d (.int .i64 k), .d (.list (LI .i32 y))], vL (LB u), vI .i64 i, vI .i64 co] [] [] (vB true) [] [] := by
  refine spec_of_E (X := ⟨Tryz.prog, tt, Tryz.f6.ntmps, 1, fun _ => 0, (tab [(9, E_sane), (10, E_keepst), (31, E_keepb), (12, E_new), (11, E_made), (32, E_next), (28, E_wave), (29, E_swrite), (33, E_rswrite), (34, E_sread), (35, E_rsread), (27, E_sdo), (36, E_rsdo), (23, E_rssame20), (30, E_same)])⟩) (M := [(20, [0, 0, 0, 0, 0, 22835968230066175718907136066792175908472990847, 0, 0, 0, 0, 0, 0]), (21, [0, 0, 0, 0, 0, 22835968230068449725627620481809785806935534719, 0, 0, 0, 0, 0, 0]), (22, [0, 0, 0, 0, 0, 22835968272580684491025576465459583711194360959, 0, 0, 0, 0, 0, 22835968271272225682674799903069898636230896767, 0, 0, 0])]) (m := 22835968230066157813342407843051879767540214911) rfl rfl ⟨tt_ok, tab_ok (tabs_cons E_sane_ok (tabs_cons E_keepst_ok (tabs_cons E_keepb_ok (tabs_cons E_new_ok (tabs_cons E_made_ok (tabs_cons E_next_ok (tabs_cons E_wave_ok (tabs_cons E_swrite_ok (tabs_cons E_rswrite_ok (tabs_cons E_sread_ok (tabs_cons E_rsread_ok (tabs_cons E_sdo_ok (tabs_cons E_rsdo_ok (tabs_cons E_rssame20_ok (tabs_cons E_same_ok tabs_nil))))))))))))))) _ rfl rfl⟩ tt_mixed Tryz.func6 rfl (by decide) (by show (5 : Nat) ≤ _; exact Nat.le_of_ble_eq_true rfl) ⟨fun m hm => (V.bare_has rfl m hm).elim, by simp, by simp⟩ ?_
  simp only [↓gPre, gPost, gCore, gDef, Nat.reduceShiftRight, Nat.reduceMod, if_true, if_false, ↓reduceIte, reduceCtorEq, Nat.reduceEqDiff, Nat.reduceLT, Nat.reduceLeDiff, implies_true, forall_const, eq_self, ne_eq, not_true_eq_false, not_false_eq_true, imp_self, Nat.reduceAdd, Nat.reduceMul, Int.reduceLE, Int.reduceLT, Int.reduceNeg, Int.reduceAdd, Int.reduceToNat, E_sane_eq, E_keepst_eq, E_keepb_eq, E_new_eq, E_made_eq, E_next_eq, E_wave_eq, E_swrite_eq, E_rswrite_eq, E_sread_eq, E_rsread_eq, E_sdo_eq, E_rsdo_eq, E_rssame20_eq, E_same_eq, rg_eta, sm_eta, ph_eta, rs_eta, smD_eq, smC_eq, gS2, gB3, gi2, gi8, Tryz.ntmps6, Tryz.results6, gTT]
  refine fun h0 => ⟨by kernel_rfl, ?_⟩
  have hb : l.length ≤ 300 ∧ gl.length ≤ 300 ∧ y.length ≤ 300 := by
    simp only [Bool.not_eq_false', Bool.or_eq_false_iff, Bool.and_eq_true, decide_eq_true_eq] at h0
    omega
  have hM := msX_ok (dT (List.take 300 u) 2) (di := 1 + dN (List.take 300 u) 2) (by have := dN_lt (List.take 300 u) 2 (by decide); have := dN_ge (List.take 300 u) 2; omega)
  have hM1 := hM.ll
  have hM2 := hM.gl
  have hX : ∀ j : Nat, ((([⟨di, st, q, s0, ⟨c, ⟨n, d, a, p, f⟩, l⟩, ⟨gc, gq, gw, gr, gl⟩, wr, pl, mi⟩, msX (dT (List.take 300 u) 2) (1 + dN (List.take 300 u) 2)] : List Sm)[j]?.getD sm0).r.l.length ≤ 524288 ∧ (([⟨di, st, q, s0, ⟨c, ⟨n, d, a, p, f⟩, l⟩, ⟨gc, gq, gw, gr, gl⟩, wr, pl, mi⟩, msX (dT (List.take 300 u) 2) (1 + dN (List.take 300 u) 2)] : List Sm)[j]?.getD sm0).g.l.length ≤ 524288) := two_of (P := fun x : Sm => x.r.l.length ≤ 524288 ∧ x.g.l.length ≤ 524288) ⟨by show l.length ≤ _; omega, by show gl.length ≤ _; omega⟩ ⟨hM1, hM2⟩ ⟨Nat.zero_le _, Nat.zero_le _⟩
  refine ELoop_keep (fun g => ⟨[(51, vI .i64 (g : Nat))], [(⟨1, 45⟩, [.d (.list (LB (wrQ (List.take 300 u) g)))])], []⟩) (fun g => g ≤ 2) (fun g => 2 - g) (· + 1) 0 (by decide) ?_ ?_
  · simp only [↓gPre, gPost, gCore, gDef, Nat.reduceShiftRight, Nat.reduceMod, if_true, if_false, ↓reduceIte, reduceCtorEq, Nat.reduceEqDiff, Nat.reduceLT, Nat.reduceLeDiff, implies_true, forall_const, eq_self, ne_eq, not_true_eq_false, not_false_eq_true, imp_self, Nat.reduceAdd, Nat.reduceMul, Int.reduceLE, Int.reduceLT, Int.reduceNeg, Int.reduceAdd, Int.reduceToNat, E_sane_eq, E_keepst_eq, E_keepb_eq, E_new_eq, E_made_eq, E_next_eq, E_wave_eq, E_swrite_eq, E_rswrite_eq, E_sread_eq, E_rsread_eq, E_sdo_eq, E_rsdo_eq, E_rssame20_eq, E_same_eq, rg_eta, sm_eta, ph_eta, rs_eta, smD_eq, smC_eq, gS2, gB3, gi2, gi8, Tryz.ntmps6, Tryz.results6, gTT]
    exact ⟨rfl, rfl⟩
  intro g hg
  simp only [↓gPre, gPost, gCore, gDef, Nat.reduceShiftRight, Nat.reduceMod, if_true, if_false, ↓reduceIte, reduceCtorEq, Nat.reduceEqDiff, Nat.reduceLT, Nat.reduceLeDiff, implies_true, forall_const, eq_self, ne_eq, not_true_eq_false, not_false_eq_true, imp_self, Nat.reduceAdd, Nat.reduceMul, Int.reduceLE, Int.reduceLT, Int.reduceNeg, Int.reduceAdd, Int.reduceToNat, E_sane_eq, E_keepst_eq, E_keepb_eq, E_new_eq, E_made_eq, E_next_eq, E_wave_eq, E_swrite_eq, E_rswrite_eq, E_sread_eq, E_rsread_eq, E_sdo_eq, E_rsdo_eq, E_rssame20_eq, E_same_eq, rg_eta, sm_eta, ph_eta, rs_eta, smD_eq, smC_eq, gS2, gB3, gi2, gi8, Tryz.ntmps6, Tryz.results6, gTT]
  have hXg := hX g
  generalize ([⟨di, st, q, s0, ⟨c, ⟨n, d, a, p, f⟩, l⟩, ⟨gc, gq, gw, gr, gl⟩, wr, pl, mi⟩, msX (dT (List.take 300 u) 2) (1 + dN (List.take 300 u) 2)] : List Sm)[g]?.getD sm0 = X at *
  have m1 := dN_lt (wrQ (List.take 300 u) g) 30 (by decide)
  have m2 := dN_ge (wrQ (List.take 300 u) g) 30
  have hY : ∀ j : Nat, (([(k, y), (1, waO 1 1 0 (dN (wrQ (List.take 300 u) g) 30).toNat), (2, [])] : List (Int × List Int))[j]?.getD (0, [])).2.length ≤ 1000 := three_of (P := fun x : Int × List Int => x.2.length ≤ 1000) (by show y.length ≤ _; omega) (by show (waO 1 1 0 _).length ≤ _; rw [waO_len]; show _ * 1 ≤ _; omega) (Nat.zero_le _) (Nat.zero_le _)
  refine fun h1 => ⟨⟨by omega, by have := of_decide_eq_true h1; omega⟩, by kernel_rfl, ⟨m2, by omega⟩, ?_⟩
  have hg2 : g + 1 ≤ 2 := by have := of_decide_eq_true h1; omega
  refine ELoop_keep (fun g => ⟨[(62, vI .i64 (g : Nat))], [], []⟩) (fun g => g ≤ 3) (fun g => 3 - g) (· + 1) 0 (by decide) ?_ ?_
  · simp only [↓gPre, gPost, gCore, gDef, Nat.reduceShiftRight, Nat.reduceMod, if_true, if_false, ↓reduceIte, reduceCtorEq, Nat.reduceEqDiff, Nat.reduceLT, Nat.reduceLeDiff, implies_true, forall_const, eq_self, ne_eq, not_true_eq_false, not_false_eq_true, imp_self, Nat.reduceAdd, Nat.reduceMul, Int.reduceLE, Int.reduceLT, Int.reduceNeg, Int.reduceAdd, Int.reduceToNat, E_sane_eq, E_keepst_eq, E_keepb_eq, E_new_eq, E_made_eq, E_next_eq, E_wave_eq, E_swrite_eq, E_rswrite_eq, E_sread_eq, E_rsread_eq, E_sdo_eq, E_rsdo_eq, E_rssame20_eq, E_same_eq, rg_eta, sm_eta, ph_eta, rs_eta, smD_eq, smC_eq, gS2, gB3, gi2, gi8, Tryz.ntmps6, Tryz.results6, gTT]
    rfl
  intro j hj
  simp only [↓gPre, gPost, gCore, gDef, Nat.reduceShiftRight, Nat.reduceMod, if_true, if_false, ↓reduceIte, reduceCtorEq, Nat.reduceEqDiff, Nat.reduceLT, Nat.reduceLeDiff, implies_true, forall_const, eq_self, ne_eq, not_true_eq_false, not_false_eq_true, imp_self, Nat.reduceAdd, Nat.reduceMul, Int.reduceLE, Int.reduceLT, Int.reduceNeg, Int.reduceAdd, Int.reduceToNat, E_sane_eq, E_keepst_eq, E_keepb_eq, E_new_eq, E_made_eq, E_next_eq, E_wave_eq, E_swrite_eq, E_rswrite_eq, E_sread_eq, E_rsread_eq, E_sdo_eq, E_rsdo_eq, E_rssame20_eq, E_same_eq, rg_eta, sm_eta, ph_eta, rs_eta, smD_eq, smC_eq, gS2, gB3, gi2, gi8, Tryz.ntmps6, Tryz.results6, gTT]
  have hYj := hY j
  generalize ([(k, y), (1, waO 1 1 0 (dN (wrQ (List.take 300 u) g) 30).toNat), (2, [])] : List (Int × List Int))[j]?.getD (0, []) = Y at *
  have hsw := swR_le X Y.1 Y.2
  refine ⟨fun h2 => ⟨⟨by omega, by have := of_decide_eq_true h2; omega⟩, ⟨by omega, by omega, by omega⟩, ⟨by omega, by omega, by omega⟩, ⟨by omega, by omega⟩, (wrapN _ (by omega)).symm, by have := of_decide_eq_true h2; omega, by have := of_decide_eq_true h2; omega⟩, fun h2 => ⟨by decide, ?_⟩⟩
  clear hsw hYj hY
  refine ELoop_keep (fun g => ⟨[(93, vI .i64 (g : Nat))], [], []⟩) (fun g => g ≤ 2) (fun g => 2 - g) (· + 1) 0 (by decide) ?_ ?_
  · simp only [↓gPre, gPost, gCore, gDef, Nat.reduceShiftRight, Nat.reduceMod, if_true, if_false, ↓reduceIte, reduceCtorEq, Nat.reduceEqDiff, Nat.reduceLT, Nat.reduceLeDiff, implies_true, forall_const, eq_self, ne_eq, not_true_eq_false, not_false_eq_true, imp_self, Nat.reduceAdd, Nat.reduceMul, Int.reduceLE, Int.reduceLT, Int.reduceNeg, Int.reduceAdd, Int.reduceToNat, E_sane_eq, E_keepst_eq, E_keepb_eq, E_new_eq, E_made_eq, E_next_eq, E_wave_eq, E_swrite_eq, E_rswrite_eq, E_sread_eq, E_rsread_eq, E_sdo_eq, E_rsdo_eq, E_rssame20_eq, E_same_eq, rg_eta, sm_eta, ph_eta, rs_eta, smD_eq, smC_eq, gS2, gB3, gi2, gi8, Tryz.ntmps6, Tryz.results6, gTT]
    rfl
  intro z hz
  simp only [↓gPre, gPost, gCore, gDef, Nat.reduceShiftRight, Nat.reduceMod, if_true, if_false, ↓reduceIte, reduceCtorEq, Nat.reduceEqDiff, Nat.reduceLT, Nat.reduceLeDiff, implies_true, forall_const, eq_self, ne_eq, not_true_eq_false, not_false_eq_true, imp_self, Nat.reduceAdd, Nat.reduceMul, Int.reduceLE, Int.reduceLT, Int.reduceNeg, Int.reduceAdd, Int.reduceToNat, E_sane_eq, E_keepst_eq, E_keepb_eq, E_new_eq, E_made_eq, E_next_eq, E_wave_eq, E_swrite_eq, E_rswrite_eq, E_sread_eq, E_rsread_eq, E_sdo_eq, E_rsdo_eq, E_rssame20_eq, E_same_eq, rg_eta, sm_eta, ph_eta, rs_eta, smD_eq, smC_eq, gS2, gB3, gi2, gi8, Tryz.ntmps6, Tryz.results6, gTT]
  generalize ([i, i.tmod 40] : List Int)[z]?.getD 0 = K at *
  have hsr := srR_le X K
  have hso := srO_le (x := X) (i := K) (by omega)
  refine ⟨fun h2 => ⟨⟨by omega, by have := of_decide_eq_true h2; omega⟩, ⟨by omega, by omega⟩, ⟨by omega, by omega⟩, ⟨by omega, by omega⟩, by omega, (wrapN _ (by omega)).symm, by have := of_decide_eq_true h2; omega, by have := of_decide_eq_true h2; omega⟩, fun h2 => ?_⟩
  clear hsr hso
  refine ELoop_keep (fun g => ⟨[(130, vI .i64 (g : Nat))], [], []⟩) (fun g => g ≤ 8) (fun g => 8 - g) (· + 1) 0 (by decide) ?_ ?_
  · simp only [↓gPre, gPost, gCore, gDef, Nat.reduceShiftRight, Nat.reduceMod, if_true, if_false, ↓reduceIte, reduceCtorEq, Nat.reduceEqDiff, Nat.reduceLT, Nat.reduceLeDiff, implies_true, forall_const, eq_self, ne_eq, not_true_eq_false, not_false_eq_true, imp_self, Nat.reduceAdd, Nat.reduceMul, Int.reduceLE, Int.reduceLT, Int.reduceNeg, Int.reduceAdd, Int.reduceToNat, E_sane_eq, E_keepst_eq, E_keepb_eq, E_new_eq, E_made_eq, E_next_eq, E_wave_eq, E_swrite_eq, E_rswrite_eq, E_sread_eq, E_rsread_eq, E_sdo_eq, E_rsdo_eq, E_rssame20_eq, E_same_eq, rg_eta, sm_eta, ph_eta, rs_eta, smD_eq, smC_eq, gS2, gB3, gi2, gi8, Tryz.ntmps6, Tryz.results6, gTT]
    rfl
  intro v hv
  simp only [↓gPre, gPost, gCore, gDef, Nat.reduceShiftRight, Nat.reduceMod, if_true, if_false, ↓reduceIte, reduceCtorEq, Nat.reduceEqDiff, Nat.reduceLT, Nat.reduceLeDiff, implies_true, forall_const, eq_self, ne_eq, not_true_eq_false, not_false_eq_true, imp_self, Nat.reduceAdd, Nat.reduceMul, Int.reduceLE, Int.reduceLT, Int.reduceNeg, Int.reduceAdd, Int.reduceToNat, E_sane_eq, E_keepst_eq, E_keepb_eq, E_new_eq, E_made_eq, E_next_eq, E_wave_eq, E_swrite_eq, E_rswrite_eq, E_sread_eq, E_rsread_eq, E_sdo_eq, E_rsdo_eq, E_rssame20_eq, E_same_eq, rg_eta, sm_eta, ph_eta, rs_eta, smD_eq, smC_eq, gS2, gB3, gi2, gi8, Tryz.ntmps6, Tryz.results6, gTT]
  generalize ([co, 1, 2, 3, 4, 5, 6, 7] : List Int)[v]?.getD 0 = D1 at *
  have hdo := doR_le X D1
  exact ⟨fun h2 => ⟨⟨by omega, by have := of_decide_eq_true h2; omega⟩, ⟨by omega, by omega⟩, ⟨by omega, by omega⟩, ⟨by omega, by omega⟩, (wrapN _ (by omega)).symm, by have := of_decide_eq_true h2; omega, by have := of_decide_eq_true h2; omega⟩, fun h2 => ⟨⟨(wrapN _ (by omega)).symm, rfl⟩, by omega, by omega⟩⟩

theorem spec_moves (di st q s0 c n d a p f : Int) (l : List Int) (gc gq gw gr : Int) (gl : List Int) (wr pl mi : Int) (k : Int) (y : List Int) (u : List UInt8) (i : Int) : Spec Tryz.prog 0 7 [.agg (smC ⟨di, st, q, s0, ⟨c, ⟨n, d, a, p, f⟩, l⟩, ⟨gc, gq, gw, gr, gl⟩, wr, pl, mi⟩), .agg [.d (.int .i64 k), .d (.list (LI .i32 y))], vL (LB u), vI .i64 i] [] [] (vB true) [] [] := by
  refine spec_of_E (X := ⟨Tryz.prog, tt, Tryz.f7.ntmps, 1, fun _ => 0, (tab [(9, E_sane), (10, E_keepst), (31, E_keepb), (12, E_new), (11, E_made), (32, E_next), (28, E_wave), (38, E_light), (25, E_stake), (37, E_rstake), (39, E_sgive), (40, E_rsgive), (23, E_rssame20), (30, E_same)])⟩) (M := [(3, [0, 0, 0, 0, 0, 178405961900472398570899837523981347923684159, 0, 0, 0, 0, 0, 178405961900472398570899837523973754421504831, 0, 0, 0, 0]), (12, [0, 0, 0, 0, 0, 178405961900472398571184360104433609638669119, 0, 0, 0, 0, 0, 178405961900472398571126511115018456484801343, 0, 0]), (13, [0, 0, 0, 0, 0, 178405961900472398643737618155622121290591039, 0, 0, 0, 0, 0, 178405961900472398628928276865342913900440383, 0, 0]), (14, [0, 0, 0, 0, 0, 178405961900512962771137121221998470567553855, 0, 0, 0, 0, 0, 178405961900512824740822740902097819315202879, 0, 0, 0, 0, 0, 178405961900504089835905543258878131094678335, 0, 0]), (23, [0, 0, 0, 0, 0, 356637698916853863209892335906022540238121791, 0, 0, 0, 0, 0, 317785619391288793205498076727892972926921535, 0, 0])]) (m := 178405961900472398570899837523840713514543935) rfl rfl ⟨tt_ok, tab_ok (tabs_cons E_sane_ok (tabs_cons E_keepst_ok (tabs_cons E_keepb_ok (tabs_cons E_new_ok (tabs_cons E_made_ok (tabs_cons E_next_ok (tabs_cons E_wave_ok (tabs_cons E_light_ok (tabs_cons E_stake_ok (tabs_cons E_rstake_ok (tabs_cons E_sgive_ok (tabs_cons E_rsgive_ok (tabs_cons E_rssame20_ok (tabs_cons E_same_ok tabs_nil)))))))))))))) _ rfl rfl⟩ tt_mixed Tryz.func7 rfl (by decide) (by show (4 : Nat) ≤ _; exact Nat.le_of_ble_eq_true rfl) ⟨fun m hm => (V.bare_has rfl m hm).elim, by simp, by simp⟩ ?_
  simp only [↓gPre, gPost, gCore, gDef, Nat.reduceShiftRight, Nat.reduceMod, if_true, if_false, ↓reduceIte, reduceCtorEq, Nat.reduceEqDiff, Nat.reduceLT, Nat.reduceLeDiff, implies_true, forall_const, eq_self, ne_eq, not_true_eq_false, not_false_eq_true, imp_self, Nat.reduceAdd, Nat.reduceMul, Int.reduceLE, Int.reduceLT, Int.reduceNeg, Int.reduceAdd, Int.reduceToNat, E_sane_eq, E_keepst_eq, E_keepb_eq, E_new_eq, E_made_eq, E_next_eq, E_wave_eq, E_light_eq, E_stake_eq, E_rstake_eq, E_sgive_eq, E_rsgive_eq, E_rssame20_eq, E_same_eq, rg_eta, sm_eta, ph_eta, rs_eta, smD_eq, smC_eq, gS2, gB2, gi2, Tryz.ntmps7, Tryz.results7, gTT]
  refine ⟨fun a b => by rw [a, b]; rfl, fun h0 => ⟨by kernel_rfl, ?_⟩⟩
  have hb : l.length ≤ 300 ∧ gl.length ≤ 300 ∧ y.length ≤ 100 := by
    simp only [Bool.not_eq_false', Bool.or_eq_false_iff, Bool.and_eq_true, decide_eq_true_eq] at h0
    omega
  have hM := msX_ok (dT (List.take 300 u) 2) (di := 1 + dN (List.take 300 u) 2) (by have := dN_lt (List.take 300 u) 2 (by decide); have := dN_ge (List.take 300 u) 2; omega)
  have hM1 := hM.ll
  have hM2 := hM.gl
  have hX : ∀ j : Nat, ((([⟨di, st, q, s0, ⟨c, ⟨n, d, a, p, f⟩, l⟩, ⟨gc, gq, gw, gr, gl⟩, wr, pl, mi⟩, msX (dT (List.take 300 u) 2) (1 + dN (List.take 300 u) 2)] : List Sm)[j]?.getD sm0).r.l.length ≤ 524288 ∧ (([⟨di, st, q, s0, ⟨c, ⟨n, d, a, p, f⟩, l⟩, ⟨gc, gq, gw, gr, gl⟩, wr, pl, mi⟩, msX (dT (List.take 300 u) 2) (1 + dN (List.take 300 u) 2)] : List Sm)[j]?.getD sm0).g.l.length ≤ 524288) := two_of (P := fun x : Sm => x.r.l.length ≤ 524288 ∧ x.g.l.length ≤ 524288) ⟨by show l.length ≤ _; omega, by show gl.length ≤ _; omega⟩ ⟨hM1, hM2⟩ ⟨Nat.zero_le _, Nat.zero_le _⟩
  refine ELoop_keep (fun g : Nat × List UInt8 => ⟨[(55, vI .i64 (g.1 : Nat))], [(⟨1, 49⟩, [.d (.list (LB g.2))])], []⟩) (fun g => g.1 ≤ 2) (fun g => 2 - g.1) (fun g => (g.1 + 1, if lightB (([⟨di, st, q, s0, ⟨c, ⟨n, d, a, p, f⟩, l⟩, ⟨gc, gq, gw, gr, gl⟩, wr, pl, mi⟩, msX (dT (List.take 300 u) 2) (1 + dN (List.take 300 u) 2)] : List Sm)[g.1]?.getD sm0) = true then dT g.2 20 else g.2)) (0, msR (dT (List.take 300 u) 2)) (Nat.zero_le _) ?_ ?_
  · simp only [↓gPre, gPost, gCore, gDef, Nat.reduceShiftRight, Nat.reduceMod, if_true, if_false, ↓reduceIte, reduceCtorEq, Nat.reduceEqDiff, Nat.reduceLT, Nat.reduceLeDiff, implies_true, forall_const, eq_self, ne_eq, not_true_eq_false, not_false_eq_true, imp_self, Nat.reduceAdd, Nat.reduceMul, Int.reduceLE, Int.reduceLT, Int.reduceNeg, Int.reduceAdd, Int.reduceToNat, E_sane_eq, E_keepst_eq, E_keepb_eq, E_new_eq, E_made_eq, E_next_eq, E_wave_eq, E_light_eq, E_stake_eq, E_rstake_eq, E_sgive_eq, E_rsgive_eq, E_rssame20_eq, E_same_eq, rg_eta, sm_eta, ph_eta, rs_eta, smD_eq, smC_eq, gS2, gB2, gi2, Tryz.ntmps7, Tryz.results7, gTT]
    rfl
  rintro ⟨g, Q⟩ hg
  simp only [↓gPre, gPost, gCore, gDef, Nat.reduceShiftRight, Nat.reduceMod, if_true, if_false, ↓reduceIte, reduceCtorEq, Nat.reduceEqDiff, Nat.reduceLT, Nat.reduceLeDiff, implies_true, forall_const, eq_self, ne_eq, not_true_eq_false, not_false_eq_true, imp_self, Nat.reduceAdd, Nat.reduceMul, Int.reduceLE, Int.reduceLT, Int.reduceNeg, Int.reduceAdd, Int.reduceToNat, E_sane_eq, E_keepst_eq, E_keepb_eq, E_new_eq, E_made_eq, E_next_eq, E_wave_eq, E_light_eq, E_stake_eq, E_rstake_eq, E_sgive_eq, E_rsgive_eq, E_rssame20_eq, E_same_eq, rg_eta, sm_eta, ph_eta, rs_eta, smD_eq, smC_eq, gS2, gB2, gi2, Tryz.ntmps7, Tryz.results7, gTT]
  replace hg : g ≤ 2 := hg
  have hXg := hX g
  generalize ([⟨di, st, q, s0, ⟨c, ⟨n, d, a, p, f⟩, l⟩, ⟨gc, gq, gw, gr, gl⟩, wr, pl, mi⟩, msX (dT (List.take 300 u) 2) (1 + dN (List.take 300 u) 2)] : List Sm)[g]?.getD sm0 = X at *
  have m1 := dN_lt Q 20 (by decide)
  have m2 := dN_ge Q 20
  refine fun h1 => ⟨⟨by omega, by have := of_decide_eq_true h1; omega⟩, by decide, by decide, ?_⟩
  have hg2 : g + 1 ≤ 2 := by have := of_decide_eq_true h1; omega
  refine ELoop_keep (fun g => ⟨[(66, vI .i64 (g : Nat))], [], []⟩) (fun g => g ≤ 2) (fun g => 2 - g) (· + 1) 0 (by decide) ?_ ?_
  · simp only [↓gPre, gPost, gCore, gDef, Nat.reduceShiftRight, Nat.reduceMod, if_true, if_false, ↓reduceIte, reduceCtorEq, Nat.reduceEqDiff, Nat.reduceLT, Nat.reduceLeDiff, implies_true, forall_const, eq_self, ne_eq, not_true_eq_false, not_false_eq_true, imp_self, Nat.reduceAdd, Nat.reduceMul, Int.reduceLE, Int.reduceLT, Int.reduceNeg, Int.reduceAdd, Int.reduceToNat, E_sane_eq, E_keepst_eq, E_keepb_eq, E_new_eq, E_made_eq, E_next_eq, E_wave_eq, E_light_eq, E_stake_eq, E_rstake_eq, E_sgive_eq, E_rsgive_eq, E_rssame20_eq, E_same_eq, rg_eta, sm_eta, ph_eta, rs_eta, smD_eq, smC_eq, gS2, gB2, gi2, Tryz.ntmps7, Tryz.results7, gTT]
    rfl
  intro j hj
  simp only [↓gPre, gPost, gCore, gDef, Nat.reduceShiftRight, Nat.reduceMod, if_true, if_false, ↓reduceIte, reduceCtorEq, Nat.reduceEqDiff, Nat.reduceLT, Nat.reduceLeDiff, implies_true, forall_const, eq_self, ne_eq, not_true_eq_false, not_false_eq_true, imp_self, Nat.reduceAdd, Nat.reduceMul, Int.reduceLE, Int.reduceLT, Int.reduceNeg, Int.reduceAdd, Int.reduceToNat, E_sane_eq, E_keepst_eq, E_keepb_eq, E_new_eq, E_made_eq, E_next_eq, E_wave_eq, E_light_eq, E_stake_eq, E_rstake_eq, E_sgive_eq, E_rsgive_eq, E_rssame20_eq, E_same_eq, rg_eta, sm_eta, ph_eta, rs_eta, smD_eq, smC_eq, gS2, gB2, gi2, Tryz.ntmps7, Tryz.results7, gTT]
  generalize ([i, (IntKind.i64.wrap (i.tmod 50 + 50)).tmod 50] : List Int)[j]?.getD 0 = K at *
  have hsk := skR_le X K
  have hso := skO_le (x := X) (i := K) (by omega)
  refine ⟨fun h2 => ⟨⟨by omega, by have := of_decide_eq_true h2; omega⟩, ⟨by omega, by omega⟩, ⟨by omega, by omega⟩, ⟨by omega, by omega⟩, by omega, (wrapN _ (by omega)).symm, by have := of_decide_eq_true h2; omega, by have := of_decide_eq_true h2; omega⟩, fun h2 => ⟨fun h3 => ⟨⟨(wrapN _ (by omega)).symm, if_neg (by rw [show lightB X = false from h3]; decide)⟩, by omega, by omega⟩, fun h3 => ⟨by kernel_rfl, ⟨m2, by omega⟩, ?_⟩⟩⟩
  have hlt : lightB X = true := by
    rw [Bool.not_eq_false'] at h3
    exact h3
  have hY : ∀ j : Nat, (([(k, y), (1, waO 2 1 0 (dN Q 20).toNat)] : List (Int × List Int))[j]?.getD (0, [])).2.length ≤ 1000 := two_of (P := fun x : Int × List Int => x.2.length ≤ 1000) (by show y.length ≤ _; omega) (by show (waO 2 1 0 _).length ≤ _; rw [waO_len]; show _ * 1 ≤ _; omega) (Nat.zero_le _)
  clear hsk hso
  refine ELoop_keep (fun g => ⟨[(116, vI .i64 (g : Nat))], [], []⟩) (fun g => g ≤ 2) (fun g => 2 - g) (· + 1) 0 (by decide) ?_ ?_
  · simp only [↓gPre, gPost, gCore, gDef, Nat.reduceShiftRight, Nat.reduceMod, if_true, if_false, ↓reduceIte, reduceCtorEq, Nat.reduceEqDiff, Nat.reduceLT, Nat.reduceLeDiff, implies_true, forall_const, eq_self, ne_eq, not_true_eq_false, not_false_eq_true, imp_self, Nat.reduceAdd, Nat.reduceMul, Int.reduceLE, Int.reduceLT, Int.reduceNeg, Int.reduceAdd, Int.reduceToNat, E_sane_eq, E_keepst_eq, E_keepb_eq, E_new_eq, E_made_eq, E_next_eq, E_wave_eq, E_light_eq, E_stake_eq, E_rstake_eq, E_sgive_eq, E_rsgive_eq, E_rssame20_eq, E_same_eq, rg_eta, sm_eta, ph_eta, rs_eta, smD_eq, smC_eq, gS2, gB2, gi2, Tryz.ntmps7, Tryz.results7, gTT]
    rfl
  intro z hz
  simp only [↓gPre, gPost, gCore, gDef, Nat.reduceShiftRight, Nat.reduceMod, if_true, if_false, ↓reduceIte, reduceCtorEq, Nat.reduceEqDiff, Nat.reduceLT, Nat.reduceLeDiff, implies_true, forall_const, eq_self, ne_eq, not_true_eq_false, not_false_eq_true, imp_self, Nat.reduceAdd, Nat.reduceMul, Int.reduceLE, Int.reduceLT, Int.reduceNeg, Int.reduceAdd, Int.reduceToNat, E_sane_eq, E_keepst_eq, E_keepb_eq, E_new_eq, E_made_eq, E_next_eq, E_wave_eq, E_light_eq, E_stake_eq, E_rstake_eq, E_sgive_eq, E_rsgive_eq, E_rssame20_eq, E_same_eq, rg_eta, sm_eta, ph_eta, rs_eta, smD_eq, smC_eq, gS2, gB2, gi2, Tryz.ntmps7, Tryz.results7, gTT]
  have hYz := hY z
  generalize ([(k, y), (1, waO 2 1 0 (dN Q 20).toNat)] : List (Int × List Int))[z]?.getD (0, []) = Y at *
  have hgv := gvR_le (x := X) (k := Y.1) (y := Y.2) (by omega) (by omega)
  exact ⟨fun h5 => ⟨⟨by omega, by have := of_decide_eq_true h5; omega⟩, ⟨by omega, by omega, by omega⟩, ⟨by omega, by omega, by omega⟩, ⟨by omega, by omega⟩, (wrapN _ (by omega)).symm, by have := of_decide_eq_true h5; omega, by have := of_decide_eq_true h5; omega⟩, fun h5 => ⟨⟨(wrapN _ (by omega)).symm, if_pos hlt⟩, by omega, by omega⟩⟩

end Go.Vam
