/- The laws StreamRewinds, StreamEnds give true. Conditions: none. -/
import Derived.Test.YtdhhjfnmocimmaaGreatStS
set_option linter.unusedVariables false
set_option linter.defProp false
set_option linter.unusedSimpArgs false
set_option maxRecDepth 40000
set_option maxHeartbeats 4000000
namespace Go.Vam
open Go.Proofs

theorem swE_all {x : Sm} {ch : Int} {n : Nat} (h : okS x 1 ch n) (hs : x.st ≤ 4) {y : List Int} (hb : blkV ch y = true) : swE x ch y = if smO x < swN ch y then 10 else 0 := by
  unfold swE
  rw [if_neg (by rw [h.P, hb]; decide), if_neg (by rw [h.c]; simp), if_neg (by omega)]
theorem swN_of {ch : Int} (hc : 1 ≤ ch ∧ ch ≤ 8) {y : List Int} {n : Nat} (hy : y.length = n * ch.toNat) : swN ch y = n := by
  unfold swN
  rw [hy, Nat.mul_div_cancel _ (by omega)]
theorem sw_fl {x : Sm} {ch : Int} {n : Nat} {y : List Int} (h : okS x 1 ch n) (hn : n ≤ 1000) (hy : y.length ≤ 1000000) (he : swE x ch y = 0) :
    swR x ch y = ⟨x.di, if x.st = 1 ∧ 0 < swN ch y then 2 else x.st, x.q, x.s0, feR x.r ch y, x.g, x.wr + swN ch y, x.pl, x.mi⟩ ∧ waN (feR x.r ch y) = waN x.r + swN ch y ∧ feR x.r ch y = { x.r with l := x.r.l ++ y } ∧ swN ch y ≤ x.q - waN x.r := by
  obtain ⟨a1, a2, a3, a4, a5, a6⟩ := swE_fe h.lr hy he
  have hb := smB_in h.b
  have hs := swN_in a2 hy
  obtain ⟨f1, f2, f3⟩ := feR_ok a6 h.lr hy
  have h1 := h.wr
  have hO : smO x = x.q - smN x := if_neg (by rw [h.v]; decide)
  have hN := h.N
  refine ⟨?_, ?_, f1, by omega⟩
  · unfold swR
    rw [if_pos he, IntWalk.i64_in (x.wr + swN ch y) (by omega)]
  · rw [(waN_V f2 (by omega)).1, (waN_V hb.2.2.2.1 h.lr).1, f1]
    obtain ⟨⟨k1, k2⟩, k3, k4, k5⟩ := blk_in (rsV_in hb.2.2.2.1).2 h.lr
    obtain ⟨_, m3, m4, m5⟩ := blk_in a2 hy
    rw [a3] at m3 m4
    have hdv : (x.r.l ++ y).length / x.r.c.toNat = x.r.l.length / x.r.c.toNat + y.length / x.r.c.toNat := by
      have : (x.r.l ++ y).length = (x.r.l.length / x.r.c.toNat + y.length / x.r.c.toNat) * x.r.c.toNat := by rw [List.length_append, Nat.add_mul]; omega
      rw [this, Nat.mul_div_cancel _ (by omega)]
    show (((x.r.l ++ y).length / x.r.c.toNat : Nat) : Int) = _
    rw [hdv, a3]
    unfold swN
    omega

def set2 (x : Sm) : Sm := ⟨x.di, 3, x.q, 0, x.r, x.g, x.wr, x.pl, x.mi⟩
theorem set2_ok {x : Sm} {di ch : Int} {n : Nat} (h : okS x di ch n) : okS (set2 x) di ch n := by
  have hb := smB_in h.b
  have hB : smB (set2 x) = true := smB_mk ⟨by show (1 : Int) ≤ 3; decide, by show (3 : Int) ≤ 7; decide⟩ hb.2.1 ⟨by show (0 : Int) ≤ 0; decide, by show (0 : Int) ≤ x.q; omega⟩ hb.2.2.2.1 hb.2.2.2.2.1 hb.2.2.2.2.2.1 hb.2.2.2.2.2.2.1 hb.2.2.2.2.2.2.2
  refine ⟨?_, h.d, h.c, h.ll, h.gl, h.wr, h.pl, h.mi, h.pp⟩
  rcases (smV_in h.v).2 with hg | hg
  · exact smV_1 hB hg.1 hg.2.1 hg.2.2
  · exact smV_2 hB hg.1 hg.2.1 hg.2.2.1 hg.2.2.2
theorem emp_r {x : Sm} {di ch : Int} {n : Nat} (h : okS x di ch n) : (smE x).r = ⟨ch, ⟨x.r.p.n, x.r.p.d, 0, 0, 0⟩, []⟩ ∧ phV ⟨x.r.p.n, x.r.p.d, 0, 0, 0⟩ = true := by
  have hb := smB_in h.b
  obtain ⟨e1, e2⟩ := nw_ok hb.2.2.2.1 h.lr
  refine ⟨?_, (rsV_in e2).1⟩
  show nwR x.r.c x.r.p.n x.r.p.d = _
  rw [e1, h.c]
theorem sk_same {x y : Sm} {ch : Int} {k k' : Nat} (hx : okS x 1 ch k) (hy : okS y 1 ch k') (hk : k ≤ 900) (hk' : k' ≤ 900) (hr : x.r = y.r) (hs : x.st = y.st) {i : Int} (hi : 0 ≤ i ∧ i ≤ 65536) :
    skE x i = 0 ∧ skE y i = 0 ∧ skC x i = skC y i ∧ skO x i = skO y i ∧ skX x i = skX y i := by
  have e1 := sk_go hx hk hi
  have e2 := sk_go hy hk' hi
  have eK : skK x i = skK y i := by unfold skK; rw [hr]
  have eM : skM x i = skM y i := by unfold skM; rw [hr, hs, eK]
  refine ⟨e1, e2, ?_, ?_, ?_⟩
  · unfold skC
    rw [if_pos e1, if_pos e2, hr]
  · unfold skO
    rw [if_pos e1, if_pos e2, eM, hr]
  · unfold skX
    simp only [e1, e2, hs, eK]
theorem do7 {x : Sm} {ch : Int} {n : Nat} (h : okS x 1 ch n) : (x.st ≤ 4 → doE x 7 = 0 ∧ doR x 7 = smE (setS x (if x.st = 2 then 1 else x.st))) ∧ (¬ x.st ≤ 4 → doE x 7 = 9) := by
  have ha : doA x 7 = decide (x.st ≤ 4) := rfl
  refine ⟨fun h4 => ?_, fun h4 => do9 h.v (by decide : (1 : Int) ≤ 7 ∧ (7 : Int) ≤ 7) (by rw [ha]; exact decide_eq_false h4)⟩
  have e := do0 h.v (by decide : (1 : Int) ≤ 7 ∧ (7 : Int) ≤ 7) (by rw [ha]; exact decide_eq_true h4) (fun hh => absurd hh.1 (by decide))
  refine ⟨e, ?_⟩
  unfold doR
  rw [if_pos e]
  simp [doT]
theorem do56 {x : Sm} {di ch c : Int} {n : Nat} (h : okS x di ch n) (hc : c = 5 ∨ c = 6) : doE x c = 9 ∨ (doE x c = 0 ∧ doR x c = smE (setS x (c + 1))) := by
  have hk : 1 ≤ c ∧ c ≤ 7 := by omega
  cases ha : doA x c with
  | false => exact .inl (do9 h.v hk ha)
  | true =>
    have e := do0 h.v hk ha (fun hh => by omega)
    refine .inr ⟨e, ?_⟩
    unfold doR
    rw [if_pos e, if_pos (by omega)]
    congr 2
    unfold doT
    rcases hc with rfl | rfl <;> rfl
theorem do_end {x : Sm} {di ch : Int} {n : Nat} (h : okS x di ch n) (hs : x.st = 6 ∨ x.st = 7) (k : Int) : (doE x k = 0 ∧ (doR x k).st = 7) ∨ (doE x k ≠ 0 ∧ (doR x k).st = 0) := by
  by_cases e : doE x k = 0
  · obtain ⟨h1, h2, h3⟩ := doE_ok e
    refine .inl ⟨e, ?_⟩
    have hk : k = 1 ∨ k = 2 ∨ k = 3 ∨ k = 4 ∨ k = 5 ∨ k = 6 ∨ k = 7 := by omega
    have hk6 : k = 6 := by
      rcases hk with rfl | rfl | rfl | rfl | rfl | rfl | rfl
      · exfalso; simp [doA] at h3; omega
      · exfalso; simp [doA] at h3; omega
      · exfalso; simp [doA] at h3; omega
      · exfalso; simp [doA] at h3; omega
      · exfalso; simp [doA] at h3; omega
      · rfl
      · exfalso; simp [doA] at h3; omega
    subst hk6
    unfold doR
    rw [if_pos e, if_pos (by decide)]
    rfl
  · refine .inr ⟨e, ?_⟩
    unfold doR
    rw [if_neg e]
    rfl
theorem end_give {x : Sm} {ch : Int} {n : Nat} (h : okS x 2 ch n) (hs : x.st = 6 ∨ x.st = 7) {y : List Int} (hb : blkV ch y = true) : gvE x ch y = 0 ∧ gvL x ch y = 0 ∧ gvR x ch y = x := by
  have h3 : x.st ≠ 3 := by omega
  have e : gvE x ch y = 0 := by
    unfold gvE
    rw [if_neg (by rw [h.R, hb]; decide), if_neg (by rw [h.c]; simp), if_pos h3]
  refine ⟨e, ?_, ?_⟩
  · unfold gvL
    rw [if_neg (fun hh => h3 hh.2)]
  · unfold gvR
    rw [if_pos e, if_neg h3]
theorem end_take {x : Sm} {ch : Int} {n : Nat} (h : okS x 1 ch n) (hn : n ≤ 900) (hs : x.st = 6 ∨ x.st = 7) {i : Int} (hi : 0 ≤ i ∧ i ≤ 65536) : skE x i = 0 ∧ skX x i = 0 ∧ skR x i = x ∧ skC x i = ch ∧ skO x i = List.replicate (i.toNat * ch.toNat) 0 := by
  have e := sk_go h hn hi
  have hs3 : ¬ x.st = 3 := by omega
  have hs5 : ¬ x.st = 5 := by omega
  have eM : skM x i = 0 := by unfold skM; rw [if_neg hs3, if_neg hs5]
  refine ⟨e, by unfold skX; rw [if_neg (fun h => hs3 h.2)], by unfold skR; rw [if_pos e, if_neg (by simp [hs3, hs5])], by unfold skC; rw [if_pos e, h.c], ?_⟩
  unfold skO
  rw [if_pos e, eM, h.c]
  simp [outO]
theorem end_write {x : Sm} {ch : Int} {n : Nat} (h : okS x 1 ch n) (hs : x.st = 6 ∨ x.st = 7) {y : List Int} (hb : blkV ch y = true) : swE x ch y = 9 := by
  unfold swE
  rw [if_neg (by rw [h.P, hb]; decide), if_neg (by rw [h.c]; simp), if_pos (by omega)]
theorem wv_ok (s : Int) {ch : Int} (hc : 1 ≤ ch ∧ ch ≤ 8) {m : Nat} (hm : m ≤ 1000) : blkV ch (waO s ch 0 m) = true ∧ swN ch (waO s ch 0 m) = m ∧ (waO s ch 0 m).length ≤ 8000 := by
  have h1 := waO_len s ch 0 m
  have := Nat.mul_le_mul hm (show ch.toNat ≤ 8 by omega)
  exact ⟨blkV_mk hc h1 (by omega) (waO_all _ _ _ _), swN_of hc h1, by omega⟩


theorem spec_rewinds (u : List UInt8) (f w : Int) (hf : 0 ≤ f ∧ f ≤ 255) (hw : 0 ≤ w ∧ w ≤ 255) : Spec Tryz.prog 0 5 [vL (LB u), vI .u8 f, vI .u8 w] [] [] (vB true) [] [] := by
  refine spec_of_E (X := ⟨Tryz.prog, tt, Tryz.f5.ntmps, 1, fun _ => 0, (tab [(9, E_sane), (12, E_new), (24, E_mstream), (27, E_sdo), (17, E_swaiting), (21, E_snew), (28, E_wave), (29, E_swrite), (25, E_stake), (30, E_same)])⟩) (M := [(7, [0, 0, 0, 0, 0, 158456325028528253043434061767, 0, 0, 0, 0, 0, 158456325028510660857389645767, 0, 0, 0, 0, 0, 158456325026222832246685433799, 0, 0, 0, 0, 0, 158456324880954722666222714823, 0, 0, 0, 0, 0, 158456315878943614695961526215, 0, 0, 0, 0, 0, 158455758344550730898473484231, 0, 0, 0, 0, 0, 158417639402301007122308530119, 0, 0, 0, 0, 0, 156638100595828272977141039047, 0, 0, 0, 0, 0]), (9, [0, 0, 0, 0, 0, 1289438344919652094334996602945479, 0, 0, 0, 0, 0, 973793345462822973362317504806855, 0, 0, 0, 0]), (10, [0, 0, 0, 0, 0, 1313651184437473904282553233647861703, 0, 0, 0, 0, 0, 0]), (14, [0, 0, 0, 0, 0, 41857453390210877741865297975304606510481351, 0, 0, 0, 0, 0, 41813897247244997618541986025553340179414983, 0, 0, 0, 0]), (15, [0, 0, 0, 0, 0, 42862032271575857757259813034294488476857925575, 0, 0, 0, 0, 0, 42817430781178796510976741597749191753845964743, 0, 0, 0, 0]), (16, [0, 0, 0, 0, 0, 12259962865425473535963858092745803266931230983891451847, 0, 0, 0, 0, 0, 12259917558874716277973393778515989062157621649982619591, 0, 0, 0, 0, 0, 12253978016220603488513814003355830087965739940127965127, 0, 0, 0, 0, 0, 11876840441710638652277189539643058687309565859278094279, 0, 0, 0, 0, 0])]) (m := 79228162514264337662355177415) rfl rfl ⟨tt_ok, tab_ok (tabs_cons E_sane_ok (tabs_cons E_new_ok (tabs_cons E_mstream_ok (tabs_cons E_sdo_ok (tabs_cons E_swaiting_ok (tabs_cons E_snew_ok (tabs_cons E_wave_ok (tabs_cons E_swrite_ok (tabs_cons E_stake_ok (tabs_cons E_same_ok tabs_nil)))))))))) _ rfl rfl⟩ tt_mixed Tryz.func5 rfl (by decide) (by show (3 : Nat) ≤ _; exact Nat.le_of_ble_eq_true rfl) ⟨fun m hm => (V.bare_has rfl m hm).elim, by simp, by simp⟩ ?_
  simp only [↓gPre, gPost, gCore, gDef, Nat.reduceShiftRight, Nat.reduceMod, if_true, if_false, ↓reduceIte, reduceCtorEq, Nat.reduceEqDiff, Nat.reduceLT, Nat.reduceLeDiff, implies_true, forall_const, eq_self, ne_eq, not_true_eq_false, not_false_eq_true, imp_self, Nat.reduceAdd, Nat.reduceMul, Int.reduceLE, Int.reduceLT, Int.reduceNeg, Int.reduceAdd, Int.reduceToNat, E_sane_eq, E_new_eq, E_mstream_eq, E_sdo_eq, E_swaiting_eq, E_snew_eq, E_wave_eq, E_swrite_eq, E_stake_eq, E_same_eq, rg_eta, sm_eta, ph_eta, rs_eta, smD_eq, smC_eq, Tryz.ntmps5, Tryz.results5, gTT]
  have ok := msX_ok (u.take 300) (di := 1) (.inl rfl)
  have hn := msN_le (u.take 300)
  generalize msX (u.take 300) 1 = x at *
  generalize msN (u.take 300) = n at *
  have hch := ok.ch
  have hxc := ok.c
  generalize 1 + dN (u.take 300) 2 = ch at *
  have tf : 0 ≤ f.tmod 40 ∧ f.tmod 40 < 40 := by rw [Int.tmod_eq_emod_of_nonneg hf.1]; omega
  have tw : 0 ≤ w.tmod 30 ∧ w.tmod 30 < 30 := by rw [Int.tmod_eq_emod_of_nonneg hw.1]; omega
  rw [IntWalk.i64_in (f.tmod 40) (by omega), IntWalk.i64_in (w.tmod 30) (by omega)]
  refine ⟨⟨ok.lr, ok.lg⟩, fun h1 => ?_, fun h1 => ?_⟩
  · by_cases h4 : x.st ≤ 4
    · rw [((do7 ok).1 h4).1] at h1; exact absurd h1 (by decide)
    · rw [(do7 ok).2 h4, decide_eq_true (show 5 ≤ x.st by omega)]
      rfl
  have h4 : x.st ≤ 4 := Classical.byContradiction fun h4 => by rw [(do7 ok).2 h4] at h1; exact absurd h1 (by decide)
  obtain ⟨e0, eR⟩ := (do7 ok).1 h4
  have hb := smB_in ok.b
  have hs1 : 1 ≤ (if x.st = 2 then 1 else x.st) ∧ (if x.st = 2 then 1 else x.st) ≤ 7 := by split <;> omega
  have okr := set_ok ok hs1
  obtain ⟨oke, hN0⟩ := emp_ok okr
  obtain ⟨er, ep⟩ := emp_r okr
  have r1 : (smE (setS x (if x.st = 2 then 1 else x.st))).wr = x.wr := rfl
  have r2 : (smE (setS x (if x.st = 2 then 1 else x.st))).pl = x.pl := rfl
  have r3 : (smE (setS x (if x.st = 2 then 1 else x.st))).mi = x.mi := rfl
  have r4 : (smE (setS x (if x.st = 2 then 1 else x.st))).q = x.q := rfl
  have r5 : (smE (setS x (if x.st = 2 then 1 else x.st))).st = if x.st = 2 then 1 else x.st := rfl
  have er2 : (smE (setS x (if x.st = 2 then 1 else x.st))).r = ⟨ch, ⟨x.r.p.n, x.r.p.d, 0, 0, 0⟩, []⟩ := er
  have ep2 : phV ⟨x.r.p.n, x.r.p.d, 0, 0, 0⟩ = true := ep
  rw [eR]
  clear er ep okr eR
  generalize smE (setS x (if x.st = 2 then 1 else x.st)) = R at *
  obtain ⟨n1, n2⟩ := new_ok (di := 1) (s0 := 0) (q := x.q) ep2 hch hb.2.1 ⟨Int.le_refl _, by omega⟩ (.inl rfl)
  have okn := nw_S (di := 1) (s0 := 0) (q := x.q) (st := 3) ep2 hch hb.2.1 ⟨Int.le_refl _, by omega⟩ (by decide) (.inl rfl)
  have oky := set2_ok oke
  have hm : 0 ≤ (if f.tmod 40 < x.q then f.tmod 40 else x.q) ∧ (if f.tmod 40 < x.q then f.tmod 40 else x.q) ≤ 40 ∧ (if f.tmod 40 < x.q then f.tmod 40 else x.q) ≤ x.q := by split <;> omega
  rw [hxc, n1, n2, hN0, r1, r2, r3, r4]
  generalize (if f.tmod 40 < x.q then f.tmod 40 else x.q) = m at *
  have y1 : (⟨R.di, 3, x.q, 0, R.r, R.g, x.wr, x.pl, x.mi⟩ : Sm) = set2 R := by rw [← r1, ← r2, ← r3, ← r4]; rfl
  have y2 : (⟨(nwS 1 ch x.r.p.n x.r.p.d x.q 0 1).di, 3, (nwS 1 ch x.r.p.n x.r.p.d x.q 0 1).q, (nwS 1 ch x.r.p.n x.r.p.d x.q 0 1).s0, (nwS 1 ch x.r.p.n x.r.p.d x.q 0 1).r, (nwS 1 ch x.r.p.n x.r.p.d x.q 0 1).g, (nwS 1 ch x.r.p.n x.r.p.d x.q 0 1).wr, (nwS 1 ch x.r.p.n x.r.p.d x.q 0 1).pl, (nwS 1 ch x.r.p.n x.r.p.d x.q 0 1).mi⟩ : Sm) = nwS 1 ch x.r.p.n x.r.p.d x.q 0 3 := rfl
  rw [y1, y2]
  obtain ⟨b1, b2, b3⟩ := wv_ok 8 hch (m := m.toNat) (by omega)
  generalize waO 8 ch 0 m.toNat = B at *
  rw [show ((m.toNat : Nat) : Int) = m by omega] at b2
  have hrr : (set2 R).r = (nwS 1 ch x.r.p.n x.r.p.d x.q 0 3).r := er2
  have w0 : waN (nwS 1 ch x.r.p.n x.r.p.d x.q 0 3).r = 0 := by
    rw [(waN_V (smB_in okn.b).2.2.2.1 okn.lr).1]
    simp [nwS]
  have E1 : swE (set2 R) ch B = 0 := by
    have hO : smO (set2 R) = (set2 R).q - smN (set2 R) := if_neg (by rw [oky.v]; decide)
    have hq : (set2 R).q = x.q := r4
    rw [swE_all oky (by show (3 : Int) ≤ 4; decide) b1, b2, hO, oky.N, hrr, w0, hq, if_neg (by omega)]
  have E2 : swE (nwS 1 ch x.r.p.n x.r.p.d x.q 0 3) ch B = 0 := by
    have hO : smO (nwS 1 ch x.r.p.n x.r.p.d x.q 0 3) = (nwS 1 ch x.r.p.n x.r.p.d x.q 0 3).q - smN (nwS 1 ch x.r.p.n x.r.p.d x.q 0 3) := if_neg (by rw [okn.v]; decide)
    have hq : (nwS 1 ch x.r.p.n x.r.p.d x.q 0 3).q = x.q := rfl
    rw [swE_all okn (by show (3 : Int) ≤ 4; decide) b1, b2, hO, okn.N, w0, hq, if_neg (by omega)]
  have okw1 := sw_ok oky (by omega) (by omega) E1
  have okw2 := sw_ok okn (by decide) (by omega) E2
  have f1 := (sw_fl oky (by omega) (by omega) E1).1
  have f2 := (sw_fl okn (by decide) (by omega) E2).1
  have hr : (swR (set2 R) ch B).r = (swR (nwS 1 ch x.r.p.n x.r.p.d x.q 0 3) ch B).r := by
    rw [f1, f2]
    show feR (set2 R).r ch B = feR (nwS 1 ch x.r.p.n x.r.p.d x.q 0 3).r ch B
    rw [hrr]
  have hs : (swR (set2 R) ch B).st = (swR (nwS 1 ch x.r.p.n x.r.p.d x.q 0 3) ch B).st := by
    rw [f1, f2]
    rfl
  obtain ⟨s1, s2, s3, s4, s5⟩ := sk_same okw1 okw2 (by omega) (by decide) hr hs (i := w.tmod 30) (by omega)
  refine ⟨⟨oke.lr, oke.lg⟩, fun a b => by rw [a, b]; rfl, fun a b => by rw [a, b]; rfl, fun h => ?_, fun _ => ⟨by decide, ⟨⟨by omega, by omega⟩, by omega, by omega⟩, ⟨oke.lr, oke.lg, by omega⟩, ⟨okn.lr, okn.lg, by omega⟩, by decide, ⟨okw1.lr, okw1.lg⟩, by decide, ⟨okw2.lr, okw2.lg⟩, fun _ => by have := skO_le (i := w.tmod 30) okw1.lr; omega, ?_⟩⟩
  · by_cases hx : x.st = 2
    · simp [r5, hx] at h
    · simp [r5, hx] at h
  rw [E1, E2, s1, s2, s3, s4, s5]
  simp

theorem spec_ends (u : List UInt8) (co w : Int) (hco : 0 ≤ co ∧ co ≤ 255) (hw : 0 ≤ w ∧ w ≤ 255) : Spec Tryz.prog 0 8 [vL (LB u), vI .u8 co, vI .u8 w] [] [] (vB true) [] [] := by
  refine spec_of_E (X := ⟨Tryz.prog, tt, Tryz.f8.ntmps, 1, fun _ => 0, (tab [(9, E_sane), (12, E_new), (11, E_made), (32, E_next), (27, E_sdo), (39, E_sgive), (28, E_wave), (23, E_rssame20), (17, E_swaiting), (25, E_stake), (29, E_swrite), (26, E_frames)])⟩) (M := [(4, [0, 0, 0, 0, 0, 47519900849310742788352496548531666887, 0, 0, 0, 0, 0, 47519900849310742788352496487731036103, 0, 0]), (8, [0, 0, 0, 0, 0, 47519900849310742825214459231600115655, 0, 0, 0, 0, 0, 47519900849310742824237178112460718023, 0, 0, 0, 0]), (11, [0, 0, 0, 0, 0, 47519900849315551928319488656517103559, 0, 0, 0, 0, 0, 47519900849314974619016957842389729223, 0, 0, 0, 0, 0]), (12, [0, 0, 0, 0, 0, 47519901166068650340499174121386016711, 0, 0, 0, 0, 0, 47519901156319872531126804456555413447, 0, 0, 0, 0, 0]), (13, [0, 0, 0, 0, 0, 47520205402367447620466205864517697479, 0, 0, 0, 0, 0, 47520205085454797563408855490341896135, 0, 0, 0, 0]), (14, [0, 0, 0, 0, 0, 47665609679903376388678133334811869127, 0, 0, 0, 0, 0, 0]), (21, [0, 0, 0, 0, 0, 1427242295707989995353613343808272509663969223, 0, 0, 0, 0, 0, 1426899291082133689382442262203981287306821575, 0, 0, 0, 0, 0, 1410522181326962763012876969097505146825867207, 0, 0, 0, 0, 0, 0])]) (m := 47519900849310742788352496281572605895) rfl rfl ⟨tt_ok, tab_ok (tabs_cons E_sane_ok (tabs_cons E_new_ok (tabs_cons E_made_ok (tabs_cons E_next_ok (tabs_cons E_sdo_ok (tabs_cons E_sgive_ok (tabs_cons E_wave_ok (tabs_cons E_rssame20_ok (tabs_cons E_swaiting_ok (tabs_cons E_stake_ok (tabs_cons E_swrite_ok (tabs_cons E_frames_ok tabs_nil)))))))))))) _ rfl rfl⟩ tt_mixed Tryz.func8 rfl (by decide) (by show (3 : Nat) ≤ _; exact Nat.le_of_ble_eq_true rfl) ⟨fun m hm => (V.bare_has rfl m hm).elim, by simp, by simp⟩ ?_
  simp only [↓gPre, gPost, gCore, gDef, Nat.reduceShiftRight, Nat.reduceMod, if_true, if_false, ↓reduceIte, reduceCtorEq, Nat.reduceEqDiff, Nat.reduceLT, Nat.reduceLeDiff, implies_true, forall_const, eq_self, ne_eq, not_true_eq_false, not_false_eq_true, imp_self, Nat.reduceAdd, Nat.reduceMul, Int.reduceLE, Int.reduceLT, Int.reduceNeg, Int.reduceAdd, Int.reduceToNat, E_sane_eq, E_new_eq, E_made_eq, E_next_eq, E_sdo_eq, E_sgive_eq, E_wave_eq, E_rssame20_eq, E_swaiting_eq, E_stake_eq, E_swrite_eq, E_frames_eq, rg_eta, sm_eta, ph_eta, rs_eta, smD_eq, smC_eq, gi2, Tryz.ntmps8, Tryz.results8, gTT]
  have ok := msX_ok (dT (u.take 300) 2) (di := 1 + dN (u.take 300) 2) (by have := dN_lt (u.take 300) 2 (by decide); have := dN_ge (u.take 300) 2; omega)
  have hn := msN_le (dT (u.take 300) 2)
  generalize msX (dT (u.take 300) 2) (1 + dN (u.take 300) 2) = x at *
  generalize msN (dT (u.take 300) 2) = n at *
  have hch := ok.ch
  generalize 1 + dN (dT (u.take 300) 2) 2 = ch at *
  have g1 := dN_lt (msR (dT (u.take 300) 2)) 2 (by decide)
  have g2 := dN_ge (msR (dT (u.take 300) 2)) 2
  have hd : 1 + dN (u.take 300) 2 = 1 ∨ 1 + dN (u.take 300) 2 = 2 := by have := dN_lt (u.take 300) 2 (by decide); have := dN_ge (u.take 300) 2; omega
  generalize 1 + dN (u.take 300) 2 = di at *
  have hc0 : ([5, 6] : List Int)[(dN (msR (dT (u.take 300) 2)) 2).toNat]?.getD 0 = 5 ∨ ([5, 6] : List Int)[(dN (msR (dT (u.take 300) 2)) 2).toNat]?.getD 0 = 6 := by
    have : (dN (msR (dT (u.take 300) 2)) 2).toNat = 0 ∨ (dN (msR (dT (u.take 300) 2)) 2).toNat = 1 := by omega
    rcases this with h | h <;> rw [h]
    · exact .inl rfl
    · exact .inr rfl
  generalize ([5, 6] : List Int)[(dN (msR (dT (u.take 300) 2)) 2).toNat]?.getD 0 = c0 at *
  have tco : 0 ≤ co.tmod 9 ∧ co.tmod 9 < 9 := by rw [Int.tmod_eq_emod_of_nonneg hco.1]; omega
  have t20 : 0 ≤ w.tmod 20 ∧ w.tmod 20 < 20 := by rw [Int.tmod_eq_emod_of_nonneg hw.1]; omega
  have t40 : 0 ≤ w.tmod 40 ∧ w.tmod 40 < 40 := by rw [Int.tmod_eq_emod_of_nonneg hw.1]; omega
  refine ⟨⟨g2, by omega⟩, ⟨ok.lr, ok.lg⟩, fun h1 => ?_, fun h1 => ?_⟩
  · rcases do56 ok hc0 with e | ⟨e, _⟩
    · rw [e]; rfl
    · rw [e] at h1; exact absurd h1 (by decide)
  rcases do56 ok hc0 with e | ⟨e, eR⟩
  · rw [e] at h1; exact absurd h1 (by decide)
  have okr := set_ok ok (s := c0 + 1) (by omega)
  obtain ⟨oke, hN0⟩ := emp_ok okr
  have hst : (smE (setS x (c0 + 1))).st = 6 ∨ (smE (setS x (c0 + 1))).st = 7 := by show c0 + 1 = 6 ∨ c0 + 1 = 7; omega
  rw [eR]
  clear okr eR
  generalize smE (setS x (c0 + 1)) = R at *
  have hRd := oke.d
  have hRc := oke.c
  have hde := do_end oke hst
  rw [IntWalk.i64_in (co.tmod 9) (by omega), IntWalk.i64_in (w.tmod 20) (by omega), IntWalk.i64_in (w.tmod 40) (by omega)]
  refine ⟨by decide, ⟨oke.lr, oke.lg⟩, fun a b => by rw [a, b]; rfl, fun h => ?_, fun _ => ⟨fun hd2 => ?_, fun hd2 => ?_⟩⟩
  · rcases hde (co.tmod 9) with ⟨a, b⟩ | ⟨a, b⟩
    · rw [a, b] at h; exact absurd h (by decide)
    · simp [a, b] at h
  · have hd3 : di = 2 := by rw [← hRd]; simpa using hd2
    subst hd3
    obtain ⟨b1, b2, b3⟩ := wv_ok 1 hch (m := (w.tmod 20).toNat) (by omega)
    obtain ⟨e1, e2, e3⟩ := end_give oke hst b1
    rw [hRc]
    refine ⟨by kernel_rfl, by decide, ⟨⟨by omega, by omega⟩, by omega, by omega⟩, ⟨oke.lr, oke.lg, by omega⟩, fun _ => ⟨by rw [e3]; have := oke.lr; omega, by rw [e3]; have := oke.lg; omega⟩, fun _ => ⟨oke.lr, oke.lg⟩, ?_⟩
    rw [e1, e2, e3, hN0, hRc]
    simp
  have hd3 : di = 1 := by
    have : ¬ di = 2 := by rw [← hRd]; simpa using hd2
    omega
  subst hd3
  obtain ⟨b1, b2, b3⟩ := wv_ok 1 hch (m := 1) (by decide)
  obtain ⟨e1, e2, e3, e4, e5⟩ := end_take oke (by omega) hst (i := w.tmod 40) (by omega)
  have e6 := end_write oke hst b1
  rw [hRc]
  have hmb := Nat.mul_le_mul (show (w.tmod 40).toNat ≤ 40 by omega) (show ch.toNat ≤ 8 by omega)
  refine ⟨by decide, ⟨oke.lr, oke.lg⟩, by kernel_rfl, ⟨by omega, by omega⟩, ⟨oke.lr, oke.lg, by omega⟩, ?_⟩
  refine ELoop_keep (fun g => ⟨[(120, vI .i64 (g : Nat))], [], []⟩) (fun g => g ≤ (skO R (w.tmod 40)).length) (fun g => (skO R (w.tmod 40)).length - g) (· + 1) 0 (Nat.zero_le _) ?_ ?_
  · simp only [↓gPre, gPost, gCore, gDef, Nat.reduceShiftRight, Nat.reduceMod, if_true, if_false, ↓reduceIte, reduceCtorEq, Nat.reduceEqDiff, Nat.reduceLT, Nat.reduceLeDiff, implies_true, forall_const, eq_self, ne_eq, not_true_eq_false, not_false_eq_true, imp_self, Nat.reduceAdd, Nat.reduceMul, Int.reduceLE, Int.reduceLT, Int.reduceNeg, Int.reduceAdd, Int.reduceToNat, E_sane_eq, E_new_eq, E_made_eq, E_next_eq, E_sdo_eq, E_sgive_eq, E_wave_eq, E_rssame20_eq, E_swaiting_eq, E_stake_eq, E_swrite_eq, E_frames_eq, rg_eta, sm_eta, ph_eta, rs_eta, smD_eq, smC_eq, gi2, Tryz.ntmps8, Tryz.results8, gTT]
    rfl
  intro g hg
  simp only [↓gPre, gPost, gCore, gDef, Nat.reduceShiftRight, Nat.reduceMod, if_true, if_false, ↓reduceIte, reduceCtorEq, Nat.reduceEqDiff, Nat.reduceLT, Nat.reduceLeDiff, implies_true, forall_const, eq_self, ne_eq, not_true_eq_false, not_false_eq_true, imp_self, Nat.reduceAdd, Nat.reduceMul, Int.reduceLE, Int.reduceLT, Int.reduceNeg, Int.reduceAdd, Int.reduceToNat, E_sane_eq, E_new_eq, E_made_eq, E_next_eq, E_sdo_eq, E_sgive_eq, E_wave_eq, E_rssame20_eq, E_swaiting_eq, E_stake_eq, E_swrite_eq, E_frames_eq, rg_eta, sm_eta, ph_eta, rs_eta, smD_eq, smC_eq, gi2, Tryz.ntmps8, Tryz.results8, gTT]
  have hrl : (List.replicate ((w.tmod 40).toNat * ch.toNat) (0 : Int)).length = (w.tmod 40).toNat * ch.toNat := List.length_replicate
  have hfr := frames_of (c := ch) (n := (w.tmod 40).toNat) hch hrl (by omega) (by
    rw [List.all_eq_true]
    intro z hz
    rw [(List.mem_replicate.1 hz).2]
    decide)
  have hz : ∀ k : Nat, (List.replicate ((w.tmod 40).toNat * ch.toNat) (0 : Int))[k]?.getD 0 = 0 := fun k => by
    rw [List.getElem?_replicate]
    split <;> rfl
  have hnn : (((w.tmod 40).toNat : Nat) : Int) = w.tmod 40 := by omega
  have hsl : (skO R (w.tmod 40)).length = (w.tmod 40).toNat * ch.toNat := by rw [e5, hrl]
  refine ⟨fun h1 => ?_, fun h1 => ⟨fun _ => ⟨by rw [e3]; have := oke.lr; omega, by rw [e3]; have := oke.lg; omega⟩, fun _ => by omega, fun _ => by decide, ?_⟩⟩
  · have h1' := of_decide_eq_true h1
    refine ⟨⟨by omega, h1'⟩, fun h2 => ?_, fun _ => ⟨(wrapN _ (by omega)).symm, by omega, by omega⟩⟩
    rw [e5, hz] at h2
    exact absurd h2 (by decide)
  · rw [e1, e2, e3, e4, e5, e6, hfr, hnn]
    simp
    exact ⟨hRc, (IntWalk.i64_in _ (by omega)).symm⟩

end Go.Vam
