/- The law StreamCounts gives true. Conditions: none. -/
import Derived.Test.YtdhhjfnmocimmaaStP
set_option linter.unusedVariables false
set_option linter.defProp false
set_option linter.unusedSimpArgs false
set_option maxRecDepth 40000
set_option maxHeartbeats 4000000
namespace Go.Vam
open Go.Proofs

theorem rgV_mk {x : Rg} (h1 : 1 ≤ x.q ∧ x.q ≤ 65536) (h2 : 0 ≤ x.r ∧ x.r ≤ x.w ∧ x.w ≤ 1125899906842624) (h3 : blkV x.c x.l = true) (h4 : x.w - x.r = ((x.l.length / x.c.toNat : Nat) : Int)) (h5 : x.w - x.r ≤ x.q) : rgV x = true := by
  simp only [rgV, Bool.and_eq_true, decide_eq_true_eq, beq_iff_eq]
  exact ⟨⟨⟨⟨⟨⟨⟨h1.1, h1.2⟩, h2.1⟩, h2.2.1⟩, h2.2.2⟩, h3⟩, h4⟩, h5⟩
/-- A stream after some steps: valid, its direction and channels, and bounds of its counts. -/
structure okS (x : Sm) (di ch : Int) (k : Nat) : Prop where
  v : smV x = true
  d : x.di = di
  c : x.r.c = ch
  ll : x.r.l.length ≤ 524288
  gl : x.g.l.length ≤ 524288
  wr : x.wr ≤ 70000 * (k : Int)
  pl : x.pl ≤ 70000 * (k : Int)
  mi : x.mi ≤ 70000 * (k : Int)
  pp : x.r.p.p ≤ 62000000003 * (k : Int)
theorem okS.b {x : Sm} {di ch : Int} {k : Nat} (h : okS x di ch k) : smB x = true := (smV_in h.v).1
theorem okS.up {x : Sm} {di ch : Int} {k : Nat} (h : okS x di ch k) : okS x di ch (k + 1) :=
  ⟨h.v, h.d, h.c, h.ll, h.gl, by have := h.wr; omega, by have := h.pl; omega, by have := h.mi; omega, by have := h.pp; omega⟩
theorem rg_len {x : Rg} (h : rgV x = true) (hl : x.l.length ≤ 1000000) : x.l.length ≤ 524288 := by
  have h3 := (rgV_in h).2.2.1
  obtain ⟨⟨k1, k2⟩, k3, k4, k5⟩ := blk_in h3 hl
  have := Nat.mul_le_mul k4 (show x.c.toNat ≤ 8 by omega)
  omega
theorem noG_len {x : Rg} (h : noG x = true) : x.l.length = 0 := by
  simp only [noG, Bool.and_eq_true, beq_iff_eq] at h
  exact h.2
theorem waN_le {x y : Rs} (hx : rsV x = true) (hy : rsV y = true) (hc : y.c = x.c) (hl : y.l.length ≤ x.l.length) (hx2 : x.l.length ≤ 1000000) : waN y ≤ waN x := by
  have e1 := (waN_V hx hx2).1
  have e2 := (waN_V hy (by omega)).1
  rw [e1, e2, hc]
  exact Int.ofNat_le.2 (Nat.div_le_div_right hl)
theorem sw_ok {x : Sm} {di ch k : Int} {n : Nat} {y : List Int} (h : okS x di ch n) (hn : n ≤ 1000) (hy : y.length ≤ 1000000) (he : swE x k y = 0) : okS (swR x k y) di ch (n + 1) := by
  have hl := h.ll
  obtain ⟨a1, a2, a3, a4, a5, a6⟩ := swE_fe (show x.r.l.length ≤ 1000000 by omega) hy he
  have hd : x.di = 1 := by unfold smP at a1; simp at a1; exact a1.2
  have hb := smB_in h.b
  have hs := swN_in a2 hy
  obtain ⟨f1, f2, f3⟩ := feR_ok a6 (by omega) hy
  have hfl := rs_len f2 (by omega)
  have h1 := h.wr; have h2 := h.pl; have h3 := h.mi; have h4 := h.pp
  have e : swR x k y = ⟨x.di, if x.st = 1 ∧ 0 < swN k y then 2 else x.st, x.q, x.s0, feR x.r k y, x.g, x.wr + swN k y, x.pl, x.mi⟩ := by
    unfold swR
    rw [if_pos he, IntWalk.i64_in (x.wr + swN k y) (by omega)]
  have hg := (smV_in h.v).2
  have hg1 : waN x.r ≤ x.q ∧ noG x.g = true := by
    rcases hg with hg | hg
    · exact hg.2
    · omega
  have hfc : (feR x.r k y).c = x.r.c := by rw [f1]
  have hfp : (feR x.r k y).p = x.r.p := by rw [f1]
  have hw : waN (feR x.r k y) = waN x.r + swN k y := by
    rw [(waN_V f2 (by omega)).1, (waN_V hb.2.2.2.1 (show x.r.l.length ≤ 1000000 by omega)).1, f1]
    obtain ⟨⟨k1, k2⟩, k3, k4, k5⟩ := blk_in (rsV_in hb.2.2.2.1).2 (show x.r.l.length ≤ 1000000 by omega)
    obtain ⟨_, m3, m4, m5⟩ := blk_in a2 hy
    rw [a3] at m3 m4
    have hdv : (x.r.l ++ y).length / x.r.c.toNat = x.r.l.length / x.r.c.toNat + y.length / x.r.c.toNat := by
      have : (x.r.l ++ y).length = (x.r.l.length / x.r.c.toNat + y.length / x.r.c.toNat) * x.r.c.toNat := by rw [List.length_append, Nat.add_mul]; omega
      rw [this, Nat.mul_div_cancel _ (by omega)]
    show (((x.r.l ++ y).length / x.r.c.toNat : Nat) : Int) = _
    rw [hdv, a3]
    unfold swN
    omega
  have hO : smO x = x.q - smN x := if_neg (by rw [h.v]; decide)
  have hN : smN x = waN x.r := by unfold smN; rw [if_neg (by rw [h.v]; decide), if_neg (by omega)]
  rw [e]
  refine ⟨smV_1 (smB_mk ?_ hb.2.1 hb.2.2.1 f2 (by show (feR x.r k y).p.a = 0; rw [hfp]; exact hb.2.2.2.2.1) (by show 0 ≤ x.wr + swN k y; omega) hb.2.2.2.2.2.2.1 hb.2.2.2.2.2.2.2) hd (by show waN (feR x.r k y) ≤ x.q; omega) hg1.2, h.d, ?_, hfl, h.gl, ?_, ?_, ?_, ?_⟩
  · show 1 ≤ (if x.st = 1 ∧ 0 < swN k y then 2 else x.st) ∧ (if x.st = 1 ∧ 0 < swN k y then 2 else x.st) ≤ 7
    split <;> omega
  · show (feR x.r k y).c = ch
    rw [hfc]; exact h.c
  · show x.wr + swN k y ≤ _; omega
  · show x.pl ≤ _; omega
  · show x.mi ≤ _; omega
  · show (feR x.r k y).p.p ≤ _; rw [hfp]; omega
theorem po_S {x : Sm} {di ch : Int} {n : Nat} {i : Int} (h : okS x di ch n) (hi : poE x.r i = 0) : rsV (poR x.r i) = true ∧ (poR x.r i).c = ch ∧ (poR x.r i).l.length ≤ 524288 ∧ (poR x.r i).p.a = 0 ∧ waN (poR x.r i) ≤ waN x.r ∧ (poR x.r i).p.p ≤ 62000000003 * ((n + 1 : Nat) : Int) := by
  have hl := h.ll
  have hb := smB_in h.b
  obtain ⟨p1, p2, p3, p4, p5⟩ := po_ok hb.2.2.2.1 (by omega) hi
  have hq := qAt_in (rsV_in hb.2.2.2.1).1 p5
  have hp := h.pp
  refine ⟨p1, by rw [p2]; exact h.c, by omega, by rw [p4]; exact hb.2.2.2.2.1, waN_le hb.2.2.2.1 p1 p2 p3 (by omega), ?_⟩
  rw [p4]
  show x.r.p.p + qAt x.r.p i ≤ _
  omega
theorem skE_ok {x : Sm} {i : Int} (h : skE x i = 0) : smV x = true ∧ x.di = 1 ∧ (0 ≤ i ∧ i ≤ 65536) ∧ (x.st = 3 → tkE x.r (skK x i) = 0) ∧ (x.st = 5 → fiE x.r i = 0) := by
  have hP : smP x = true := by
    cases e : smP x with
    | true => rfl
    | false => rw [skE_bad e] at h; cases h
  have hr : (decide (i < 0) || decide (65536 < i)) = false := by
    cases e : (decide (i < 0) || decide (65536 < i)) with
    | false => rfl
    | true => rw [skE_rng hP e] at h; cases h
  have hv : smV x = true ∧ x.di = 1 := by unfold smP at hP; simpa using hP
  rw [skE_go hP hr] at h
  simp only [Bool.or_eq_false_iff, decide_eq_false_iff_not] at hr
  refine ⟨hv.1, hv.2, by omega, fun h3 => by rw [if_pos h3] at h; exact h, fun h5 => by rw [if_neg (by omega), if_pos h5] at h; exact h⟩
theorem fiE_po {x : Rs} {i : Int} (h : fiE x i = 0) : rcE x i = 0 ∧ poE x (cnt x i) = 0 := by
  unfold fiE at h
  split at h
  · rename_i h1; exact absurd h h1
  · rename_i h1; exact ⟨by simpa using h1, h⟩
theorem sk_po {x : Sm} {i : Int} (h : skE x i = 0) (hs : x.st = 3 ∨ x.st = 5) : poE x.r (skM x i) = 0 := by
  obtain ⟨h1, h2, h3, h4, h5⟩ := skE_ok h
  unfold skM
  rcases hs with hs | hs
  · rw [if_pos hs]; exact (tkE_po (h4 hs)).2.1
  · rw [if_neg (by omega), if_pos hs]; exact (fiE_po (h5 hs)).2
theorem skX_in {x : Sm} {i : Int} (h : skE x i = 0) : 0 ≤ skX x i ∧ skX x i ≤ 65536 := by
  obtain ⟨h1, h2, h3, h4, h5⟩ := skE_ok h
  unfold skX
  have := skK_in (x := x) (i := i) h3.1
  split <;> first | omega | exact ⟨by decide, by decide⟩
theorem sk_ok {x : Sm} {di ch i : Int} {n : Nat} (h : okS x di ch n) (hn : n ≤ 1000) (he : skE x i = 0) : okS (skR x i) di ch (n + 1) := by
  obtain ⟨h1, h2, h3, h4, h5⟩ := skE_ok he
  have hb := smB_in h.b
  have b1 := h.wr; have b2 := h.pl; have b3 := h.mi; have b4 := h.pp
  have hX := skX_in he
  unfold skR
  rw [if_pos he]
  split
  · rename_i hs
    obtain ⟨p1, p2, p3, p4, p5, p6⟩ := po_S h (sk_po he hs)
    rw [IntWalk.i64_in (x.pl + i) (by omega), IntWalk.i64_in (x.mi + skX x i) (by omega)]
    have hg1 : waN x.r ≤ x.q ∧ noG x.g = true := by
      rcases (smV_in h.v).2 with hg | hg
      · exact hg.2
      · omega
    refine ⟨smV_1 (smB_mk ?_ hb.2.1 hb.2.2.1 p1 p4 hb.2.2.2.2.2.1 (by show 0 ≤ x.pl + i; omega) (by show 0 ≤ x.mi + skX x i; omega)) h2 (by show waN (poR x.r (skM x i)) ≤ x.q; omega) hg1.2, h.d, p2, p3, h.gl, ?_, ?_, ?_, p6⟩
    · show 1 ≤ skS x i ∧ skS x i ≤ 7
      unfold skS
      split <;> omega
    · show x.wr ≤ _; omega
    · show x.pl + i ≤ _; omega
    · show x.mi + skX x i ≤ _; omega
  · exact h.up
theorem srE_ok {x : Sm} {i : Int} (h : srE x i = 0) : smV x = true ∧ x.di = 2 ∧ (0 ≤ i ∧ i ≤ 65536) ∧ x.st ≠ 7 := by
  unfold srE at h
  split at h
  · cases h
  · split at h
    · cases h
    · split at h
      · cases h
      · rename_i g1 g2 g3
        simp only [Bool.or_eq_true, decide_eq_true_eq, not_or] at g2
        have hR : smR x = true := by simpa using g1
        have hv : smV x = true ∧ x.di = 2 := by unfold smR at hR; simpa using hR
        exact ⟨hv.1, hv.2, by omega, g3⟩
theorem smV_g {x : Sm} (h : smV x = true) (hd : x.di = 2) : rgV x.g = true ∧ x.g.q = x.q ∧ x.g.c = x.r.c := by
  rcases (smV_in h).2 with hg | hg
  · omega
  · exact hg.2
theorem rd_ok {x : Rg} {i : Int} (h : rgV x = true) (hl : x.l.length ≤ 1000000) (hi : 0 ≤ i ∧ i ≤ 65536) : rdE x i = 0 ∧ rgV (rdR x i) = true ∧ (rdR x i).q = x.q ∧ (rdR x i).c = x.c ∧ (rdR x i).l.length ≤ x.l.length ∧ (rdR x i).w - (rdR x i).r = x.w - x.r - rdN x i := by
  have he : rdE x i = 0 := by
    unfold rdE
    rw [if_neg (by rw [h]; decide), if_neg (by simp only [Bool.or_eq_true, decide_eq_true_eq]; omega)]
  obtain ⟨v1, v2, v3, v4, v5⟩ := rgV_in h
  obtain ⟨⟨k1, k2⟩, k3, k4, k5⟩ := blk_in v3 hl
  have e : rdR x i = ⟨x.c, x.q, x.w, x.r + rdN x i, x.l.drop ((rdN x i).toNat * x.c.toNat)⟩ := if_pos he
  have hN : 0 ≤ rdN x i ∧ rdN x i ≤ x.w - x.r := by unfold rdN; omega
  have hz : (rdN x i).toNat ≤ x.l.length / x.c.toNat := by omega
  have hlen : (x.l.drop ((rdN x i).toNat * x.c.toNat)).length = (x.l.length / x.c.toNat - (rdN x i).toNat) * x.c.toNat := by rw [List.length_drop, Nat.sub_mul, ← k3]
  have hdv : (x.l.drop ((rdN x i).toNat * x.c.toNat)).length / x.c.toNat = x.l.length / x.c.toNat - (rdN x i).toNat := by rw [hlen, Nat.mul_div_cancel _ (by omega)]
  rw [e]
  refine ⟨he, rgV_mk v1 ⟨by show 0 ≤ x.r + rdN x i; omega, by show x.r + rdN x i ≤ x.w; omega, v2.2.2⟩ ?_ ?_ ?_, rfl, rfl, by show (x.l.drop _).length ≤ _; rw [List.length_drop]; omega, by show x.w - (x.r + rdN x i) = _; omega⟩
  · refine blkV_mk (z := x.l.length / x.c.toNat - (rdN x i).toNat) ⟨k1, k2⟩ hlen (by omega) ?_
    rw [List.all_eq_true] at k5 ⊢
    exact fun z hz => k5 z (List.mem_of_mem_drop hz)
  · show x.w - (x.r + rdN x i) = (((x.l.drop ((rdN x i).toNat * x.c.toNat)).length / x.c.toNat : Nat) : Int)
    rw [hdv]; omega
  · show x.w - (x.r + rdN x i) ≤ x.q; omega
theorem sr_ok {x : Sm} {di ch i : Int} {n : Nat} (h : okS x di ch n) (hn : n ≤ 1000) (he : srE x i = 0) : okS (srR x i) di ch (n + 1) := by
  obtain ⟨h1, h2, h3, h4⟩ := srE_ok he
  have hb := smB_in h.b
  have b1 := h.wr; have b2 := h.pl; have b3 := h.mi; have b4 := h.pp; have b5 := h.gl; have b6 := h.ll
  obtain ⟨g1, g2, g3⟩ := smV_g h1 h2
  have hN := smN_in h1 (show x.r.l.length ≤ 1000000 by omega)
  have hi : 0 ≤ srN x i ∧ srN x i ≤ 65536 := by unfold srN; omega
  obtain ⟨d1, d2, d3, d4, d5, d6⟩ := rd_ok g1 (by omega) hi
  unfold srR
  rw [if_pos he, IntWalk.i64_in (x.wr + srN x i) (by omega)]
  refine ⟨smV_2 (smB_mk hb.1 hb.2.1 hb.2.2.1 hb.2.2.2.1 hb.2.2.2.2.1 (by show 0 ≤ x.wr + srN x i; omega) hb.2.2.2.2.2.2.1 hb.2.2.2.2.2.2.2) h2 d2 (d3.trans g2) (d4.trans g3), h.d, h.c, h.ll, by show (rdR x.g (srN x i)).l.length ≤ _; omega, by show x.wr + srN x i ≤ _; omega, by show x.pl ≤ _; omega, by show x.mi ≤ _; omega, by show x.r.p.p ≤ _; omega⟩
theorem gvE_ok {x : Sm} {k : Int} {y : List Int} (h : gvE x k y = 0) : smV x = true ∧ x.di = 2 ∧ blkV k y = true ∧ k = x.r.c ∧ (x.st = 3 → cvE x.r k y = 0 ∧ rwE x.g (cvC x.r k y) (cvO x.r k y) = 0) := by
  unfold gvE at h
  split at h
  · cases h
  · rename_i g1
    split at h
    · cases h
    · rename_i g2
      simp only [Bool.or_eq_true, Bool.not_eq_true', not_or, Bool.not_eq_false] at g1
      have hv : smV x = true ∧ x.di = 2 := by have := g1.1; unfold smR at this; simpa using this
      refine ⟨hv.1, hv.2, g1.2, by simpa using g2, fun h3 => ?_⟩
      rw [if_neg (by simpa using h3)] at h
      split at h
      · rename_i g3; exact absurd h g3
      · rename_i g3; exact ⟨by simpa using g3, h⟩
theorem rwE_ok {x : Rg} {k : Int} {y : List Int} (h : rwE x k y = 0) (hl : x.l.length ≤ 1000000) (hy : y.length ≤ 1000000) : rgV x = true ∧ blkV k y = true ∧ k = x.c ∧ rgV (rwR x k y) = true ∧ (rwR x k y).q = x.q ∧ (rwR x k y).c = x.c ∧ 0 ≤ rwL x k y ∧ rwL x k y ≤ 65536 ∧ (rwR x k y).l.length ≤ 524288 := by
  have h0 := h
  unfold rwE at h
  split at h
  · cases h
  · rename_i g1
    split at h
    · cases h
    · rename_i g2
      split at h
      · cases h
      · rename_i g3
        simp only [Bool.or_eq_true, Bool.not_eq_true', not_or, Bool.not_eq_false] at g1
        have hk : k = x.c := by simpa using g2
        obtain ⟨v1, v2, v3, v4, v5⟩ := rgV_in g1.1
        obtain ⟨⟨k1, k2⟩, k3, k4, k5⟩ := blk_in v3 hl
        obtain ⟨_, m3, m4, m5⟩ := blk_in g1.2 hy
        have hz : 0 ≤ rwN x k y ∧ rwN x k y ≤ ((y.length / k.toNat : Nat) : Int) ∧ rwN x k y ≤ x.q - (x.w - x.r) := by
          have h9 : (0 : Int) ≤ ((y.length / k.toNat : Nat) : Int) := Int.natCast_nonneg _
          unfold rwN
          generalize ((y.length / k.toNat : Nat) : Int) = z at *
          omega
        have e : rwR x k y = ⟨x.c, x.q, x.w + rwN x k y, x.r, x.l ++ y.take ((rwN x k y).toNat * k.toNat)⟩ := if_pos h0
        have e2 : rwL x k y = ((y.length / k.toNat : Nat) : Int) - rwN x k y := if_pos h0
        have htk : (y.take ((rwN x k y).toNat * k.toNat)).length = (rwN x k y).toNat * k.toNat := by
          rw [List.length_take]
          have : (rwN x k y).toNat * k.toNat ≤ y.length / k.toNat * k.toNat := Nat.mul_le_mul_right _ (by omega)
          omega
        have hlen : (x.l ++ y.take ((rwN x k y).toNat * k.toNat)).length = (x.l.length / x.c.toNat + (rwN x k y).toNat) * x.c.toNat := by rw [List.length_append, htk, Nat.add_mul, hk]; omega
        have hdv : (x.l ++ y.take ((rwN x k y).toNat * k.toNat)).length / x.c.toNat = x.l.length / x.c.toNat + (rwN x k y).toNat := by rw [hlen, Nat.mul_div_cancel _ (by omega)]
        have hbig := Nat.mul_le_mul (show x.l.length / x.c.toNat + (rwN x k y).toNat ≤ 65536 by omega) (show x.c.toNat ≤ 8 by omega)
        rw [e, e2]
        refine ⟨g1.1, g1.2, hk, rgV_mk v1 ⟨v2.1, by show x.r ≤ x.w + rwN x k y; omega, by show x.w + rwN x k y ≤ _; omega⟩ ?_ ?_ (by show x.w + rwN x k y - x.r ≤ x.q; omega), rfl, rfl, by omega, by omega, by show (x.l ++ _).length ≤ _; rw [hlen]; omega⟩
        · refine blkV_mk (z := x.l.length / x.c.toNat + (rwN x k y).toNat) ⟨k1, k2⟩ hlen (by omega) ?_
          rw [List.all_append, k5, Bool.true_and, List.all_eq_true]
          rw [List.all_eq_true] at m5
          exact fun z hz => m5 z (List.mem_of_mem_take hz)
        · show x.w + rwN x k y - x.r = (((x.l ++ y.take ((rwN x k y).toNat * k.toNat)).length / x.c.toNat : Nat) : Int)
          rw [hdv]; omega
theorem gv_ok {x : Sm} {di ch k : Int} {y : List Int} {n : Nat} (h : okS x di ch n) (hn : n ≤ 1000) (hy : y.length ≤ 1000000) (he : gvE x k y = 0) : okS (gvR x k y) di ch (n + 1) := by
  obtain ⟨h1, h2, h3, h4, h5⟩ := gvE_ok he
  have hb := smB_in h.b
  have b1 := h.wr; have b2 := h.pl; have b3 := h.mi; have b4 := h.pp; have b5 := h.gl; have b6 := h.ll
  have hs := swN_in h3 hy
  unfold gvR
  rw [if_pos he]
  split
  · rename_i hst
    obtain ⟨c1, c2⟩ := h5 hst
    obtain ⟨g1, g2, g3⟩ := smV_g h1 h2
    have hcl := cvO_len (show x.r.l.length ≤ 1000000 by omega) hy c1
    obtain ⟨w1, w2, w3, w4, w5, w6, w7, w8, hgl⟩ := rwE_ok c2 (by omega) (by omega)
    obtain ⟨t1, t2⟩ := cvE_tk c1
    obtain ⟨f1, f2, f3⟩ := feR_ok t1 (by omega) hy
    obtain ⟨p1, p2, p3, p4, p5⟩ := po_ok f2 (by omega) (tkE_po t2).2.1
    have hq := qAt_in (rsV_in f2).1 p5
    have ec : cvR x.r k y = poR (feR x.r k y) (cvN x.r k y) := if_pos c1
    have hL : gvL x k y = rwL x.g (cvC x.r k y) (cvO x.r k y) := if_pos ⟨he, hst⟩
    have hrl := rs_len f2 (by omega)
    have hcc : (cvR x.r k y).c = x.r.c := by rw [ec, p2, f1]
    have hcp : (cvR x.r k y).p = ⟨x.r.p.n, x.r.p.d, x.r.p.a, x.r.p.p + qAt (feR x.r k y).p (cvN x.r k y), fAt (feR x.r k y).p (cvN x.r k y)⟩ := by rw [ec, p4, f1]
    rw [IntWalk.i64_in (x.pl + swN k y) (by omega), hL, IntWalk.i64_in (x.mi + _) (by omega)]
    refine ⟨smV_2 (smB_mk hb.1 hb.2.1 hb.2.2.1 (by show rsV (cvR x.r k y) = true; rw [ec]; exact p1) (by show (cvR x.r k y).p.a = 0; rw [hcp]; exact hb.2.2.2.2.1) hb.2.2.2.2.2.1 (by show 0 ≤ x.pl + swN k y; omega) (by show 0 ≤ x.mi + rwL x.g (cvC x.r k y) (cvO x.r k y); omega)) h2 w4 (w5.trans g2) (w6.trans (g3.trans hcc.symm)), h.d, hcc.trans h.c, by show (cvR x.r k y).l.length ≤ _; rw [ec]; omega, hgl, by show x.wr ≤ _; omega, by show x.pl + swN k y ≤ _; omega, by show x.mi + rwL x.g (cvC x.r k y) (cvO x.r k y) ≤ _; omega, ?_⟩
    show (cvR x.r k y).p.p ≤ _
    rw [hcp]
    show x.r.p.p + qAt (feR x.r k y).p (cvN x.r k y) ≤ _
    omega
  · exact h.up
theorem doE_ok {x : Sm} {k : Int} (h : doE x k = 0) : smV x = true ∧ (1 ≤ k ∧ k ≤ 7) ∧ doA x k = true := by
  unfold doE at h
  split at h
  · cases h
  · rename_i g1
    split at h
    · cases h
    · rename_i g2
      simp only [Bool.or_eq_true, Bool.not_eq_true', decide_eq_true_eq, not_or, Bool.not_eq_false] at g1
      exact ⟨g1.1.1, by omega, by simpa using g2⟩
theorem nw_ok {x : Rs} (h : rsV x = true) (hl : x.l.length ≤ 1000000) : nwR x.c x.p.n x.p.d = ⟨x.c, ⟨x.p.n, x.p.d, 0, 0, 0⟩, []⟩ ∧ rsV ⟨x.c, ⟨x.p.n, x.p.d, 0, 0, 0⟩, []⟩ = true := by
  obtain ⟨⟨k1, k2⟩, k3, k4, k5⟩ := blk_in (rsV_in h).2 hl
  have hp := (rsV_in h).1
  have hpr := prt_in hp
  have h1 := phV_adj hp (a := 0) ⟨by decide, by decide⟩
  have h2 : phV ⟨x.p.n, x.p.d, 0, 0, 0⟩ = true := phV_at h1 (P := 0) (F := 0) ⟨by decide, by decide⟩ ⟨by decide, by show 0 < prt x.p; omega⟩
  have h3 : rsV ⟨x.c, ⟨x.p.n, x.p.d, 0, 0, 0⟩, []⟩ = true := by
    unfold rsV
    rw [h2, blk_nil ⟨k1, k2⟩]
    rfl
  exact ⟨if_pos h3, h3⟩
theorem rc_ok {x : Rg} (h : rgV x = true) (hl : x.l.length ≤ 1000000) : rcL x = ⟨x.c, x.q, x.w, x.w, []⟩ ∧ rgV ⟨x.c, x.q, x.w, x.w, []⟩ = true := by
  obtain ⟨v1, v2, v3, v4, v5⟩ := rgV_in h
  obtain ⟨⟨k1, k2⟩, k3, k4, k5⟩ := blk_in v3 hl
  exact ⟨if_pos h, rgV_mk v1 ⟨by show 0 ≤ x.w; omega, Int.le_refl _, v2.2.2⟩ (blk_nil ⟨k1, k2⟩) (by simp) (by show x.w - x.w ≤ x.q; omega)⟩
theorem set_ok {x : Sm} {di ch s : Int} {n : Nat} (h : okS x di ch n) (hs : 1 ≤ s ∧ s ≤ 7) : okS (setS x s) di ch n := by
  have hb := smB_in h.b
  have hB : smB (setS x s) = true := smB_mk hs hb.2.1 hb.2.2.1 hb.2.2.2.1 hb.2.2.2.2.1 hb.2.2.2.2.2.1 hb.2.2.2.2.2.2.1 hb.2.2.2.2.2.2.2
  refine ⟨?_, h.d, h.c, h.ll, h.gl, h.wr, h.pl, h.mi, h.pp⟩
  rcases (smV_in h.v).2 with hg | hg
  · exact smV_1 hB hg.1 hg.2.1 hg.2.2
  · exact smV_2 hB hg.1 hg.2.1 hg.2.2.1 hg.2.2.2
theorem emp_ok {x : Sm} {di ch : Int} {n : Nat} (h : okS x di ch n) : okS (smE x) di ch n ∧ smN (smE x) = 0 := by
  have hb := smB_in h.b
  have hl := h.ll; have hgl := h.gl; have hpp := h.pp
  obtain ⟨e1, e2⟩ := nw_ok hb.2.2.2.1 (by omega)
  have w0 : waN ⟨x.r.c, ⟨x.r.p.n, x.r.p.d, 0, 0, 0⟩, []⟩ = 0 := by rw [(waN_V e2 (Nat.zero_le _)).1]; simp
  have hn0 : (0 : Int) ≤ 62000000003 * (n : Int) := by omega
  rcases (smV_in h.v).2 with hg | hg
  · have e : smE x = ⟨x.di, x.st, x.q, x.s0, ⟨x.r.c, ⟨x.r.p.n, x.r.p.d, 0, 0, 0⟩, []⟩, x.g, x.wr, x.pl, x.mi⟩ := by
      unfold smE
      rw [e1, if_neg (by omega)]
    rw [e]
    have hv := smV_1 (x := ⟨x.di, x.st, x.q, x.s0, ⟨x.r.c, ⟨x.r.p.n, x.r.p.d, 0, 0, 0⟩, []⟩, x.g, x.wr, x.pl, x.mi⟩) (smB_mk hb.1 hb.2.1 hb.2.2.1 e2 rfl hb.2.2.2.2.2.1 hb.2.2.2.2.2.2.1 hb.2.2.2.2.2.2.2) hg.1 (by rw [w0]; show 0 ≤ x.q; omega) hg.2.2
    refine ⟨⟨hv, h.d, h.c, Nat.zero_le _, h.gl, h.wr, h.pl, h.mi, hn0⟩, ?_⟩
    unfold smN
    rw [if_neg (by rw [hv]; decide), if_neg (by show ¬ x.di = 2; omega)]
    exact w0
  · obtain ⟨r1, r2⟩ := rc_ok hg.2.1 (show x.g.l.length ≤ 1000000 by omega)
    have e : smE x = ⟨x.di, x.st, x.q, x.s0, ⟨x.r.c, ⟨x.r.p.n, x.r.p.d, 0, 0, 0⟩, []⟩, ⟨x.g.c, x.g.q, x.g.w, x.g.w, []⟩, x.wr, x.pl, x.mi⟩ := by
      unfold smE
      rw [e1, if_pos hg.1, r1]
    rw [e]
    have hv := smV_2 (x := ⟨x.di, x.st, x.q, x.s0, ⟨x.r.c, ⟨x.r.p.n, x.r.p.d, 0, 0, 0⟩, []⟩, ⟨x.g.c, x.g.q, x.g.w, x.g.w, []⟩, x.wr, x.pl, x.mi⟩) (smB_mk hb.1 hb.2.1 hb.2.2.1 e2 rfl hb.2.2.2.2.2.1 hb.2.2.2.2.2.2.1 hb.2.2.2.2.2.2.2) hg.1 r2 hg.2.2.1 hg.2.2.2
    refine ⟨⟨hv, h.d, h.c, Nat.zero_le _, Nat.zero_le _, h.wr, h.pl, h.mi, hn0⟩, ?_⟩
    unfold smN
    rw [if_neg (by rw [hv]; decide), if_pos (show x.di = 2 from hg.1)]
    unfold rgN
    rw [if_pos r2]
    show x.g.w - x.g.w = 0
    omega
theorem doT_in {x : Sm} {k : Int} (h : 1 ≤ x.st ∧ x.st ≤ 7) : 1 ≤ doT x k ∧ doT x k ≤ 7 := by
  unfold doT
  repeat' split
  all_goals omega
theorem do_ok {x : Sm} {di ch k : Int} {n : Nat} (h : okS x di ch n) (he : doE x k = 0) : okS (doR x k) di ch n := by
  have hs := set_ok h (doT_in (k := k) (smB_in h.b).1)
  unfold doR
  rw [if_pos he]
  split
  · exact (emp_ok hs).1
  · exact hs
/-- What happens to a stream made from dice. -/
def acT (i : Nat) : Int := ([1, 1, 2, 3, 4, 5, 6, 7] : List Int)[i]?.getD 0
def acE (l : List UInt8) (x : Sm) : Int :=
  if dN l 4 = 0 then swE x x.r.c (waO 1 x.r.c 0 (dN (dT l 4) 40).toNat)
  else if dN l 4 = 1 then (if x.di = 1 then skE x (dN (dT l 4) 30) else gvE x x.r.c (waO 2 x.r.c 0 (dN (dT l 4) 30).toNat))
  else if dN l 4 = 2 then srE x (dN (dT l 4) 30)
  else doE x (acT (dN (dT l 4) 8).toNat)
def acR (l : List UInt8) (x : Sm) : Sm :=
  if dN l 4 = 0 then swR x x.r.c (waO 1 x.r.c 0 (dN (dT l 4) 40).toNat)
  else if dN l 4 = 1 then (if x.di = 1 then skR x (dN (dT l 4) 30) else gvR x x.r.c (waO 2 x.r.c 0 (dN (dT l 4) 30).toNat))
  else if dN l 4 = 2 then srR x (dN (dT l 4) 30)
  else doR x (acT (dN (dT l 4) 8).toNat)
def acX (l : List UInt8) (x : Sm) : Sm := if acE l x = 0 then acR l x else x
def acD (l : List UInt8) : List UInt8 := dT (dT l 4) (if dN l 4 = 0 then 40 else if dN l 4 = 1 then 30 else if dN l 4 = 2 then 30 else 8)
theorem waO_le (s : Int) {ch : Int} (hc : 1 ≤ ch ∧ ch ≤ 8) {k : Nat} (hk : k ≤ 65536) : (waO s ch 0 k).length ≤ 524288 := by
  have := Nat.mul_le_mul hk (show ch.toNat ≤ 8 by omega)
  rw [waO_len]
  omega
theorem okS.ch {x : Sm} {di ch : Int} {n : Nat} (h : okS x di ch n) : 1 ≤ ch ∧ ch ≤ 8 := by
  have hl := h.ll
  have h1 := (blk_in (rsV_in (smB_in h.b).2.2.2.1).2 (show x.r.l.length ≤ 1000000 by omega)).1
  rw [h.c] at h1
  exact h1
theorem ac_ok {l : List UInt8} {x : Sm} {di ch : Int} {n : Nat} (h : okS x di ch n) (hn : n ≤ 1000) : okS (acX l x) di ch (n + 1) := by
  have hc : 1 ≤ x.r.c ∧ x.r.c ≤ 8 := by rw [h.c]; exact h.ch
  have d1 := dN_lt (dT l 4) 40 (by decide)
  have d2 := dN_lt (dT l 4) 30 (by decide)
  have w1 := waO_le 1 hc (k := (dN (dT l 4) 40).toNat) (by omega)
  have w2 := waO_le 2 hc (k := (dN (dT l 4) 30).toNat) (by omega)
  unfold acX
  split
  · rename_i he
    unfold acE at he
    unfold acR
    split at he
    · rename_i g; rw [if_pos g]; exact sw_ok h hn (by omega) he
    · rename_i g1; rw [if_neg g1]
      split at he
      · rename_i g2; rw [if_pos g2]
        split at he
        · rename_i g3; rw [if_pos g3]; exact sk_ok h hn he
        · rename_i g3; rw [if_neg g3]; exact gv_ok h hn (by omega) he
      · rename_i g2; rw [if_neg g2]
        split at he
        · rename_i g3; rw [if_pos g3]; exact sr_ok h hn he
        · rename_i g3; rw [if_neg g3]; exact (do_ok h he).up
  · exact h.up
/-- A stream from dice: the first one; after so many rounds. -/
def msB (l : List UInt8) : List UInt8 := baR (dT l 2)
def msP (l : List UInt8) : Int := 1 + dN (msB l) 200
def msM (l : List UInt8) : Int := (if msP l < 6 then msP l else 6) + 1
def msI (l : List UInt8) (di : Int) : Sm := ⟨di, 1, msP l, dN (dT (msB l) 200) (msM l), ⟨1 + dN l 2, ⟨baN (dT l 2), baD (dT l 2), 0, 0, 0⟩, []⟩, if di = 2 then ⟨1 + dN l 2, msP l, 0, 0, []⟩ else rg0, 0, 0, 0⟩
def msD (l : List UInt8) : List UInt8 := dT (dT (msB l) 200) (msM l)
def msN (l : List UInt8) : Nat := (dN (msD l) 7).toNat
def msQ (l : List UInt8) : Nat → List UInt8
  | 0 => dT (msD l) 7
  | k + 1 => acD (msQ l k)
def msS (l : List UInt8) (di : Int) : Nat → Sm
  | 0 => msI l di
  | k + 1 => acX (msQ l k) (msS l di k)
def msX (l : List UInt8) (di : Int) : Sm := msS l di (msN l)
def msR (l : List UInt8) : List UInt8 := msQ l (msN l)
theorem msP_in (l : List UInt8) : 1 ≤ msP l ∧ msP l ≤ 200 := by
  have h1 := dN_lt (msB l) 200 (by decide)
  have h2 := dN_ge (msB l) 200
  unfold msP
  omega
theorem msM_in (l : List UInt8) : 2 ≤ msM l ∧ msM l ≤ msP l + 1 ∧ msM l ≤ 7 := by
  have h1 := msP_in l
  unfold msM
  split <;> omega
theorem msC_in (l : List UInt8) : 1 ≤ 1 + dN l 2 ∧ 1 + dN l 2 ≤ 8 := by
  have h1 := dN_lt l 2 (by decide)
  have h2 := dN_ge l 2
  omega
theorem msV (l : List UInt8) : rsV ⟨1 + dN l 2, ⟨baN (dT l 2), baD (dT l 2), 0, 0, 0⟩, []⟩ = true := by
  unfold rsV
  rw [ba_ok, blk_nil (msC_in l)]
  rfl
theorem msW (l : List UInt8) : waN ⟨1 + dN l 2, ⟨baN (dT l 2), baD (dT l 2), 0, 0, 0⟩, []⟩ = 0 := by rw [(waN_V (msV l) (Nat.zero_le _)).1]; simp
theorem msI_ok (l : List UInt8) {di : Int} (hd : di = 1 ∨ di = 2) : okS (msI l di) di (1 + dN l 2) 0 := by
  have h1 := msP_in l
  have h2 := msM_in l
  have h3 := dN_lt (dT (msB l) 200) (msM l) (by omega)
  have h4 := dN_ge (dT (msB l) 200) (msM l)
  have hB : smB (msI l di) = true := smB_mk ⟨by show (1 : Int) ≤ 1; decide, by show (1 : Int) ≤ 7; decide⟩ ⟨h1.1, by show msP l ≤ _; omega⟩ ⟨h4, by show dN (dT (msB l) 200) (msM l) ≤ msP l; omega⟩ (msV l) rfl (by show (0 : Int) ≤ 0; decide) (by show (0 : Int) ≤ 0; decide) (by show (0 : Int) ≤ 0; decide)
  rcases hd with rfl | rfl
  · exact ⟨smV_1 hB rfl (by show waN ⟨1 + dN l 2, ⟨baN (dT l 2), baD (dT l 2), 0, 0, 0⟩, []⟩ ≤ msP l; rw [msW]; omega) rfl, rfl, rfl, Nat.zero_le _, Nat.zero_le _, by show (0 : Int) ≤ 70000 * ((0 : Nat) : Int); decide, by show (0 : Int) ≤ 70000 * ((0 : Nat) : Int); decide, by show (0 : Int) ≤ 70000 * ((0 : Nat) : Int); decide, by show (0 : Int) ≤ 62000000003 * ((0 : Nat) : Int); decide⟩
  · refine ⟨smV_2 hB rfl (rgV_mk ⟨h1.1, by show msP l ≤ _; omega⟩ ⟨by show (0 : Int) ≤ 0; decide, by show (0 : Int) ≤ 0; decide, by show (0 : Int) ≤ 1125899906842624; decide⟩ (blk_nil (msC_in l)) (by simp [msI]) (by show (0 : Int) - 0 ≤ msP l; omega)) rfl rfl, rfl, rfl, Nat.zero_le _, Nat.zero_le _, by show (0 : Int) ≤ 70000 * ((0 : Nat) : Int); decide, by show (0 : Int) ≤ 70000 * ((0 : Nat) : Int); decide, by show (0 : Int) ≤ 70000 * ((0 : Nat) : Int); decide, by show (0 : Int) ≤ 62000000003 * ((0 : Nat) : Int); decide⟩
theorem msN_le (l : List UInt8) : msN l ≤ 6 := by
  have h1 := dN_lt (msD l) 7 (by decide)
  unfold msN
  omega
theorem msS_ok (l : List UInt8) {di : Int} (hd : di = 1 ∨ di = 2) : ∀ k, k ≤ 900 → okS (msS l di k) di (1 + dN l 2) k
  | 0, _ => msI_ok l hd
  | k + 1, h => ac_ok (msS_ok l hd k (by omega)) (by omega)
theorem msX_ok (l : List UInt8) {di : Int} (hd : di = 1 ∨ di = 2) : okS (msX l di) di (1 + dN l 2) (msN l) := msS_ok l hd _ (by have := msN_le l; omega)


/-- The phase after so many output frames. -/
def adv (p : Ph) (N : Nat) : Ph := ⟨p.n, p.d, p.a, p.p + qN p N, fAt p N⟩
theorem adv_zero {p : Ph} (h : phV p = true) : adv p 0 = p ∧ qN p 0 = 0 := by
  obtain ⟨_, _, _, _, h5, h6⟩ := phV_in h
  have hp := prt_in h
  have e : ahd p ((0 : Nat) : Int) = p.f := by unfold ahd; simp
  have q0 : qN p 0 = 0 := by
    unfold qN qAt
    rw [e, Int.ediv_eq_zero_of_lt h5.1 (by omega)]
    rfl
  have f0 : fAt p ((0 : Nat) : Int) = p.f := by
    unfold fAt
    rw [e, Int.emod_eq_of_lt h5.1 (by omega)]
  refine ⟨?_, q0⟩
  unfold adv
  rw [q0, f0]
  simp
theorem q_add {p : Ph} (h : phV p = true) {N i : Nat} (hN : N + i ≤ 65536) : qN p (N + i) = qN p N + qN (adv p N) i ∧ fAt (adv p N) i = fAt p ((N + i : Nat) : Int) := by
  have hp := prt_in h
  have hs := stp_in h
  have h1 := qAt_in h (n := (N : Int)) (by omega)
  have h2 := qN_eq h (g := N) (by omega)
  have e : ahd p ((N + i : Nat) : Int) = ahd (adv p N) i + prt p * qAt p N := by
    have e1 : ahd p ((N + i : Nat) : Int) = ahd p N + (i : Int) * stp p := by
      unfold ahd
      rw [Int.natCast_add, Int.add_mul]
      omega
    have e2 : ahd (adv p N) i = fAt p N + (i : Int) * stp p := rfl
    rw [e1, e2, h1.2.2.2, Int.mul_comm (prt p)]
    omega
  have hnn : 0 ≤ ahd (adv p N) i := by
    have e2 : ahd (adv p N) i = fAt p N + (i : Int) * stp p := rfl
    have := Int.mul_nonneg (Int.natCast_nonneg i) (show 0 ≤ stp p by omega)
    rw [e2]
    omega
  have hd : qAt p ((N + i : Nat) : Int) = qAt (adv p N) i + qAt p N := by
    unfold qAt
    rw [e, Int.add_mul_ediv_left _ _ (by omega)]
    rfl
  have hq : 0 ≤ qAt (adv p N) i := Int.ediv_nonneg hnn (by show 0 ≤ prt p; omega)
  constructor
  · unfold qN
    rw [hd]
    omega
  · unfold fAt
    rw [e, Int.add_mul_emod_self_left]
    rfl
theorem q_mono {p : Ph} (h : phV p = true) {i j : Nat} (hij : i ≤ j) : qN p i ≤ qN p j := by
  have := qAt_mono h (show (i : Int) ≤ (j : Int) by omega)
  unfold qN
  omega
theorem q_le_ned {p : Ph} (h : phV p = true) {n : Nat} (hn : n ≤ 65536) : (qN p n : Int) ≤ ned p n := by
  have h1 := qN_eq h hn
  unfold ned
  split
  · have : n = 0 := by omega
    subst this
    rw [(adv_zero h).2]
    exact Int.le_refl _
  · omega
theorem ned_zero (p : Ph) : ned p ((0 : Nat) : Int) = 0 := by simp [ned]
theorem ned_succ {p : Ph} (h : phV p = true) {n : Nat} (hn : n + 1 ≤ 65536) : (qN p n : Int) + 2 ≤ ned p ((n + 1 : Nat) : Int) := by
  have h1 := qN_eq h (g := n) (by omega)
  unfold ned
  rw [if_neg (by omega), show ((n + 1 : Nat) : Int) - 1 = (n : Int) by omega]
  omega
theorem ned_add {p : Ph} (h : phV p = true) {N k : Nat} (hk : 1 ≤ k) (hN : N + k ≤ 65536) : ned (adv p N) k = ned p ((N + k : Nat) : Int) - qN p N := by
  have a1 := (q_add h (N := N) (i := k) hN).1
  have a2 := (q_add h (N := N) (i := k - 1) (by omega)).1
  have e1 := qN_eq h (g := N + k) hN
  have e2 := qN_eq h (g := N + (k - 1)) (by omega)
  have hp := prt_in h
  have hs := stp_in h
  have hf := qAt_in h (n := (N : Int)) (by omega)
  have hq : ∀ i : Nat, 0 ≤ qAt (adv p N) i := fun i => by
    refine Int.ediv_nonneg ?_ (by show 0 ≤ prt p; omega)
    have e3 : ahd (adv p N) i = fAt p N + (i : Int) * stp p := rfl
    have := Int.mul_nonneg (Int.natCast_nonneg i) (show 0 ≤ stp p by omega)
    rw [e3]
    omega
  have q1 := hq k
  have q2 := hq (k - 1)
  have c1 : (k : Int) - 1 = ((k - 1 : Nat) : Int) := by omega
  have c2 : ((N + k : Nat) : Int) - 1 = ((N + (k - 1) : Nat) : Int) := by omega
  unfold ned
  rw [if_neg (by omega), if_neg (by omega), c1, c2, ← e1.1, ← e2.1]
  unfold qN at a1 a2 ⊢
  omega
theorem adv_V {p : Ph} (h : phV p = true) {N : Nat} (hN : N ≤ 65536) (hb : p.p + qN p N ≤ 1125899906842624) : phV (adv p N) = true := by
  have := qAt_in h (n := (N : Int)) (by omega)
  have hp := phV_in h
  exact phV_at h (by omega) ⟨this.2.1, this.2.2.1⟩
/-- How many can be made behind some. -/
theorem mk_add {p : Ph} (h : phV p = true) {N W : Nat} (hv : phV (adv p N) = true) (hN : ned p N ≤ W) (hN6 : N ≤ 65536) (hM : mkN p W < 65536) : N ≤ mkN p W ∧ qN p N ≤ W ∧ mkN (adv p N) ((W - qN p N : Nat) : Int) = mkN p W - N := by
  have hW : (0 : Int) ≤ W := Int.natCast_nonneg _
  have hqn := q_le_ned h hN6
  have h1 : N ≤ mkN p W := (mkN_iff h hW hN6).2 hN
  have hM1 := (mkN_iff h hW (k := mkN p W) (by omega)).1 (Nat.le_refl _)
  have hM2 : ¬ ned p ((mkN p W + 1 : Nat) : Int) ≤ W := fun h2 => by
    have := (mkN_iff h hW (k := mkN p W + 1) (by omega)).2 h2
    omega
  refine ⟨h1, by omega, ?_⟩
  generalize mkN p W = M at *
  have hw' : (0 : Int) ≤ ((W - qN p N : Nat) : Int) := Int.natCast_nonneg _
  have ha := mkN_iff hv hw' (k := M - N) (by omega)
  have hb := mkN_iff hv hw' (k := M - N + 1) (by omega)
  have hb2 : ¬ (M - N + 1 ≤ mkN (adv p N) ((W - qN p N : Nat) : Int)) := fun h2 => by
    have h3 := hb.1 h2
    rw [ned_add h (by omega) (by omega), show N + (M - N + 1) = M + 1 by omega] at h3
    omega
  have ha2 : M - N ≤ mkN (adv p N) ((W - qN p N : Nat) : Int) := ha.2 (by
    by_cases h4 : M - N = 0
    · rw [h4, ned_zero]; exact hw'
    · rw [ned_add h (by omega) (by omega), show N + (M - N) = M by omega]
      omega)
  omega
/-- The state behind some frames in and some frames out; what came out. -/
def stR (p : Ph) (c : Int) (s : List Int) (N : Nat) : Rs := ⟨c, adv p N, s.drop (qN p N * c.toNat)⟩
def ocX (p : Ph) (c : Int) (s : List Int) (i ch : Nat) : Int := btw (s[qN p i * c.toNat + ch]?.getD 0) (s[(qN p i + 1) * c.toNat + ch]?.getD 0) (fAt p i) (prt p)
def ooL (p : Ph) (c : Int) (s : List Int) : Nat → List Int
  | 0 => []
  | N + 1 => ooL p c s N ++ (List.range c.toNat).map (ocX p c s N)
theorem ooL_len (p : Ph) (c : Int) (s : List Int) : ∀ N, (ooL p c s N).length = N * c.toNat
  | 0 => by simp [ooL]
  | N + 1 => by rw [ooL, List.length_append, ooL_len p c s N, List.length_map, List.length_range, Nat.add_mul, Nat.one_mul]
theorem ooL_more {p : Ph} (h : phV p = true) {c : Int} {s y : List Int} {W : Nat} (hs : s.length = W * c.toNat) : ∀ N : Nat, N ≤ 65536 → ned p N ≤ W → ooL p c (s ++ y) N = ooL p c s N
  | 0, _, _ => rfl
  | N + 1, hN, hW => by
    have h1 := ned_succ h hN
    have h2 : ned p N ≤ ned p ((N + 1 : Nat) : Int) := ned_mono h (by omega) (by omega) (by omega)
    rw [ooL, ooL, ooL_more h hs N (by omega) (by omega)]
    congr 1
    apply List.map_congr_left
    intro ch hch
    rw [List.mem_range] at hch
    have h3 : (qN p N + 2) * c.toNat ≤ W * c.toNat := Nat.mul_le_mul_right _ (by omega)
    have h4 : (qN p N + 2) * c.toNat = qN p N * c.toNat + 2 * c.toNat := Nat.add_mul ..
    have h5 : (qN p N + 1) * c.toNat = qN p N * c.toNat + c.toNat := by rw [Nat.add_mul, Nat.one_mul]
    unfold ocX
    rw [List.getElem?_append_left (by omega), List.getElem?_append_left (by omega)]
theorem stR_zero {p : Ph} (h : phV p = true) (c : Int) (s : List Int) : stR p c s 0 = ⟨c, p, s⟩ := by
  unfold stR
  rw [(adv_zero h).1, (adv_zero h).2, Nat.zero_mul, List.drop_zero]
theorem stR_V {p : Ph} (h : phV p = true) {c : Int} {s : List Int} {W N : Nat} (hc : 1 ≤ c ∧ c ≤ 8) (hs : s.length = W * c.toNat) (ha : s.all smpX = true) (hW : W ≤ 65536) (hN6 : N ≤ 65536) (hN : ned p N ≤ W) (hp : p.p + W ≤ 1125899906842624) :
    rsV (stR p c s N) = true ∧ (stR p c s N).l.length = (W - qN p N) * c.toNat ∧ (stR p c s N).l.length / c.toNat = W - qN p N ∧ qN p N ≤ W := by
  have hq := q_le_ned h hN6
  have hl : (stR p c s N).l.length = (W - qN p N) * c.toNat := by
    show (List.drop _ s).length = _
    rw [List.length_drop, hs, Nat.sub_mul]
  refine ⟨?_, hl, by rw [hl, Nat.mul_div_cancel _ (by omega)], by omega⟩
  unfold rsV
  have h1 : phV (stR p c s N).p = true := adv_V h hN6 (by omega)
  rw [h1, Bool.true_and]
  refine blkV_mk hc hl (by omega) ?_
  rw [List.all_eq_true] at ha ⊢
  intro x hx
  exact ha x (List.mem_of_mem_drop hx)
theorem fe_step {p : Ph} (h : phV p = true) {c : Int} {s y : List Int} {W V N : Nat} (hc : 1 ≤ c ∧ c ≤ 8) (hs : s.length = W * c.toNat) (ha : s.all smpX = true) (hy : y.length = V * c.toNat) (hya : y.all smpX = true) (hW : W + V ≤ 65536) (hN6 : N ≤ 65536) (hN : ned p N ≤ W) (hp : p.p + W ≤ 1125899906842624) :
    feE (stR p c s N) c y = 0 ∧ feR (stR p c s N) c y = stR p c (s ++ y) N := by
  obtain ⟨v1, v2, v3, v4⟩ := stR_V h hc hs ha (by omega) hN6 hN hp
  have e0 : feE (stR p c s N) c y = 0 := by
    unfold feE
    have hb : blkV c y = true := blkV_mk hc hy (by omega) hya
    have hd : ((stR p c s N).l.length + y.length) / (stR p c s N).c.toNat = W - qN p N + V := by
      show _ / c.toNat = _
      rw [v2, hy, ← Nat.add_mul, Nat.mul_div_cancel _ (by omega)]
    rw [if_neg (by rw [v1, hb]; decide), if_neg (by show ¬ (c ≠ c); simp), if_neg (by rw [hd]; omega)]
  refine ⟨e0, ?_⟩
  unfold feR
  rw [if_pos e0]
  unfold stR
  rw [List.drop_append_of_le_length (by rw [hs]; exact Nat.mul_le_mul_right _ v4)]
theorem tk_step {p : Ph} (h : phV p = true) {c : Int} {s : List Int} {W N n : Nat} (hc : 1 ≤ c ∧ c ≤ 8) (hs : s.length = W * c.toNat) (ha : s.all smpX = true) (hW : W ≤ 65536) (hN : N + n ≤ 65536) (hM : ned p ((N + n : Nat) : Int) ≤ W) (hp : p.p + W ≤ 1125899906842624) :
    tkE (stR p c s N) n = 0 ∧ tkC (stR p c s N) n = c ∧ tkR (stR p c s N) n = stR p c s (N + n) ∧ ooL p c s N ++ tkO (stR p c s N) n = ooL p c s (N + n) := by
  have hN0 : ned p N ≤ W := Int.le_trans (ned_mono h (by omega) (by omega) (by omega)) hM
  obtain ⟨v1, v2, v3, v4⟩ := stR_V h hc hs ha hW (by omega) hN0 hp
  have hq := (q_add h (N := N) (i := n) hN).1
  have hqn := q_le_ned h hN
  have hva : phV (adv p N) = true := (rsV_in v1).1
  have hqa := qN_eq hva (g := n) (by omega)
  have e0 : rcE (stR p c s N) n = 0 := rcE_of v1 (by omega)
  have e1 : ned (adv p N) n ≤ ((W - qN p N : Nat) : Int) := by
    by_cases hn : n = 0
    · subst hn; rw [ned_zero]; exact Int.natCast_nonneg _
    · rw [ned_add h (by omega) hN]; omega
  have e2 : poE (stR p c s N) n = 0 := by
    have h0 : phC (adv p N) n = 0 := phC_of hva (by omega)
    have h1 : atP (adv p N) n = p.p + qN p (N + n) := by
      have h2 : atP (adv p N) n = (adv p N).p + qAt (adv p N) n := by unfold atP; rw [if_pos h0]
      rw [h2, ← hqa.1, hq]
      show p.p + (qN p N : Int) + _ = _
      omega
    show adE (adv p N) n = 0
    unfold adE
    rw [if_pos h0, h1, if_neg (by omega)]
  have eE : tkE (stR p c s N) n = 0 := by
    unfold tkE
    rw [if_neg (by rw [e0]; decide), if_neg ?_, e2]
    show ¬ (((stR p c s N).l.length / c.toNat : Nat) : Int) < ned (adv p N) n
    rw [v3]; omega
  refine ⟨eE, by unfold tkC; rw [if_pos eE]; rfl, ?_, ?_⟩
  · obtain ⟨_, h2⟩ := adE_ok (p := (stR p c s N).p) (n := n) e2
    have e3 : tkR (stR p c s N) n = ⟨c, adP (adv p N) n, ((s.drop (qN p N * c.toNat)).drop (min (stR p c s N).l.length (qN (adv p N) n * c.toNat)))⟩ := by
      unfold tkR
      rw [if_pos eE]
      unfold poR
      rw [if_pos e2]
      rfl
    have hle : qN (adv p N) n * c.toNat ≤ (stR p c s N).l.length := by rw [v2]; exact Nat.mul_le_mul_right _ (by omega)
    rw [e3, Nat.min_eq_right hle, List.drop_drop, ← Nat.add_mul, ← hq]
    have h3 : adP (adv p N) n = adv p (N + n) := by
      have : adP (adv p N) n = _ := h2
      rw [this]
      show (⟨p.n, p.d, p.a, p.p + (qN p N : Int) + qAt (adv p N) n, fAt (adv p N) n⟩ : Ph) = ⟨p.n, p.d, p.a, p.p + (qN p (N + n) : Int), fAt p ((N + n : Nat) : Int)⟩
      rw [(q_add h (N := N) (i := n) hN).2, ← hqa.1, hq]
      congr 1
      omega
    rw [h3]
    rfl
  · have e4 : tkO (stR p c s N) n = outO (stR p c s N) n := by unfold tkO; rw [if_pos eE]; rfl
    rw [e4]
    have key : ∀ m : Nat, m ≤ n → ooL p c s N ++ outO (stR p c s N) m = ooL p c s (N + m) := by
      intro m
      induction m with
      | zero => intro _; simp [outO]
      | succ m ih =>
        intro hm
        have hmm := q_add h (N := N) (i := m) (by omega)
        have hns := ned_succ h (n := N + m) (by omega)
        have hle2 : ned p ((N + m + 1 : Nat) : Int) ≤ ned p ((N + n : Nat) : Int) := ned_mono h (by omega) (by omega) (by omega)
        have e5 : ooL p c s (N + (m + 1)) = ooL p c s (N + m) ++ (List.range c.toNat).map (ocX p c s (N + m)) := rfl
        have e6 : outO (stR p c s N) (m + 1) = outO (stR p c s N) m ++ outF (stR p c s N) m c.toNat := rfl
        rw [e5, e6, ← List.append_assoc, ih (by omega)]
        congr 1
        apply List.map_congr_left
        intro ch hch
        rw [List.mem_range] at hch
        have hfr : ∀ k : Nat, k + 1 ≤ W - qN p N → gx (stR p c s N) k ch = s[(qN p N + k) * c.toNat + ch]?.getD 0 := fun k hk => by
          have h5 : (k + 1) * c.toNat ≤ (W - qN p N) * c.toNat := Nat.mul_le_mul_right _ hk
          have h6 : (k + 1) * c.toNat = k * c.toNat + c.toNat := by rw [Nat.add_mul, Nat.one_mul]
          have h7 : frA (stR p c s N) k = k * c.toNat := by
            unfold frA
            show min (k * c.toNat) ((stR p c s N).l.length - c.toNat) = _
            rw [v2]; omega
          unfold gx
          rw [h7]
          show ((s.drop (qN p N * c.toNat))[k * c.toNat + ch]?).getD 0 = _
          rw [List.getElem?_drop, Nat.add_mul, Nat.add_assoc]
        have g1 := hfr (qN (adv p N) m) (by omega)
        have g2 := hfr (qN (adv p N) m + 1) (by omega)
        show btw (gx (stR p c s N) (qN (adv p N) m) ch) (gx (stR p c s N) (qN (adv p N) m + 1) ch) (fAt (adv p N) m) (prt (adv p N)) = btw _ _ _ _
        rw [g1, g2, hmm.2, ← Nat.add_assoc, ← hmm.1]
        rfl
    exact key n (Nat.le_refl _)
/-- A conversion: fed, and taken what can be taken. -/
theorem cv_step {p : Ph} (h : phV p = true) {c : Int} {s y : List Int} {W V N : Nat} (hc : 1 ≤ c ∧ c ≤ 8) (hs : s.length = W * c.toNat) (ha : s.all smpX = true) (hy : y.length = V * c.toNat) (hya : y.all smpX = true) (hW : W + V ≤ 65536) (hN6 : N ≤ 65536) (hN : ned p N ≤ W) (hp : p.p + (W + V : Nat) ≤ 1125899906842624) (hM : mkN p ((W + V : Nat) : Int) < 65536) :
    cvE (stR p c s N) c y = 0 ∧ cvC (stR p c s N) c y = c ∧ cvR (stR p c s N) c y = stR p c (s ++ y) (mkN p ((W + V : Nat) : Int)) ∧ ooL p c s N ++ cvO (stR p c s N) c y = ooL p c (s ++ y) (mkN p ((W + V : Nat) : Int)) := by
  obtain ⟨f1, f2⟩ := fe_step h hc hs ha hy hya hW hN6 hN (by omega)
  have hs2 : (s ++ y).length = (W + V) * c.toNat := by rw [List.length_append, hs, hy, Nat.add_mul]
  have ha2 : (s ++ y).all smpX = true := by rw [List.all_append, ha, hya]; rfl
  have hN2 : ned p N ≤ ((W + V : Nat) : Int) := by omega
  obtain ⟨v1, v2, v3, v4⟩ := stR_V h hc hs2 ha2 hW hN6 hN2 hp
  obtain ⟨m1, m2, m3⟩ := mk_add h (rsV_in v1).1 hN2 hN6 hM
  have hM1 := (mkN_iff h (Int.natCast_nonneg _) (k := mkN p ((W + V : Nat) : Int)) (by omega)).1 (Nat.le_refl _)
  have hn : cvN (stR p c s N) c y = ((mkN p ((W + V : Nat) : Int) - N : Nat) : Int) := by
    unfold cvN
    rw [f2]
    show ((mkN (adv p N) (((stR p c (s ++ y) N).l.length / c.toNat : Nat) : Int) : Nat) : Int) = _
    rw [v3, m3]
  generalize mkN p ((W + V : Nat) : Int) = M at *
  have hNM : N + (M - N) = M := by omega
  obtain ⟨t1, t2, t3, t4⟩ := tk_step h (N := N) (n := M - N) hc hs2 ha2 hW (by omega) (by rw [hNM]; exact hM1) hp
  rw [hNM] at t3 t4
  have eE : cvE (stR p c s N) c y = 0 := by unfold cvE; rw [if_neg (by rw [f1]; decide), f2, hn, t1]
  refine ⟨eE, by unfold cvC; rw [if_pos eE]; rfl, ?_, ?_⟩
  · have e1 : cvR (stR p c s N) c y = tkR (stR p c (s ++ y) N) ((M - N : Nat) : Int) := by
      unfold cvR tkR
      rw [if_pos eE, if_pos t1, f2, hn]
    rw [e1, t3]
  · have e1 : cvO (stR p c s N) c y = tkO (stR p c (s ++ y) N) ((M - N : Nat) : Int) := by
      unfold cvO tkO
      rw [if_pos eE, if_pos t1, f2, hn]
    rw [e1, ← ooL_more h hs N hN6 hN, t4]
/-- Few frames do not make very many. -/
theorem mk_few {p : Ph} (h : phV p = true) (hr : p.d ≤ 200 * p.n) {W : Nat} (hW : W ≤ 300) : mkN p (W : Int) < 65536 := by
  obtain ⟨h1, h2, h3, _, h5, h6⟩ := phV_in h
  have hs := stp_in h
  have hp := prt_in h
  have hq : 300 < qAt p 65536 := by
    have e : 301 * prt p ≤ ahd p 65536 := by
      have e1 : 61440 * p.n ≤ stp p := by
        rw [hs.1, Int.mul_comm]
        exact Int.mul_le_mul_of_nonneg_left (by omega) (by omega)
      unfold ahd
      omega
    have := Int.le_ediv_of_mul_le (by omega) e
    unfold qAt
    omega
  have hn : ¬ ned p ((65536 : Nat) : Int) ≤ (W : Int) := by
    unfold ned
    rw [if_neg (by decide)]
    show ¬ max _ (qAt p 65536) ≤ _
    omega
  have h7 := mkN_le h (n := (W : Int)) (Int.natCast_nonneg _)
  have h8 := mkN_iff h (n := (W : Int)) (Int.natCast_nonneg _) (k := 65536) (Nat.le_refl _)
  have h9 : ¬ 65536 ≤ mkN p (W : Int) := fun h => hn (h8.1 h)
  omega


theorem po_go {x : Rs} (hv : rsV x = true) {n : Int} (hn : 0 ≤ n ∧ n ≤ 65536) (hp : x.p.p ≤ 62000000000000) : poE x n = 0 := by
  have h1 := (rsV_in hv).1
  have h2 := qAt_in h1 hn
  have h3 := phC_of h1 hn
  unfold poE adE
  rw [if_pos h3, if_neg]
  unfold atP
  rw [if_pos h3]
  omega
theorem tk_go {x : Rs} (hv : rsV x = true) (hl : x.l.length ≤ 1000000) {n : Int} (hn : 0 ≤ n ∧ n ≤ 65536) (hm : n ≤ ((mkN x.p (waN x) : Nat) : Int)) (hp : x.p.p ≤ 62000000000000) : tkE x n = 0 := by
  have h1 := (rsV_in hv).1
  have hw := waN_V hv hl
  have h2 := mkN_iff h1 hw.2.1 (k := n.toNat) (by omega)
  have h3 : ned x.p n ≤ waN x := by
    have := h2.1 (by omega)
    rwa [show ((n.toNat : Nat) : Int) = n by omega] at this
  unfold tkE
  rw [if_neg (by rw [rcE_of hv hn]; decide), if_neg (by rw [← hw.1]; omega), po_go hv hn hp]
theorem fi_go {x : Rs} (hv : rsV x = true) (hl : x.l.length ≤ 1000000) {n : Int} (hn : 0 ≤ n ∧ n ≤ 65536) (hp : x.p.p ≤ 62000000000000) : fiE x n = 0 := by
  have h1 := cnt_in hv hl hn.1
  unfold fiE
  rw [if_neg (by rw [rcE_of hv hn]; decide), po_go hv (by omega) hp]
theorem okS.far {x : Sm} {di ch : Int} {k : Nat} (h : okS x di ch k) (hk : k ≤ 900) : x.r.p.p ≤ 62000000000000 := by
  have := h.pp
  omega
theorem okS.lr {x : Sm} {di ch : Int} {k : Nat} (h : okS x di ch k) : x.r.l.length ≤ 1000000 := by have := h.ll; omega
theorem okS.lg {x : Sm} {di ch : Int} {k : Nat} (h : okS x di ch k) : x.g.l.length ≤ 1000000 := by have := h.gl; omega
theorem okS.P {x : Sm} {ch : Int} {k : Nat} (h : okS x 1 ch k) : smP x = true := by unfold smP; rw [h.v, h.d]; rfl
theorem okS.R {x : Sm} {ch : Int} {k : Nat} (h : okS x 2 ch k) : smR x = true := by unfold smR; rw [h.v, h.d]; rfl
theorem okS.N {x : Sm} {ch : Int} {k : Nat} (h : okS x 1 ch k) : smN x = waN x.r := by
  unfold smN
  rw [if_neg (by rw [h.v]; decide), if_neg (by rw [h.d]; decide)]
theorem sk_go {x : Sm} {ch : Int} {k : Nat} (h : okS x 1 ch k) (hk : k ≤ 900) {i : Int} (hi : 0 ≤ i ∧ i ≤ 65536) : skE x i = 0 := by
  have hb := smB_in h.b
  have hr : (decide (i < 0) || decide (65536 < i)) = false := by simp only [Bool.or_eq_false_iff, decide_eq_false_iff_not]; omega
  have hK := skK_in (x := x) hi.1
  rw [skE_go h.P hr]
  split
  · exact tk_go hb.2.2.2.1 h.lr (by omega) (by unfold skK; omega) (h.far hk)
  · split
    · exact fi_go hb.2.2.2.1 h.lr hi (h.far hk)
    · rfl
theorem owes_go {x : Sm} {ch : Int} {k : Nat} (h : okS x 1 ch k) (hk : k ≤ 900) (hs : x.st = 3) {i : Int} (hi : 0 ≤ i ∧ i ≤ 65536) : owE x i = 0 ∧ (owN x i = 0 ↔ skX x i = 0) := by
  have hb := smB_in h.b
  have hr : (decide (i < 0) || decide (65536 < i)) = false := by simp only [Bool.or_eq_false_iff, decide_eq_false_iff_not]; omega
  have e : owE x i = 0 := by unfold owE; rw [if_neg (by rw [h.P]; decide), if_neg (by rw [hr]; decide)]
  have h1 := (rsV_in hb.2.2.2.1).1
  have hw := waN_V hb.2.2.2.1 h.lr
  have h2 := mkN_iff h1 hw.2.1 (k := i.toNat) (by omega)
  rw [show ((i.toNat : Nat) : Int) = i by omega] at h2
  have eN : owN x i = max 0 (ned x.r.p i - waN x.r) := by unfold owN; rw [if_pos e, h.N]
  have eX : skX x i = i - skK x i := if_pos ⟨sk_go h hk hi, hs⟩
  have eK : skK x i = min ((mkN x.r.p (waN x.r) : Nat) : Int) i := rfl
  refine ⟨e, ?_⟩
  rw [eN, eX, eK]
  constructor
  · intro h3
    have := h2.2 (by omega)
    omega
  · intro h3
    have := h2.1 (by omega)
    omega
theorem skO_len {x : Sm} {ch : Int} {k : Nat} (h : okS x 1 ch k) (hk : k ≤ 900) {i : Int} (hi : 0 ≤ i ∧ i ≤ 65536) : skC x i = ch ∧ (skO x i).length = i.toNat * ch.toNat ∧ (skO x i).all smpX = true := by
  have e := sk_go h hk hi
  have hb := smB_in h.b
  have hv := rsV_in hb.2.2.2.1
  have hM : 0 ≤ skM x i ∧ skM x i ≤ i := by
    have hK := skK_in (x := x) hi.1
    have hc := cnt_in hb.2.2.2.1 h.lr hi.1
    unfold skM
    split
    · exact hK
    · split
      · exact ⟨hc.1, hc.2.1⟩
      · exact ⟨Int.le_refl _, hi.1⟩
  have hol : (outO x.r (skM x i).toNat).length = (skM x i).toNat * x.r.c.toNat := outO_len _ _
  have hle := Nat.mul_le_mul_right x.r.c.toNat (show (skM x i).toNat ≤ i.toNat by omega)
  have eO : skO x i = outO x.r (skM x i).toNat ++ List.replicate ((i.toNat - (skM x i).toNat) * x.r.c.toNat) 0 := if_pos e
  have eC : skC x i = x.r.c := if_pos e
  rw [eC, eO, ← h.c, List.length_append, hol, List.length_replicate, Nat.sub_mul]
  refine ⟨rfl, by omega, ?_⟩
  rw [List.all_append, outO_all hv.1 (blk_in hv.2 h.lr).2.2.2 _ (by omega), Bool.true_and, List.all_eq_true]
  intro z hz
  rw [(List.mem_replicate.1 hz).2]
  decide
theorem frames_of {c : Int} {l : List Int} {n : Nat} (hc : 1 ≤ c ∧ c ≤ 8) (hl : l.length = n * c.toNat) (hn : n ≤ 65536) (ha : l.all smpX = true) : (if blkV c l = true then ((l.length / c.toNat : Nat) : Int) else 0) = n := by
  rw [if_pos (blkV_mk hc hl hn ha), hl, Nat.mul_div_cancel _ (by omega)]
/-- A new stream in a state. -/
def nwS (di ch n d q s0 st : Int) : Sm := ⟨di, st, q, s0, ⟨ch, ⟨n, d, 0, 0, 0⟩, []⟩, if di = 2 then ⟨ch, q, 0, 0, []⟩ else rg0, 0, 0, 0⟩
theorem nw_S {di ch n d q s0 st : Int} (hp : phV ⟨n, d, 0, 0, 0⟩ = true) (hc : 1 ≤ ch ∧ ch ≤ 8) (hq : 1 ≤ q ∧ q ≤ 65536) (h0 : 0 ≤ s0 ∧ s0 ≤ q) (hs : 1 ≤ st ∧ st ≤ 7) (hd : di = 1 ∨ di = 2) : okS (nwS di ch n d q s0 st) di ch 0 := by
  have hv : rsV ⟨ch, ⟨n, d, 0, 0, 0⟩, []⟩ = true := by
    unfold rsV
    rw [hp, blk_nil hc]
    rfl
  have hw : waN ⟨ch, ⟨n, d, 0, 0, 0⟩, []⟩ = 0 := by rw [(waN_V hv (Nat.zero_le _)).1]; simp
  have hB : smB (nwS di ch n d q s0 st) = true := smB_mk hs hq h0 hv rfl (by show (0 : Int) ≤ 0; decide) (by show (0 : Int) ≤ 0; decide) (by show (0 : Int) ≤ 0; decide)
  rcases hd with rfl | rfl
  · exact ⟨smV_1 hB rfl (by show waN ⟨ch, ⟨n, d, 0, 0, 0⟩, []⟩ ≤ q; rw [hw]; omega) rfl, rfl, rfl, Nat.zero_le _, Nat.zero_le _, by show (0 : Int) ≤ 70000 * ((0 : Nat) : Int); decide, by show (0 : Int) ≤ 70000 * ((0 : Nat) : Int); decide, by show (0 : Int) ≤ 70000 * ((0 : Nat) : Int); decide, by show (0 : Int) ≤ 62000000003 * ((0 : Nat) : Int); decide⟩
  · exact ⟨smV_2 hB rfl (rgV_mk hq ⟨by show (0 : Int) ≤ 0; decide, by show (0 : Int) ≤ 0; decide, by show (0 : Int) ≤ 1125899906842624; decide⟩ (blk_nil hc) (by simp [nwS]) (by show (0 : Int) - 0 ≤ q; omega)) rfl rfl, rfl, rfl, Nat.zero_le _, Nat.zero_le _, by show (0 : Int) ≤ 70000 * ((0 : Nat) : Int); decide, by show (0 : Int) ≤ 70000 * ((0 : Nat) : Int); decide, by show (0 : Int) ≤ 70000 * ((0 : Nat) : Int); decide, by show (0 : Int) ≤ 62000000003 * ((0 : Nat) : Int); decide⟩
theorem new_ok {di ch n d q s0 : Int} (hp : phV ⟨n, d, 0, 0, 0⟩ = true) (hc : 1 ≤ ch ∧ ch ≤ 8) (hq : 1 ≤ q ∧ q ≤ 65536) (h0 : 0 ≤ s0 ∧ s0 ≤ q) (hd : di = 1 ∨ di = 2) : snE di ch n d q s0 = 0 ∧ snR di ch n d q s0 = nwS di ch n d q s0 1 := by
  have hv : rsV ⟨ch, ⟨n, d, 0, 0, 0⟩, []⟩ = true := by
    unfold rsV
    rw [hp, blk_nil hc]
    rfl
  have hg : rgV ⟨ch, q, 0, 0, []⟩ = true := rgV_mk hq ⟨by show (0 : Int) ≤ 0; decide, by show (0 : Int) ≤ 0; decide, by show (0 : Int) ≤ 1125899906842624; decide⟩ (blk_nil hc) (by simp) (by show (0 : Int) - 0 ≤ q; omega)
  have e : snS di ch n d q s0 = nwS di ch n d q s0 1 := by
    unfold snS nwR rnR
    rw [if_pos hv, if_pos hg]
    rfl
  have hV := (nw_S (st := 1) hp hc hq h0 (by decide) hd).v
  unfold snE snR
  rw [e, if_pos hV, if_pos hV]
  exact ⟨rfl, rfl⟩
theorem start_ok {di ch n d q : Int} (hp : phV ⟨n, d, 0, 0, 0⟩ = true) (hc : 1 ≤ ch ∧ ch ≤ 8) (hq : 1 ≤ q ∧ q ≤ 65536) (hd : di = 1 ∨ di = 2) : doE (nwS di ch n d q 0 1) 1 = 0 ∧ doR (nwS di ch n d q 0 1) 1 = nwS di ch n d q 0 3 := by
  have hV := (nw_S (st := 1) (s0 := 0) hp hc hq ⟨Int.le_refl _, by omega⟩ (by decide) hd).v
  have ha : doA (nwS di ch n d q 0 1) 1 = true := by simp [doA, nwS]
  have e := do0 hV (by decide : (1 : Int) ≤ 1 ∧ (1 : Int) ≤ 7) ha (fun h => absurd h.2.1 (by show ¬ (1 : Int) = 2; decide))
  refine ⟨e, ?_⟩
  unfold doR
  rw [if_pos e]
  simp [doT, setS, nwS]


/-- What an operation asks for; the stream behind some operations. -/
def cnN (o : UInt8) : Int := ((o.toNat / 2 % 25 : Nat) : Int)
def cnO (s : List UInt8) (k : Nat) : UInt8 := s[k]?.getD 0
def cnB (x0 : Sm) (s : List UInt8) : Nat → Sm
  | 0 => x0
  | k + 1 => if (cnO s k).toNat % 2 = 0 then (if swE (cnB x0 s k) (cnB x0 s k).r.c (waO k (cnB x0 s k).r.c 0 (cnN (cnO s k)).toNat) = 0 then swR (cnB x0 s k) (cnB x0 s k).r.c (waO k (cnB x0 s k).r.c 0 (cnN (cnO s k)).toNat) else cnB x0 s k) else skR (cnB x0 s k) (cnN (cnO s k))
theorem cnN_in (o : UInt8) : 0 ≤ cnN o ∧ cnN o < 25 := by
  unfold cnN
  omega
theorem cn_mach (o : UInt8) : (IntKind.i64.wrap (((o.toNat : Nat) : Int).fdiv (2 ^ Nat.min 1 IntKind.u8.bits))).tmod 25 = cnN o := by
  have h : o.toNat < 256 := o.toNat_lt
  have e : (2 : Int) ^ Nat.min 1 IntKind.u8.bits = 2 := rfl
  have e2 : ((o.toNat : Nat) : Int).fdiv 2 = ((o.toNat / 2 : Nat) : Int) := by
    rw [Int.fdiv_eq_ediv_of_nonneg _ (by decide)]
    omega
  rw [e, e2, IntWalk.i64_in _ (by omega), Int.tmod_eq_emod_of_nonneg (Int.natCast_nonneg _)]
  unfold cnN
  omega
theorem cn_even {o : UInt8} : (((o.toNat : Nat) : Int).tmod 2 == 0) = true ↔ o.toNat % 2 = 0 := by
  rw [Int.tmod_eq_emod_of_nonneg (Int.natCast_nonneg _), beq_iff_eq]
  omega
theorem swE_all {x : Sm} {ch : Int} {n : Nat} (h : okS x 1 ch n) (hs : x.st ≤ 4) {y : List Int} (hb : blkV ch y = true) : swE x ch y = if smO x < swN ch y then 10 else 0 := by
  unfold swE
  rw [if_neg (by rw [h.P, hb]; decide), if_neg (by rw [h.c]; simp), if_neg (by omega)]
theorem swN_of {ch : Int} (hc : 1 ≤ ch ∧ ch ≤ 8) {y : List Int} {n : Nat} (hy : y.length = n * ch.toNat) : swN ch y = n := by
  unfold swN
  rw [hy, Nat.mul_div_cancel _ (by omega)]
theorem sw_fl {x : Sm} {ch : Int} {n : Nat} {y : List Int} (h : okS x 1 ch n) (hn : n ≤ 1000) (hy : y.length ≤ 1000000) (he : swE x ch y = 0) :
    swR x ch y = ⟨x.di, if x.st = 1 ∧ 0 < swN ch y then 2 else x.st, x.q, x.s0, feR x.r ch y, x.g, x.wr + swN ch y, x.pl, x.mi⟩ ∧ waN (feR x.r ch y) = waN x.r + swN ch y ∧ feR x.r ch y = { x.r with l := x.r.l ++ y } ∧ swN ch y ≤ x.q - waN x.r := by
  obtain ⟨a1, a2, a3, a4, a5, a6⟩ := swE_fe h.lr hy he
  have hb := smB_in h.b
  have hs := swN_in a2 hy
  obtain ⟨f1, f2, f3⟩ := feR_ok a6 h.lr hy
  have h1 := h.wr
  have hO : smO x = x.q - smN x := if_neg (by rw [h.v]; decide)
  have hN := h.N
  refine ⟨?_, ?_, f1, by omega⟩
  · unfold swR
    rw [if_pos he, IntWalk.i64_in (x.wr + swN ch y) (by omega)]
  · rw [(waN_V f2 (by omega)).1, (waN_V hb.2.2.2.1 h.lr).1, f1]
    obtain ⟨⟨k1, k2⟩, k3, k4, k5⟩ := blk_in (rsV_in hb.2.2.2.1).2 h.lr
    obtain ⟨_, m3, m4, m5⟩ := blk_in a2 hy
    rw [a3] at m3 m4
    have hdv : (x.r.l ++ y).length / x.r.c.toNat = x.r.l.length / x.r.c.toNat + y.length / x.r.c.toNat := by
      have : (x.r.l ++ y).length = (x.r.l.length / x.r.c.toNat + y.length / x.r.c.toNat) * x.r.c.toNat := by rw [List.length_append, Nat.add_mul]; omega
      rw [this, Nat.mul_div_cancel _ (by omega)]
    show (((x.r.l ++ y).length / x.r.c.toNat : Nat) : Int) = _
    rw [hdv, a3]
    unfold swN
    omega
theorem sk_fl {x : Sm} {ch : Int} {n : Nat} (h : okS x 1 ch n) (hn : n ≤ 900) (hs : x.st = 3) {i : Int} (hi : 0 ≤ i ∧ i ≤ 65536) :
    skR x i = ⟨x.di, 3, x.q, x.s0, poR x.r (skK x i), x.g, x.wr, x.pl + i, x.mi + skX x i⟩ ∧ waN (poR x.r (skK x i)) + (poR x.r (skK x i)).p.p = waN x.r + x.r.p.p ∧ (0 ≤ skX x i ∧ skX x i ≤ i) := by
  have hb := smB_in h.b
  have he := sk_go h hn hi
  have hX := skX_in he
  have h1 := h.pl
  have h2 := h.mi
  have hK := skK_in (x := x) hi.1
  have eM : skM x i = skK x i := if_pos hs
  have eX : skX x i = i - skK x i := if_pos ⟨he, hs⟩
  have eS : skS x i = 3 := by
    unfold skS
    rw [if_neg (by omega)]
    exact hs
  refine ⟨?_, ?_, by omega⟩
  · unfold skR
    rw [if_pos he, if_pos (Or.inl hs), eM, eS, IntWalk.i64_in (x.pl + i) (by omega), IntWalk.i64_in (x.mi + skX x i) (by omega)]
  · have hpo := sk_po he (Or.inl hs)
    rw [eM] at hpo
    have hv := hb.2.2.2.1
    obtain ⟨p1, p2, p3, p4, p5⟩ := po_ok hv h.lr hpo
    have hq := qN_eq (rsV_in hv).1 (g := (skK x i).toNat) (by omega)
    have hKc : (((skK x i).toNat : Nat) : Int) = skK x i := by omega
    rw [hKc] at hq
    have hw := waN_V hv h.lr
    have hm := (mkN_iff (rsV_in hv).1 hw.2.1 (k := (skK x i).toNat) (by omega)).1 (by
      have : skK x i = min ((mkN x.r.p (waN x.r) : Nat) : Int) i := rfl
      omega)
    have hqn := q_le_ned (rsV_in hv).1 (n := (skK x i).toNat) (by omega)
    obtain ⟨⟨k1, k2⟩, k3, k4, k5⟩ := blk_in (rsV_in hv).2 h.lr
    have hqw : qN x.r.p (skK x i).toNat ≤ x.r.l.length / x.r.c.toNat := by omega
    have hqm := Nat.mul_le_mul_right x.r.c.toNat hqw
    have el : (poR x.r (skK x i)).l.length = (x.r.l.length / x.r.c.toNat - qN x.r.p (skK x i).toNat) * x.r.c.toNat := by
      unfold poR
      rw [if_pos hpo]
      show (x.r.l.drop (min x.r.l.length (qN x.r.p (skK x i).toNat * x.r.c.toNat))).length = _
      rw [List.length_drop, Nat.sub_mul]
      omega
    rw [(waN_V p1 (by have := h.lr; omega)).1, p2, p4, el, Nat.mul_div_cancel _ (by omega), hw.1]
    show _ + (x.r.p.p + qAt x.r.p (skK x i)) = _
    omega
structure okN (x : Sm) (ch : Int) (k : Nat) : Prop where
  ok : okS x 1 ch k
  st : x.st = 3
  q : x.q = 50
  w : x.wr = waN x.r + x.r.p.p
theorem cn_w {ch : Int} (hc : 1 ≤ ch ∧ ch ≤ 8) (k : Nat) (o : UInt8) : (waO k ch 0 (cnN o).toNat).length = (cnN o).toNat * ch.toNat ∧ blkV ch (waO k ch 0 (cnN o).toNat) = true ∧ swN ch (waO k ch 0 (cnN o).toNat) = cnN o ∧ (waO k ch 0 (cnN o).toNat).length ≤ 1000 := by
  have h := cnN_in o
  have h1 := waO_len k ch 0 (cnN o).toNat
  have h2 := Nat.mul_le_mul (show (cnN o).toNat ≤ 25 by omega) (show ch.toNat ≤ 8 by omega)
  exact ⟨h1, blkV_mk hc h1 (by omega) (waO_all _ _ _ _), by rw [swN_of hc h1]; omega, by omega⟩
theorem cn_ok {x0 : Sm} {s : List UInt8} {ch : Int} (hc : 1 ≤ ch ∧ ch ≤ 8) (h0 : okN x0 ch 0) : ∀ k : Nat, k ≤ 20 → okN (cnB x0 s k) ch k
  | 0, _ => h0
  | k + 1, hk => by
    have h := cn_ok (s := s) hc h0 k (by omega)
    have hn := cnN_in (cnO s k)
    unfold cnB
    split
    · rw [h.ok.c]
      obtain ⟨w1, w2, w3, w4⟩ := cn_w hc k (cnO s k)
      split
      · rename_i he
        have h1 := sw_ok h.ok (by omega) (by omega) he
        obtain ⟨f1, f2, f3, f4⟩ := sw_fl h.ok (by omega) (by omega) he
        refine ⟨h1, ?_, ?_, ?_⟩
        · rw [f1]
          show (if _ then 2 else (cnB x0 s k).st) = 3
          rw [if_neg (by have := h.st; omega)]
          exact h.st
        · rw [f1]; exact h.q
        · rw [f1]
          show (cnB x0 s k).wr + _ = waN (feR _ _ _) + (feR _ _ _).p.p
          rw [f2, f3]
          have := h.w
          show _ = _ + (cnB x0 s k).r.p.p
          omega
      · exact ⟨h.ok.up, h.st, h.q, h.w⟩
    · have h1 := sk_ok h.ok (i := cnN (cnO s k)) (by omega) (sk_go h.ok (by omega) (by omega))
      obtain ⟨f1, f2, f3⟩ := sk_fl h.ok (by omega) h.st (i := cnN (cnO s k)) (by omega)
      refine ⟨h1, ?_, ?_, ?_⟩
      · rw [f1]
      · rw [f1]; exact h.q
      · rw [f1]
        show (cnB x0 s k).wr = waN (poR _ _) + (poR _ _).p.p
        rw [f2]
        exact h.w


def sB1 : Sm := ⟨1, 1, 10, 2, ⟨1, ⟨1, 1, 0, 0, 0⟩, []⟩, rg0, 0, 0, 0⟩
def sB2 : Sm := ⟨1, 2, 10, 2, ⟨1, ⟨1, 1, 0, 0, 0⟩, waO 1 1 0 5⟩, rg0, 5, 0, 0⟩
def sB3 : Sm := ⟨1, 3, 10, 2, ⟨1, ⟨1, 1, 0, 0, 0⟩, waO 1 1 0 5⟩, rg0, 5, 0, 0⟩
def sB4 : Sm := ⟨1, 3, 10, 2, ⟨1, ⟨1, 1, 0, 4, 0⟩, (waO 1 1 0 5).drop 4⟩, rg0, 5, 4, 0⟩
theorem sg1 : snR 1 1 1 1 10 2 = sB1 ∧ snE 1 1 1 1 10 2 = 0 := ⟨by kernel_rfl, by kernel_rfl⟩
theorem sg2 : swR sB1 1 (waO 1 1 0 5) = sB2 ∧ swE sB1 1 (waO 1 1 0 5) = 0 := ⟨by kernel_rfl, by kernel_rfl⟩
theorem sg3 : owE sB2 4 = 0 ∧ owN sB2 4 = 0 ∧ owE sB2 5 = 0 ∧ owN sB2 5 = 1 := ⟨by kernel_rfl, by kernel_rfl, by kernel_rfl, by kernel_rfl⟩
theorem sg4 : doR sB2 1 = sB3 ∧ doE sB2 1 = 0 := ⟨by kernel_rfl, by kernel_rfl⟩
theorem sg5 : skR sB3 4 = sB4 ∧ skE sB3 4 = 0 ∧ skX sB3 4 = 0 ∧ (skO sB3 4).length = 4 := ⟨by kernel_rfl, by kernel_rfl, by kernel_rfl, by kernel_rfl⟩
theorem sg6 : smN sB4 = 1 ∧ smO sB4 = 9 ∧ smV sB4 = true := ⟨by kernel_rfl, by kernel_rfl, by kernel_rfl⟩


theorem spec_sane  : Spec Try.prog 0 7 [] [] [] (vB true) [] [] := by
  refine spec_of_E (X := ⟨Try.prog, tt, Try.f7.ntmps, 1, fun _ => 0, (tab [(11, E_snew), (12, E_wave), (13, E_swrite), (28, E_sowes), (15, E_sdo), (17, E_stake), (25, E_swaiting), (24, E_sroom), (29, E_svalid)])⟩) (M := [(6, [0, 0, 0, 0, 0, 133040906977279, 0, 0, 0, 0, 0, 70368744194047, 0]), (7, [0, 0, 0, 0, 0, 83076749736557242051984341640167423, 0, 0, 0, 0, 0, 83076749736557241912372753191682047, 0, 0, 0, 0, 0, 83076749736557223609743867557986303, 0, 0, 0, 0, 0, 83076749736556651760677582561886207, 0, 0, 0, 0, 0, 83076749736481684192762026944118783, 0, 0, 0, 0, 0, 83076749731721538778029424568713215, 0, 0, 0, 0, 0, 83076749581814737145815406905147391, 0, 0, 0, 0, 0, 83076732405396692061164092679798783, 0, 0, 0, 0, 0, 83075640542282042355761631652233215, 0, 0, 0, 0, 0, 82995620098142635374792152262393855, 0, 0, 0, 0, 0, 77884452878022414427957444938317823, 0, 0, 0, 0])]) (m := 16383) rfl rfl ⟨tt_ok, tab_ok (tabs_cons E_snew_ok (tabs_cons E_wave_ok (tabs_cons E_swrite_ok (tabs_cons E_sowes_ok (tabs_cons E_sdo_ok (tabs_cons E_stake_ok (tabs_cons E_swaiting_ok (tabs_cons E_sroom_ok (tabs_cons E_svalid_ok tabs_nil))))))))) _ rfl rfl⟩ tt_mixed Try.func7 rfl (by decide) (by show (0 : Nat) ≤ _; exact Nat.le_of_ble_eq_true rfl) ⟨fun m hm => (V.bare_has rfl m hm).elim, by simp, by simp⟩ ?_
  simp only [↓gPre, gPost, gCore, gDef, Nat.reduceShiftRight, Nat.reduceMod, if_true, if_false, ↓reduceIte, reduceCtorEq, Nat.reduceEqDiff, Nat.reduceLT, Nat.reduceLeDiff, implies_true, forall_const, eq_self, ne_eq, not_true_eq_false, not_false_eq_true, imp_self, Nat.reduceAdd, Nat.reduceMul, Int.reduceLE, Int.reduceLT, Int.reduceNeg, Int.reduceAdd, Int.reduceToNat, E_snew_eq, E_wave_eq, E_swrite_eq, E_sowes_eq, E_sdo_eq, E_stake_eq, E_swaiting_eq, E_sroom_eq, E_svalid_eq, rg_eta, sm_eta, ph_eta, rs_eta, smD_eq, smC_eq, Try.ntmps7, Try.results7, gTT]
  refine ⟨by kernel_rfl, ?_⟩
  rw [sg1.1, sg1.2, sg2.1, sg2.2, sg3.1, sg3.2.1, sg3.2.2.1, sg3.2.2.2, sg4.1, sg4.2, sg5.1, sg5.2.1, sg5.2.2.1, sg5.2.2.2, sg6.1, sg6.2.1, sg6.2.2]
  decide +kernel
def E_sane : List V → Boxes → Toks → Name → Option Ent
  | [], [], [], _ => some ⟨True, vB true, [], []⟩
  | _, _, _, _ => none
def E_sane_eq := And.intro (@E_sane.eq_1) (@E_sane.eq_1)
theorem E_sane_ok : Snd Try.prog 7 E_sane := by
  intro vs b k n e h hn hp
  unfold E_sane at h
  split at h
  · cases h; exact (spec_sane ).lift rfl _
  · cases h

theorem spec_counts20 (u o : List UInt8) : Spec Try.prog 0 5 [vL (LB u), vL (LB o)] [] [] (vB true) [] [] := by
  refine spec_of_E (X := ⟨Try.prog, tt, Try.f5.ntmps, 1, fun _ => 0, (tab [(7, E_sane), (8, E_new), (10, E_next), (9, E_base), (11, E_snew), (15, E_sdo), (12, E_wave), (13, E_swrite), (24, E_sroom), (17, E_stake), (19, E_frames), (25, E_swaiting)])⟩) (M := [(6, [0, 0, 0, 0, 0, 1361129467683831265246357646135228366835, 0, 0, 0, 0, 0, 0]), (15, [0, 0, 0, 0, 0, 1361129467683831266412537748029988143091, 0, 0, 0, 0, 0, 1361129467683831266131801361658220904435, 0, 0]), (22, [0, 0, 0, 0, 0, 1361129467758417152613301807682834661363, 0, 0, 0, 0, 0, 1361129467743252387132055899315320389619, 0, 0]), (23, [0, 0, 0, 0, 0, 2722258934416847168928684024724707868659, 0, 0, 0, 0, 0, 2722258773108308289886492684269224984563, 0, 0, 0, 0, 0, 2722248550773868049444599014854576832499, 0, 0, 0, 0, 0, 2721646244338278009439689477280387301363, 0, 0, 0, 0, 0, 2706308199418166128625010391123871137779, 0, 0, 0, 0, 0]), (27, [0, 0, 0, 0, 0, 2854257187755075105269558969533004428107055091, 0, 0, 0, 0, 0, 2843346373942122134377069326120312212174929907, 0, 0, 0, 0, 0, 1427249053835427564889551215807141256545173491, 0])]) (m := 1361129467683831265246357646120162426867) rfl rfl ⟨tt_ok, tab_ok (tabs_cons E_sane_ok (tabs_cons E_new_ok (tabs_cons E_next_ok (tabs_cons E_base_ok (tabs_cons E_snew_ok (tabs_cons E_sdo_ok (tabs_cons E_wave_ok (tabs_cons E_swrite_ok (tabs_cons E_sroom_ok (tabs_cons E_stake_ok (tabs_cons E_frames_ok (tabs_cons E_swaiting_ok tabs_nil)))))))))))) _ rfl rfl⟩ tt_mixed Try.func5 rfl (by decide) (by show (2 : Nat) ≤ _; exact Nat.le_of_ble_eq_true rfl) ⟨fun m hm => (V.bare_has rfl m hm).elim, by simp, by simp⟩ ?_
  simp only [↓gPre, gPost, gCore, gDef, Nat.reduceShiftRight, Nat.reduceMod, if_true, if_false, ↓reduceIte, reduceCtorEq, Nat.reduceEqDiff, Nat.reduceLT, Nat.reduceLeDiff, implies_true, forall_const, eq_self, ne_eq, not_true_eq_false, not_false_eq_true, imp_self, Nat.reduceAdd, Nat.reduceMul, Int.reduceLE, Int.reduceLT, Int.reduceNeg, Int.reduceAdd, Int.reduceToNat, E_sane_eq, E_new_eq, E_next_eq, E_base_eq, E_snew_eq, E_sdo_eq, E_wave_eq, E_swrite_eq, E_sroom_eq, E_stake_eq, E_frames_eq, E_swaiting_eq, rg_eta, sm_eta, ph_eta, rs_eta, smD_eq, smC_eq, Try.ntmps5, Try.results5, gTT]
  refine fun h0 => ?_
  have hlen : o.length ≤ 20 := by have := of_decide_eq_false h0; omega
  have c1 := dN_lt (u.take 300) 2 (by decide)
  have c2 := dN_ge (u.take 300) 2
  rw [IntWalk.i64_in (1 + dN (u.take 300) 2) (by omega)]
  have hch : 1 ≤ 1 + dN (u.take 300) 2 ∧ 1 + dN (u.take 300) 2 ≤ 8 := by omega
  have hph := ba_ok (dT (u.take 300) 2)
  obtain ⟨n1, n2⟩ := new_ok (di := 1) (s0 := 0) (q := 50) hph hch (by decide) (by decide) (.inl rfl)
  obtain ⟨n3, n4⟩ := start_ok (di := 1) (q := 50) hph hch (by decide) (.inl rfl)
  rw [n1, n2, n3, n4]
  have hx1 := nw_S (st := 1) (q := 50) (s0 := 0) (di := 1) hph hch (by decide) (by decide) (by decide) (.inl rfl)
  have hx3 := nw_S (st := 3) (q := 50) (s0 := 0) (di := 1) hph hch (by decide) (by decide) (by decide) (.inl rfl)
  refine ⟨⟨hx1.lr, hx1.lg⟩, fun h => absurd h (by decide), fun _ => ?_⟩
  have hN0 : okN (nwS 1 (1 + dN (u.take 300) 2) (baN (dT (u.take 300) 2)) (baD (dT (u.take 300) 2)) 50 0 3) (1 + dN (u.take 300) 2) 0 := by
    refine ⟨hx3, rfl, rfl, ?_⟩
    show (0 : Int) = waN ⟨_, _, []⟩ + 0
    have hw := (waN_V (smB_in hx3.b).2.2.2.1 hx3.lr).1
    have h0 : waN (nwS 1 (1 + dN (u.take 300) 2) (baN (dT (u.take 300) 2)) (baD (dT (u.take 300) 2)) 50 0 3).r = 0 := by rw [hw]; simp [nwS]
    rw [Int.add_zero]
    exact h0.symm
  generalize nwS 1 (1 + dN (u.take 300) 2) (baN (dT (u.take 300) 2)) (baD (dT (u.take 300) 2)) 50 0 3 = x0 at *
  refine ELoop_keep (fun g => ⟨[(47, vI .i64 (g : Nat))], [(⟨1, 6⟩, [.d (.int .i64 (cnB x0 o g).di), .d (.int .i64 (cnB x0 o g).st), .d (.int .i64 (cnB x0 o g).q), .d (.int .i64 (cnB x0 o g).s0), .d (.int .i64 (cnB x0 o g).r.c), .d (.int .i64 (cnB x0 o g).r.p.n), .d (.int .i64 (cnB x0 o g).r.p.d), .d (.int .i64 (cnB x0 o g).r.p.a), .d (.int .i64 (cnB x0 o g).r.p.p), .d (.int .i64 (cnB x0 o g).r.p.f), .d (.list (LI .i32 (cnB x0 o g).r.l)), .d (.int .i64 (cnB x0 o g).g.c), .d (.int .i64 (cnB x0 o g).g.q), .d (.int .i64 (cnB x0 o g).g.w), .d (.int .i64 (cnB x0 o g).g.r), .d (.list (LI .i32 (cnB x0 o g).g.l)), .d (.int .i64 (cnB x0 o g).wr), .d (.int .i64 (cnB x0 o g).pl), .d (.int .i64 (cnB x0 o g).mi)])], []⟩) (fun g => g ≤ o.length) (fun g => o.length - g) (· + 1) 0 (Nat.zero_le _) ?_ ?_
  · simp only [↓gPre, gPost, gCore, gDef, Nat.reduceShiftRight, Nat.reduceMod, if_true, if_false, ↓reduceIte, reduceCtorEq, Nat.reduceEqDiff, Nat.reduceLT, Nat.reduceLeDiff, implies_true, forall_const, eq_self, ne_eq, not_true_eq_false, not_false_eq_true, imp_self, Nat.reduceAdd, Nat.reduceMul, Int.reduceLE, Int.reduceLT, Int.reduceNeg, Int.reduceAdd, Int.reduceToNat, E_sane_eq, E_new_eq, E_next_eq, E_base_eq, E_snew_eq, E_sdo_eq, E_wave_eq, E_swrite_eq, E_sroom_eq, E_stake_eq, E_frames_eq, E_swaiting_eq, rg_eta, sm_eta, ph_eta, rs_eta, smD_eq, smC_eq, Try.ntmps5, Try.results5, gTT]
    exact ⟨rfl, rfl, rfl, rfl, rfl, rfl, rfl, rfl, rfl, rfl, rfl, rfl, rfl, rfl, rfl, rfl, rfl, rfl, rfl, rfl⟩
  intro g hg
  simp only [↓gPre, gPost, gCore, gDef, Nat.reduceShiftRight, Nat.reduceMod, if_true, if_false, ↓reduceIte, reduceCtorEq, Nat.reduceEqDiff, Nat.reduceLT, Nat.reduceLeDiff, implies_true, forall_const, eq_self, ne_eq, not_true_eq_false, not_false_eq_true, imp_self, Nat.reduceAdd, Nat.reduceMul, Int.reduceLE, Int.reduceLT, Int.reduceNeg, Int.reduceAdd, Int.reduceToNat, E_sane_eq, E_new_eq, E_next_eq, E_base_eq, E_snew_eq, E_sdo_eq, E_wave_eq, E_swrite_eq, E_sroom_eq, E_stake_eq, E_frames_eq, E_swaiting_eq, rg_eta, sm_eta, ph_eta, rs_eta, smD_eq, smC_eq, Try.ntmps5, Try.results5, gTT]
  have hok := cn_ok (s := o) hch hN0 g (by omega)
  have hn := cnN_in (cnO o g)
  obtain ⟨w1, w2, w3, w4⟩ := cn_w hch g (cnO o g)
  have eo : o[g]?.getD 0 = cnO o g := rfl
  have hec := hok.ok.c
  have hst := hok.st
  have hlr := hok.ok.lr
  have hlg := hok.ok.lg
  rw [eo, cn_mach, hec]
  have hE := swE_all hok.ok (by omega) w2
  rw [w3] at hE
  have hwr := hok.ok.wr
  have hpl := hok.ok.pl
  have hmi := hok.ok.mi
  have b0 := smB_in hok.ok.b
  refine ⟨fun h1 => ⟨⟨by omega, of_decide_eq_true h1⟩, by decide, by decide, fun h2 => ⟨by kernel_rfl, ⟨⟨by omega, by omega⟩, ⟨by omega, by omega⟩, by omega, by omega⟩, ⟨hlr, hlg, by omega⟩, fun h3 => ⟨⟨hlr, hlg⟩, fun h4 => ?_, fun h4 => ?_⟩, fun h3 => ⟨fun h4 => ?_, fun h4 => ?_⟩⟩, fun h2 => ⟨⟨hlr, hlg⟩, fun _ => ?_, fun h3 => ?_, fun h3 => ?_⟩⟩, fun h1 => ?_⟩
  · have h5 := of_decide_eq_true h4
    rw [hE, if_neg (by omega)] at h3
    exact absurd h3 (by decide)
  · have he : (cnO o g).toNat % 2 = 0 := cn_even.1 h2
    have h5 : swE (cnB x0 o g) (1 + dN (u.take 300) 2) (waO g (1 + dN (u.take 300) 2) 0 (cnN (cnO o g)).toNat) = 10 := by simpa using h3
    have e1 : cnB x0 o (g + 1) = cnB x0 o g := by rw [cnB, if_pos he, hec, if_neg (by rw [h5]; decide)]
    have h1' := of_decide_eq_true h1
    rw [e1, hec]
    exact ⟨⟨(wrapN _ (by omega)).symm, rfl, rfl, rfl, rfl, rfl, rfl, rfl, rfl, rfl, rfl, rfl, rfl, rfl, rfl, rfl, rfl, rfl, rfl, rfl⟩, by omega, by omega⟩
  · by_cases hf : smO (cnB x0 o g) < cnN (cnO o g)
    · rw [hE, if_pos hf] at h3
      exact absurd h3 (by decide)
    · rw [if_neg hf] at hE
      obtain ⟨f1, f2, f3, f4⟩ := sw_fl hok.ok (by omega) (by omega) hE
      rw [hE, f1, w3, IntWalk.i64_in _ (by omega)] at h4
      simp at h4
  · by_cases hf : smO (cnB x0 o g) < cnN (cnO o g)
    · rw [hE, if_pos hf] at h3
      exact absurd h3 (by decide)
    · rw [if_neg hf] at hE
      have he : (cnO o g).toNat % 2 = 0 := cn_even.1 h2
      have e1 : cnB x0 o (g + 1) = swR (cnB x0 o g) (1 + dN (u.take 300) 2) (waO g (1 + dN (u.take 300) 2) 0 (cnN (cnO o g)).toNat) := by rw [cnB, if_pos he, hec, if_pos hE]
      have h1' := of_decide_eq_true h1
      rw [e1]
      exact ⟨⟨(wrapN _ (by omega)).symm, rfl, rfl, rfl, rfl, rfl, rfl, rfl, rfl, rfl, rfl, rfl, rfl, rfl, rfl, rfl, rfl, rfl, rfl, rfl⟩, by omega, by omega⟩
  · have := (skO_len hok.ok (by omega) (i := cnN (cnO o g)) (by omega)).2.1
    have h6 := Nat.mul_le_mul (show (cnN (cnO o g)).toNat ≤ 25 by omega) (show (1 + dN (u.take 300) 2).toNat ≤ 8 by omega)
    omega
  · have hs0 := sk_go hok.ok (by omega) (i := cnN (cnO o g)) (by omega)
    obtain ⟨l1, l2, l3⟩ := skO_len hok.ok (by omega) (i := cnN (cnO o g)) (by omega)
    obtain ⟨f1, f2, f3⟩ := sk_fl hok.ok (by omega) hst (i := cnN (cnO o g)) (by omega)
    have fr := frames_of hch l2 (by omega) l3
    have hnn : (((cnN (cnO o g)).toNat : Nat) : Int) = cnN (cnO o g) := by omega
    rw [hs0, l1, fr, hnn, f1, IntWalk.i64_in (_ + cnN (cnO o g)) (by omega), IntWalk.i64_in (_ + skX _ _) (by omega)] at h3
    simp at h3
    omega
  · have he : ¬ (cnO o g).toNat % 2 = 0 := fun h => by rw [cn_even.2 h] at h2; cases h2
    have e1 : cnB x0 o (g + 1) = skR (cnB x0 o g) (cnN (cnO o g)) := by rw [cnB, if_neg he]
    have h1' := of_decide_eq_true h1
    rw [e1]
    exact ⟨⟨(wrapN _ (by omega)).symm, rfl, rfl, rfl, rfl, rfl, rfl, rfl, rfl, rfl, rfl, rfl, rfl, rfl, rfl, rfl, rfl, rfl, rfl, rfl⟩, by omega, by omega⟩
  · have a1 := waN_V b0.2.2.2.1 hlr
    have p1 := (phV_in (rsV_in b0.2.2.2.1).1).2.2.2.1
    have f1 := hok.ok.pp
    have eN := hok.ok.N
    have eO : smO (cnB x0 o g) = (cnB x0 o g).q - smN (cnB x0 o g) := if_neg (by rw [hok.ok.v]; decide)
    have hq := hok.q
    have hw := hok.w
    refine ⟨by kernel_rfl, ⟨hlr, hlg⟩, fun _ => ⟨hlr, hlg⟩, fun _ => ⟨hlr, hlg⟩, ?_⟩
    rw [eO, eN, IntWalk.i64_in (_ + _) (by omega), IntWalk.i64_in (50 - _) (by omega)]
    symm
    simp only [Bool.and_eq_true, beq_iff_eq]
    omega

end Go.Vam
