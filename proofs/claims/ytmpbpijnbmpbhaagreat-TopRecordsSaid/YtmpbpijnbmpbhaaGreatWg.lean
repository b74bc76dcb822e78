/- A part of the proof. Conditions: none. -/
import Derived.Test.YtmpbpijnbmpbhaaGreatWf
set_option linter.unusedVariables false
set_option linter.defProp false
set_option linter.unusedSimpArgs false
set_option maxRecDepth 40000
set_option maxHeartbeats 4000000
namespace Go.Vam
open Go.Proofs
def mqE (n d : Int) : Int := if (decide (n < 1) || decide (d < 1)) = true then 1 else if (decide (68719476736 < n / gcdI n d) || decide (68719476736 < d / gcdI n d)) = true then 2 else 0
def mqN (n d : Int) : Int := if mqE n d = 0 then n / gcdI n d else 0
def mqD (n d : Int) : Int := if mqE n d = 0 then d / gcdI n d else 0
theorem gcdI_pos {n d : Int} (hn : 1 ≤ n) : 1 ≤ gcdI n d := by
  unfold gcdI
  have := Nat.gcd_pos_of_pos_left d.toNat (show 0 < n.toNat by omega)
  omega
structure okR (x : Rs) (ch : Int) : Prop where
  v : rsV x = true
  c : x.c = ch
  len : x.l.length ≤ 524288
theorem rs_len {x : Rs} (h : rsV x = true) (hl : x.l.length ≤ 1000000) : x.l.length ≤ 524288 := by
  obtain ⟨⟨k1, k2⟩, k3, k4, k5⟩ := blk_in (rsV_in h).2 hl
  have := Nat.mul_le_mul k4 (show x.c.toNat ≤ 8 by omega)
  omega
theorem phV_at {p : Ph} (h : phV p = true) {P F : Int} (hP : 0 ≤ P ∧ P ≤ 1125899906842624) (hF : 0 ≤ F ∧ F < prt p) : phV ⟨p.n, p.d, p.a, P, F⟩ = true := by
  simp only [phV, Bool.and_eq_true, decide_eq_true_eq] at h ⊢
  exact ⟨⟨⟨⟨h.1.1.1.1, hP.1⟩, hP.2⟩, hF.1⟩, hF.2⟩
theorem po_ok {x : Rs} {n : Int} (hv : rsV x = true) (hl : x.l.length ≤ 1000000) (he : poE x n = 0) : rsV (poR x n) = true ∧ (poR x n).c = x.c ∧ (poR x n).l.length ≤ x.l.length ∧ (poR x n).p = ⟨x.p.n, x.p.d, x.p.a, x.p.p + qAt x.p n, fAt x.p n⟩ ∧ (0 ≤ n ∧ n ≤ 65536) := by
  have hE : adE x.p n = 0 := he
  obtain ⟨h1, h2⟩ := adE_ok hE
  obtain ⟨hp, hn⟩ := phC_ok h1
  have hq := qAt_in hp hn
  have hpi := phV_in hp
  have h3 : x.p.p + qAt x.p n ≤ 1125899906842624 := by
    unfold adE at hE
    rw [if_pos h1] at hE
    have e : atP x.p n = x.p.p + qAt x.p n := by unfold atP; rw [if_pos h1]
    rw [e] at hE
    split at hE
    · cases hE
    · omega
  have e : poR x n = ⟨x.c, adP x.p n, x.l.drop (min x.l.length (qN x.p n.toNat * x.c.toNat))⟩ := by unfold poR; rw [if_pos he]
  obtain ⟨⟨k1, k2⟩, k3, k4, k5⟩ := blk_in (rsV_in hv).2 hl
  have hg := gone_min (q := qN x.p n.toNat) k3
  rw [e, h2]
  refine ⟨?_, rfl, by show (List.drop _ x.l).length ≤ _; rw [List.length_drop]; omega, rfl, hn⟩
  unfold rsV
  rw [phV_at hp (by omega) ⟨hq.2.1, hq.2.2.1⟩, Bool.true_and]
  refine blkV_mk (z := x.l.length / x.c.toNat - min (x.l.length / x.c.toNat) (qN x.p n.toNat)) ⟨k1, k2⟩ ?_ (Nat.le_trans (Nat.sub_le _ _) k4) ?_
  · show (List.drop _ x.l).length = _
    rw [List.length_drop, Nat.sub_mul, hg, ← k3]
  · rw [List.all_eq_true] at k5 ⊢
    intro y hy
    exact k5 y (List.mem_of_mem_drop hy)
theorem tkE_po {x : Rs} {n : Int} (h : tkE x n = 0) : rcE x n = 0 ∧ poE x n = 0 ∧ ned x.p n ≤ ((x.l.length / x.c.toNat : Nat) : Int) := by
  unfold tkE at h
  split at h
  · rename_i h1; exact absurd h h1
  · rename_i h1
    split at h
    · cases h
    · rename_i h2
      exact ⟨by simpa using h1, h, by omega⟩
theorem cvE_tk {x : Rs} {k : Int} {y : List Int} (h : cvE x k y = 0) : feE x k y = 0 ∧ tkE (feR x k y) (cvN x k y) = 0 := by
  unfold cvE at h
  split at h
  · rename_i h1; exact absurd h h1
  · rename_i h1; exact ⟨by simpa using h1, h⟩
theorem phV_adj {p : Ph} (h : phV p = true) {a : Int} (ha : -4096 ≤ a ∧ a ≤ 4096) : phV { p with a := a } = true := by
  simp only [phV, tuX, prt, Bool.and_eq_true, decide_eq_true_eq] at h ⊢
  exact ⟨⟨⟨⟨⟨⟨h.1.1.1.1.1.1, h.1.1.1.1.1.2⟩ , ha⟩, h.1.1.1.2⟩, h.1.1.2⟩, h.1.2⟩, h.2⟩
theorem blk_nil {ch : Int} (hc : 1 ≤ ch ∧ ch ≤ 8) : blkV ch [] = true := blkV_mk (z := 0) hc (by simp) (by decide) rfl
end Go.Vam
