/- A resampler as a place in a stream of frames. Conditions: none. -/
import Derived.Test.YtmlmgpnkemdilaaBdgI
set_option linter.unusedVariables false
set_option linter.unusedSimpArgs false
set_option maxRecDepth 40000
set_option maxHeartbeats 4000000
namespace Go.Vam
open Go.Proofs

/-- The phase after so many output frames. -/
def adv (p : Ph) (N : Nat) : Ph := ⟨p.n, p.d, p.a, p.p + qN p N, fAt p N⟩
theorem adv_zero {p : Ph} (h : phV p = true) : adv p 0 = p ∧ qN p 0 = 0 := by
  obtain ⟨_, _, _, _, h5, h6⟩ := phV_in h
  have hp := prt_in h
  have e : ahd p ((0 : Nat) : Int) = p.f := by unfold ahd; simp
  have q0 : qN p 0 = 0 := by
    unfold qN qAt
    rw [e, Int.ediv_eq_zero_of_lt h5.1 (by omega)]
    rfl
  have f0 : fAt p ((0 : Nat) : Int) = p.f := by
    unfold fAt
    rw [e, Int.emod_eq_of_lt h5.1 (by omega)]
  refine ⟨?_, q0⟩
  unfold adv
  rw [q0, f0]
  simp
theorem q_add {p : Ph} (h : phV p = true) {N i : Nat} (hN : N + i ≤ 65536) : qN p (N + i) = qN p N + qN (adv p N) i ∧ fAt (adv p N) i = fAt p ((N + i : Nat) : Int) := by
  have hp := prt_in h
  have hs := stp_in h
  have h1 := qAt_in h (n := (N : Int)) (by omega)
  have h2 := qN_eq h (g := N) (by omega)
  have e : ahd p ((N + i : Nat) : Int) = ahd (adv p N) i + prt p * qAt p N := by
    have e1 : ahd p ((N + i : Nat) : Int) = ahd p N + (i : Int) * stp p := by
      unfold ahd
      rw [Int.natCast_add, Int.add_mul]
      omega
    have e2 : ahd (adv p N) i = fAt p N + (i : Int) * stp p := rfl
    rw [e1, e2, h1.2.2.2, Int.mul_comm (prt p)]
    omega
  have hnn : 0 ≤ ahd (adv p N) i := by
    have e2 : ahd (adv p N) i = fAt p N + (i : Int) * stp p := rfl
    have := Int.mul_nonneg (Int.natCast_nonneg i) (show 0 ≤ stp p by omega)
    rw [e2]
    omega
  have hd : qAt p ((N + i : Nat) : Int) = qAt (adv p N) i + qAt p N := by
    unfold qAt
    rw [e, Int.add_mul_ediv_left _ _ (by omega)]
    rfl
  have hq : 0 ≤ qAt (adv p N) i := Int.ediv_nonneg hnn (by show 0 ≤ prt p; omega)
  constructor
  · unfold qN
    rw [hd]
    omega
  · unfold fAt
    rw [e, Int.add_mul_emod_self_left]
    rfl
theorem q_mono {p : Ph} (h : phV p = true) {i j : Nat} (hij : i ≤ j) : qN p i ≤ qN p j := by
  have := qAt_mono h (show (i : Int) ≤ (j : Int) by omega)
  unfold qN
  omega
theorem q_le_ned {p : Ph} (h : phV p = true) {n : Nat} (hn : n ≤ 65536) : (qN p n : Int) ≤ ned p n := by
  have h1 := qN_eq h hn
  unfold ned
  split
  · have : n = 0 := by omega
    subst this
    rw [(adv_zero h).2]
    exact Int.le_refl _
  · omega
theorem ned_zero (p : Ph) : ned p ((0 : Nat) : Int) = 0 := by simp [ned]
theorem ned_succ {p : Ph} (h : phV p = true) {n : Nat} (hn : n + 1 ≤ 65536) : (qN p n : Int) + 2 ≤ ned p ((n + 1 : Nat) : Int) := by
  have h1 := qN_eq h (g := n) (by omega)
  unfold ned
  rw [if_neg (by omega), show ((n + 1 : Nat) : Int) - 1 = (n : Int) by omega]
  omega
theorem ned_add {p : Ph} (h : phV p = true) {N k : Nat} (hk : 1 ≤ k) (hN : N + k ≤ 65536) : ned (adv p N) k = ned p ((N + k : Nat) : Int) - qN p N := by
  have a1 := (q_add h (N := N) (i := k) hN).1
  have a2 := (q_add h (N := N) (i := k - 1) (by omega)).1
  have e1 := qN_eq h (g := N + k) hN
  have e2 := qN_eq h (g := N + (k - 1)) (by omega)
  have hp := prt_in h
  have hs := stp_in h
  have hf := qAt_in h (n := (N : Int)) (by omega)
  have hq : ∀ i : Nat, 0 ≤ qAt (adv p N) i := fun i => by
    refine Int.ediv_nonneg ?_ (by show 0 ≤ prt p; omega)
    have e3 : ahd (adv p N) i = fAt p N + (i : Int) * stp p := rfl
    have := Int.mul_nonneg (Int.natCast_nonneg i) (show 0 ≤ stp p by omega)
    rw [e3]
    omega
  have q1 := hq k
  have q2 := hq (k - 1)
  have c1 : (k : Int) - 1 = ((k - 1 : Nat) : Int) := by omega
  have c2 : ((N + k : Nat) : Int) - 1 = ((N + (k - 1) : Nat) : Int) := by omega
  unfold ned
  rw [if_neg (by omega), if_neg (by omega), c1, c2, ← e1.1, ← e2.1]
  unfold qN at a1 a2 ⊢
  omega
theorem adv_V {p : Ph} (h : phV p = true) {N : Nat} (hN : N ≤ 65536) (hb : p.p + qN p N ≤ 1125899906842624) : phV (adv p N) = true := by
  have := qAt_in h (n := (N : Int)) (by omega)
  have hp := phV_in h
  exact phV_at h (by omega) ⟨this.2.1, this.2.2.1⟩
/-- How many can be made behind some. -/
theorem mk_add {p : Ph} (h : phV p = true) {N W : Nat} (hv : phV (adv p N) = true) (hN : ned p N ≤ W) (hN6 : N ≤ 65536) (hM : mkN p W < 65536) : N ≤ mkN p W ∧ qN p N ≤ W ∧ mkN (adv p N) ((W - qN p N : Nat) : Int) = mkN p W - N := by
  have hW : (0 : Int) ≤ W := Int.natCast_nonneg _
  have hqn := q_le_ned h hN6
  have h1 : N ≤ mkN p W := (mkN_iff h hW hN6).2 hN
  have hM1 := (mkN_iff h hW (k := mkN p W) (by omega)).1 (Nat.le_refl _)
  have hM2 : ¬ ned p ((mkN p W + 1 : Nat) : Int) ≤ W := fun h2 => by
    have := (mkN_iff h hW (k := mkN p W + 1) (by omega)).2 h2
    omega
  refine ⟨h1, by omega, ?_⟩
  generalize mkN p W = M at *
  have hw' : (0 : Int) ≤ ((W - qN p N : Nat) : Int) := Int.natCast_nonneg _
  have ha := mkN_iff hv hw' (k := M - N) (by omega)
  have hb := mkN_iff hv hw' (k := M - N + 1) (by omega)
  have hb2 : ¬ (M - N + 1 ≤ mkN (adv p N) ((W - qN p N : Nat) : Int)) := fun h2 => by
    have h3 := hb.1 h2
    rw [ned_add h (by omega) (by omega), show N + (M - N + 1) = M + 1 by omega] at h3
    omega
  have ha2 : M - N ≤ mkN (adv p N) ((W - qN p N : Nat) : Int) := ha.2 (by
    by_cases h4 : M - N = 0
    · rw [h4, ned_zero]; exact hw'
    · rw [ned_add h (by omega) (by omega), show N + (M - N) = M by omega]
      omega)
  omega
/-- The state behind some frames in and some frames out; what came out. -/
def stR (p : Ph) (c : Int) (s : List Int) (N : Nat) : Rs := ⟨c, adv p N, s.drop (qN p N * c.toNat)⟩
def ocX (p : Ph) (c : Int) (s : List Int) (i ch : Nat) : Int := btw (s[qN p i * c.toNat + ch]?.getD 0) (s[(qN p i + 1) * c.toNat + ch]?.getD 0) (fAt p i) (prt p)
def ooL (p : Ph) (c : Int) (s : List Int) : Nat → List Int
  | 0 => []
  | N + 1 => ooL p c s N ++ (List.range c.toNat).map (ocX p c s N)
theorem ooL_len (p : Ph) (c : Int) (s : List Int) : ∀ N, (ooL p c s N).length = N * c.toNat
  | 0 => by simp [ooL]
  | N + 1 => by rw [ooL, List.length_append, ooL_len p c s N, List.length_map, List.length_range, Nat.add_mul, Nat.one_mul]
theorem ooL_more {p : Ph} (h : phV p = true) {c : Int} {s y : List Int} {W : Nat} (hs : s.length = W * c.toNat) : ∀ N : Nat, N ≤ 65536 → ned p N ≤ W → ooL p c (s ++ y) N = ooL p c s N
  | 0, _, _ => rfl
  | N + 1, hN, hW => by
    have h1 := ned_succ h hN
    have h2 : ned p N ≤ ned p ((N + 1 : Nat) : Int) := ned_mono h (by omega) (by omega) (by omega)
    rw [ooL, ooL, ooL_more h hs N (by omega) (by omega)]
    congr 1
    apply List.map_congr_left
    intro ch hch
    rw [List.mem_range] at hch
    have h3 : (qN p N + 2) * c.toNat ≤ W * c.toNat := Nat.mul_le_mul_right _ (by omega)
    have h4 : (qN p N + 2) * c.toNat = qN p N * c.toNat + 2 * c.toNat := Nat.add_mul ..
    have h5 : (qN p N + 1) * c.toNat = qN p N * c.toNat + c.toNat := by rw [Nat.add_mul, Nat.one_mul]
    unfold ocX
    rw [List.getElem?_append_left (by omega), List.getElem?_append_left (by omega)]
theorem stR_zero {p : Ph} (h : phV p = true) (c : Int) (s : List Int) : stR p c s 0 = ⟨c, p, s⟩ := by
  unfold stR
  rw [(adv_zero h).1, (adv_zero h).2, Nat.zero_mul, List.drop_zero]
theorem stR_V {p : Ph} (h : phV p = true) {c : Int} {s : List Int} {W N : Nat} (hc : 1 ≤ c ∧ c ≤ 8) (hs : s.length = W * c.toNat) (ha : s.all smpX = true) (hW : W ≤ 65536) (hN6 : N ≤ 65536) (hN : ned p N ≤ W) (hp : p.p + W ≤ 1125899906842624) :
    rsV (stR p c s N) = true ∧ (stR p c s N).l.length = (W - qN p N) * c.toNat ∧ (stR p c s N).l.length / c.toNat = W - qN p N ∧ qN p N ≤ W := by
  have hq := q_le_ned h hN6
  have hl : (stR p c s N).l.length = (W - qN p N) * c.toNat := by
    show (List.drop _ s).length = _
    rw [List.length_drop, hs, Nat.sub_mul]
  refine ⟨?_, hl, by rw [hl, Nat.mul_div_cancel _ (by omega)], by omega⟩
  unfold rsV
  have h1 : phV (stR p c s N).p = true := adv_V h hN6 (by omega)
  rw [h1, Bool.true_and]
  refine blkV_mk hc hl (by omega) ?_
  rw [List.all_eq_true] at ha ⊢
  intro x hx
  exact ha x (List.mem_of_mem_drop hx)
theorem fe_step {p : Ph} (h : phV p = true) {c : Int} {s y : List Int} {W V N : Nat} (hc : 1 ≤ c ∧ c ≤ 8) (hs : s.length = W * c.toNat) (ha : s.all smpX = true) (hy : y.length = V * c.toNat) (hya : y.all smpX = true) (hW : W + V ≤ 65536) (hN6 : N ≤ 65536) (hN : ned p N ≤ W) (hp : p.p + W ≤ 1125899906842624) :
    feE (stR p c s N) c y = 0 ∧ feR (stR p c s N) c y = stR p c (s ++ y) N := by
  obtain ⟨v1, v2, v3, v4⟩ := stR_V h hc hs ha (by omega) hN6 hN hp
  have e0 : feE (stR p c s N) c y = 0 := by
    unfold feE
    have hb : blkV c y = true := blkV_mk hc hy (by omega) hya
    have hd : ((stR p c s N).l.length + y.length) / (stR p c s N).c.toNat = W - qN p N + V := by
      show _ / c.toNat = _
      rw [v2, hy, ← Nat.add_mul, Nat.mul_div_cancel _ (by omega)]
    rw [if_neg (by rw [v1, hb]; decide), if_neg (by show ¬ (c ≠ c); simp), if_neg (by rw [hd]; omega)]
  refine ⟨e0, ?_⟩
  unfold feR
  rw [if_pos e0]
  unfold stR
  rw [List.drop_append_of_le_length (by rw [hs]; exact Nat.mul_le_mul_right _ v4)]
theorem tk_step {p : Ph} (h : phV p = true) {c : Int} {s : List Int} {W N n : Nat} (hc : 1 ≤ c ∧ c ≤ 8) (hs : s.length = W * c.toNat) (ha : s.all smpX = true) (hW : W ≤ 65536) (hN : N + n ≤ 65536) (hM : ned p ((N + n : Nat) : Int) ≤ W) (hp : p.p + W ≤ 1125899906842624) :
    tkE (stR p c s N) n = 0 ∧ tkC (stR p c s N) n = c ∧ tkR (stR p c s N) n = stR p c s (N + n) ∧ ooL p c s N ++ tkO (stR p c s N) n = ooL p c s (N + n) := by
  have hN0 : ned p N ≤ W := Int.le_trans (ned_mono h (by omega) (by omega) (by omega)) hM
  obtain ⟨v1, v2, v3, v4⟩ := stR_V h hc hs ha hW (by omega) hN0 hp
  have hq := (q_add h (N := N) (i := n) hN).1
  have hqn := q_le_ned h hN
  have hva : phV (adv p N) = true := (rsV_in v1).1
  have hqa := qN_eq hva (g := n) (by omega)
  have e0 : rcE (stR p c s N) n = 0 := rcE_of v1 (by omega)
  have e1 : ned (adv p N) n ≤ ((W - qN p N : Nat) : Int) := by
    by_cases hn : n = 0
    · subst hn; rw [ned_zero]; exact Int.natCast_nonneg _
    · rw [ned_add h (by omega) hN]; omega
  have e2 : poE (stR p c s N) n = 0 := by
    have h0 : phC (adv p N) n = 0 := phC_of hva (by omega)
    have h1 : atP (adv p N) n = p.p + qN p (N + n) := by
      have h2 : atP (adv p N) n = (adv p N).p + qAt (adv p N) n := by unfold atP; rw [if_pos h0]
      rw [h2, ← hqa.1, hq]
      show p.p + (qN p N : Int) + _ = _
      omega
    show adE (adv p N) n = 0
    unfold adE
    rw [if_pos h0, h1, if_neg (by omega)]
  have eE : tkE (stR p c s N) n = 0 := by
    unfold tkE
    rw [if_neg (by rw [e0]; decide), if_neg ?_, e2]
    show ¬ (((stR p c s N).l.length / c.toNat : Nat) : Int) < ned (adv p N) n
    rw [v3]; omega
  refine ⟨eE, by unfold tkC; rw [if_pos eE]; rfl, ?_, ?_⟩
  · obtain ⟨_, h2⟩ := adE_ok (p := (stR p c s N).p) (n := n) e2
    have e3 : tkR (stR p c s N) n = ⟨c, adP (adv p N) n, ((s.drop (qN p N * c.toNat)).drop (min (stR p c s N).l.length (qN (adv p N) n * c.toNat)))⟩ := by
      unfold tkR
      rw [if_pos eE]
      unfold poR
      rw [if_pos e2]
      rfl
    have hle : qN (adv p N) n * c.toNat ≤ (stR p c s N).l.length := by rw [v2]; exact Nat.mul_le_mul_right _ (by omega)
    rw [e3, Nat.min_eq_right hle, List.drop_drop, ← Nat.add_mul, ← hq]
    have h3 : adP (adv p N) n = adv p (N + n) := by
      have : adP (adv p N) n = _ := h2
      rw [this]
      show (⟨p.n, p.d, p.a, p.p + (qN p N : Int) + qAt (adv p N) n, fAt (adv p N) n⟩ : Ph) = ⟨p.n, p.d, p.a, p.p + (qN p (N + n) : Int), fAt p ((N + n : Nat) : Int)⟩
      rw [(q_add h (N := N) (i := n) hN).2, ← hqa.1, hq]
      congr 1
      omega
    rw [h3]
    rfl
  · have e4 : tkO (stR p c s N) n = outO (stR p c s N) n := by unfold tkO; rw [if_pos eE]; rfl
    rw [e4]
    have key : ∀ m : Nat, m ≤ n → ooL p c s N ++ outO (stR p c s N) m = ooL p c s (N + m) := by
      intro m
      induction m with
      | zero => intro _; simp [outO]
      | succ m ih =>
        intro hm
        have hmm := q_add h (N := N) (i := m) (by omega)
        have hns := ned_succ h (n := N + m) (by omega)
        have hle2 : ned p ((N + m + 1 : Nat) : Int) ≤ ned p ((N + n : Nat) : Int) := ned_mono h (by omega) (by omega) (by omega)
        have e5 : ooL p c s (N + (m + 1)) = ooL p c s (N + m) ++ (List.range c.toNat).map (ocX p c s (N + m)) := rfl
        have e6 : outO (stR p c s N) (m + 1) = outO (stR p c s N) m ++ outF (stR p c s N) m c.toNat := rfl
        rw [e5, e6, ← List.append_assoc, ih (by omega)]
        congr 1
        apply List.map_congr_left
        intro ch hch
        rw [List.mem_range] at hch
        have hfr : ∀ k : Nat, k + 1 ≤ W - qN p N → gx (stR p c s N) k ch = s[(qN p N + k) * c.toNat + ch]?.getD 0 := fun k hk => by
          have h5 : (k + 1) * c.toNat ≤ (W - qN p N) * c.toNat := Nat.mul_le_mul_right _ hk
          have h6 : (k + 1) * c.toNat = k * c.toNat + c.toNat := by rw [Nat.add_mul, Nat.one_mul]
          have h7 : frA (stR p c s N) k = k * c.toNat := by
            unfold frA
            show min (k * c.toNat) ((stR p c s N).l.length - c.toNat) = _
            rw [v2]; omega
          unfold gx
          rw [h7]
          show ((s.drop (qN p N * c.toNat))[k * c.toNat + ch]?).getD 0 = _
          rw [List.getElem?_drop, Nat.add_mul, Nat.add_assoc]
        have g1 := hfr (qN (adv p N) m) (by omega)
        have g2 := hfr (qN (adv p N) m + 1) (by omega)
        show btw (gx (stR p c s N) (qN (adv p N) m) ch) (gx (stR p c s N) (qN (adv p N) m + 1) ch) (fAt (adv p N) m) (prt (adv p N)) = btw _ _ _ _
        rw [g1, g2, hmm.2, ← Nat.add_assoc, ← hmm.1]
        rfl
    exact key n (Nat.le_refl _)
/-- A conversion: fed, and taken what can be taken. -/
theorem cv_step {p : Ph} (h : phV p = true) {c : Int} {s y : List Int} {W V N : Nat} (hc : 1 ≤ c ∧ c ≤ 8) (hs : s.length = W * c.toNat) (ha : s.all smpX = true) (hy : y.length = V * c.toNat) (hya : y.all smpX = true) (hW : W + V ≤ 65536) (hN6 : N ≤ 65536) (hN : ned p N ≤ W) (hp : p.p + (W + V : Nat) ≤ 1125899906842624) (hM : mkN p ((W + V : Nat) : Int) < 65536) :
    cvE (stR p c s N) c y = 0 ∧ cvC (stR p c s N) c y = c ∧ cvR (stR p c s N) c y = stR p c (s ++ y) (mkN p ((W + V : Nat) : Int)) ∧ ooL p c s N ++ cvO (stR p c s N) c y = ooL p c (s ++ y) (mkN p ((W + V : Nat) : Int)) := by
  obtain ⟨f1, f2⟩ := fe_step h hc hs ha hy hya hW hN6 hN (by omega)
  have hs2 : (s ++ y).length = (W + V) * c.toNat := by rw [List.length_append, hs, hy, Nat.add_mul]
  have ha2 : (s ++ y).all smpX = true := by rw [List.all_append, ha, hya]; rfl
  have hN2 : ned p N ≤ ((W + V : Nat) : Int) := by omega
  obtain ⟨v1, v2, v3, v4⟩ := stR_V h hc hs2 ha2 hW hN6 hN2 hp
  obtain ⟨m1, m2, m3⟩ := mk_add h (rsV_in v1).1 hN2 hN6 hM
  have hM1 := (mkN_iff h (Int.natCast_nonneg _) (k := mkN p ((W + V : Nat) : Int)) (by omega)).1 (Nat.le_refl _)
  have hn : cvN (stR p c s N) c y = ((mkN p ((W + V : Nat) : Int) - N : Nat) : Int) := by
    unfold cvN
    rw [f2]
    show ((mkN (adv p N) (((stR p c (s ++ y) N).l.length / c.toNat : Nat) : Int) : Nat) : Int) = _
    rw [v3, m3]
  generalize mkN p ((W + V : Nat) : Int) = M at *
  have hNM : N + (M - N) = M := by omega
  obtain ⟨t1, t2, t3, t4⟩ := tk_step h (N := N) (n := M - N) hc hs2 ha2 hW (by omega) (by rw [hNM]; exact hM1) hp
  rw [hNM] at t3 t4
  have eE : cvE (stR p c s N) c y = 0 := by unfold cvE; rw [if_neg (by rw [f1]; decide), f2, hn, t1]
  refine ⟨eE, by unfold cvC; rw [if_pos eE]; rfl, ?_, ?_⟩
  · have e1 : cvR (stR p c s N) c y = tkR (stR p c (s ++ y) N) ((M - N : Nat) : Int) := by
      unfold cvR tkR
      rw [if_pos eE, if_pos t1, f2, hn]
    rw [e1, t3]
  · have e1 : cvO (stR p c s N) c y = tkO (stR p c (s ++ y) N) ((M - N : Nat) : Int) := by
      unfold cvO tkO
      rw [if_pos eE, if_pos t1, f2, hn]
    rw [e1, ← ooL_more h hs N hN6 hN, t4]
/-- Few frames do not make very many. -/
theorem mk_few {p : Ph} (h : phV p = true) (hr : p.d ≤ 200 * p.n) {W : Nat} (hW : W ≤ 300) : mkN p (W : Int) < 65536 := by
  obtain ⟨h1, h2, h3, _, h5, h6⟩ := phV_in h
  have hs := stp_in h
  have hp := prt_in h
  have hq : 300 < qAt p 65536 := by
    have e : 301 * prt p ≤ ahd p 65536 := by
      have e1 : 61440 * p.n ≤ stp p := by
        rw [hs.1, Int.mul_comm]
        exact Int.mul_le_mul_of_nonneg_left (by omega) (by omega)
      unfold ahd
      omega
    have := Int.le_ediv_of_mul_le (by omega) e
    unfold qAt
    omega
  have hn : ¬ ned p ((65536 : Nat) : Int) ≤ (W : Int) := by
    unfold ned
    rw [if_neg (by decide)]
    show ¬ max _ (qAt p 65536) ≤ _
    omega
  have h7 := mkN_le h (n := (W : Int)) (Int.natCast_nonneg _)
  have h8 := mkN_iff h (n := (W : Int)) (Int.natCast_nonneg _) (k := 65536) (Nat.le_refl _)
  have h9 : ¬ 65536 ≤ mkN p (W : Int) := fun h => hn (h8.1 h)
  omega


end Go.Vam
