/- A converter as a place in a stream of bytes. Conditions: none. -/
import Derived.Test.YtjciocipdoophaaGreatCvL
set_option linter.unusedVariables false
set_option linter.defProp false
set_option linter.unusedSimpArgs false
set_option maxRecDepth 40000
set_option maxHeartbeats 4000000
namespace Go.Vam
open Go.Proofs

/-- The phase after so many output frames. -/
def adv (p : Ph) (N : Nat) : Ph := ⟨p.n, p.d, p.a, p.p + qN p N, fAt p N⟩
theorem adv_zero {p : Ph} (h : phV p = true) : adv p 0 = p ∧ qN p 0 = 0 := by
  obtain ⟨_, _, _, _, h5, h6⟩ := phV_in h
  have hp := prt_in h
  have e : ahd p ((0 : Nat) : Int) = p.f := by unfold ahd; simp
  have q0 : qN p 0 = 0 := by
    unfold qN qAt
    rw [e, Int.ediv_eq_zero_of_lt h5.1 (by omega)]
    rfl
  have f0 : fAt p ((0 : Nat) : Int) = p.f := by
    unfold fAt
    rw [e, Int.emod_eq_of_lt h5.1 (by omega)]
  refine ⟨?_, q0⟩
  unfold adv
  rw [q0, f0]
  simp
theorem q_add {p : Ph} (h : phV p = true) {N i : Nat} (hN : N + i ≤ 65536) : qN p (N + i) = qN p N + qN (adv p N) i ∧ fAt (adv p N) i = fAt p ((N + i : Nat) : Int) := by
  have hp := prt_in h
  have hs := stp_in h
  have h1 := qAt_in h (n := (N : Int)) (by omega)
  have h2 := qN_eq h (g := N) (by omega)
  have e : ahd p ((N + i : Nat) : Int) = ahd (adv p N) i + prt p * qAt p N := by
    have e1 : ahd p ((N + i : Nat) : Int) = ahd p N + (i : Int) * stp p := by
      unfold ahd
      rw [Int.natCast_add, Int.add_mul]
      omega
    have e2 : ahd (adv p N) i = fAt p N + (i : Int) * stp p := rfl
    rw [e1, e2, h1.2.2.2, Int.mul_comm (prt p)]
    omega
  have hnn : 0 ≤ ahd (adv p N) i := by
    have e2 : ahd (adv p N) i = fAt p N + (i : Int) * stp p := rfl
    have := Int.mul_nonneg (Int.natCast_nonneg i) (show 0 ≤ stp p by omega)
    rw [e2]
    omega
  have hd : qAt p ((N + i : Nat) : Int) = qAt (adv p N) i + qAt p N := by
    unfold qAt
    rw [e, Int.add_mul_ediv_left _ _ (by omega)]
    rfl
  have hq : 0 ≤ qAt (adv p N) i := Int.ediv_nonneg hnn (by show 0 ≤ prt p; omega)
  constructor
  · unfold qN
    rw [hd]
    omega
  · unfold fAt
    rw [e, Int.add_mul_emod_self_left]
    rfl
theorem q_mono {p : Ph} (h : phV p = true) {i j : Nat} (hij : i ≤ j) : qN p i ≤ qN p j := by
  have := qAt_mono h (show (i : Int) ≤ (j : Int) by omega)
  unfold qN
  omega
theorem q_le_ned {p : Ph} (h : phV p = true) {n : Nat} (hn : n ≤ 65536) : (qN p n : Int) ≤ ned p n := by
  have h1 := qN_eq h hn
  unfold ned
  split
  · have : n = 0 := by omega
    subst this
    rw [(adv_zero h).2]
    exact Int.le_refl _
  · omega
theorem ned_zero (p : Ph) : ned p ((0 : Nat) : Int) = 0 := by simp [ned]
theorem ned_succ {p : Ph} (h : phV p = true) {n : Nat} (hn : n + 1 ≤ 65536) : (qN p n : Int) + 2 ≤ ned p ((n + 1 : Nat) : Int) := by
  have h1 := qN_eq h (g := n) (by omega)
  unfold ned
  rw [if_neg (by omega), show ((n + 1 : Nat) : Int) - 1 = (n : Int) by omega]
  omega
theorem ned_add {p : Ph} (h : phV p = true) {N k : Nat} (hk : 1 ≤ k) (hN : N + k ≤ 65536) : ned (adv p N) k = ned p ((N + k : Nat) : Int) - qN p N := by
  have a1 := (q_add h (N := N) (i := k) hN).1
  have a2 := (q_add h (N := N) (i := k - 1) (by omega)).1
  have e1 := qN_eq h (g := N + k) hN
  have e2 := qN_eq h (g := N + (k - 1)) (by omega)
  have hp := prt_in h
  have hs := stp_in h
  have hf := qAt_in h (n := (N : Int)) (by omega)
  have hq : ∀ i : Nat, 0 ≤ qAt (adv p N) i := fun i => by
    refine Int.ediv_nonneg ?_ (by show 0 ≤ prt p; omega)
    have e3 : ahd (adv p N) i = fAt p N + (i : Int) * stp p := rfl
    have := Int.mul_nonneg (Int.natCast_nonneg i) (show 0 ≤ stp p by omega)
    rw [e3]
    omega
  have q1 := hq k
  have q2 := hq (k - 1)
  have c1 : (k : Int) - 1 = ((k - 1 : Nat) : Int) := by omega
  have c2 : ((N + k : Nat) : Int) - 1 = ((N + (k - 1) : Nat) : Int) := by omega
  unfold ned
  rw [if_neg (by omega), if_neg (by omega), c1, c2, ← e1.1, ← e2.1]
  unfold qN at a1 a2 ⊢
  omega
theorem adv_V {p : Ph} (h : phV p = true) {N : Nat} (hN : N ≤ 65536) (hb : p.p + qN p N ≤ 1125899906842624) : phV (adv p N) = true := by
  have := qAt_in h (n := (N : Int)) (by omega)
  have hp := phV_in h
  exact phV_at h (by omega) ⟨this.2.1, this.2.2.1⟩
/-- How many can be made behind some. -/
theorem mk_add {p : Ph} (h : phV p = true) {N W : Nat} (hv : phV (adv p N) = true) (hN : ned p N ≤ W) (hN6 : N ≤ 65536) (hM : mkN p W < 65536) : N ≤ mkN p W ∧ qN p N ≤ W ∧ mkN (adv p N) ((W - qN p N : Nat) : Int) = mkN p W - N := by
  have hW : (0 : Int) ≤ W := Int.natCast_nonneg _
  have hqn := q_le_ned h hN6
  have h1 : N ≤ mkN p W := (mkN_iff h hW hN6).2 hN
  have hM1 := (mkN_iff h hW (k := mkN p W) (by omega)).1 (Nat.le_refl _)
  have hM2 : ¬ ned p ((mkN p W + 1 : Nat) : Int) ≤ W := fun h2 => by
    have := (mkN_iff h hW (k := mkN p W + 1) (by omega)).2 h2
    omega
  refine ⟨h1, by omega, ?_⟩
  generalize mkN p W = M at *
  have hw' : (0 : Int) ≤ ((W - qN p N : Nat) : Int) := Int.natCast_nonneg _
  have ha := mkN_iff hv hw' (k := M - N) (by omega)
  have hb := mkN_iff hv hw' (k := M - N + 1) (by omega)
  have hb2 : ¬ (M - N + 1 ≤ mkN (adv p N) ((W - qN p N : Nat) : Int)) := fun h2 => by
    have h3 := hb.1 h2
    rw [ned_add h (by omega) (by omega), show N + (M - N + 1) = M + 1 by omega] at h3
    omega
  have ha2 : M - N ≤ mkN (adv p N) ((W - qN p N : Nat) : Int) := ha.2 (by
    by_cases h4 : M - N = 0
    · rw [h4, ned_zero]; exact hw'
    · rw [ned_add h (by omega) (by omega), show N + (M - N) = M by omega]
      omega)
  omega
/-- The state behind some frames in and some frames out; what came out. -/
def stR (p : Ph) (c : Int) (s : List Int) (N : Nat) : Rs := ⟨c, adv p N, s.drop (qN p N * c.toNat)⟩
def ocX (p : Ph) (c : Int) (s : List Int) (i ch : Nat) : Int := btw (s[qN p i * c.toNat + ch]?.getD 0) (s[(qN p i + 1) * c.toNat + ch]?.getD 0) (fAt p i) (prt p)
def ooL (p : Ph) (c : Int) (s : List Int) : Nat → List Int
  | 0 => []
  | N + 1 => ooL p c s N ++ (List.range c.toNat).map (ocX p c s N)
theorem ooL_len (p : Ph) (c : Int) (s : List Int) : ∀ N, (ooL p c s N).length = N * c.toNat
  | 0 => by simp [ooL]
  | N + 1 => by rw [ooL, List.length_append, ooL_len p c s N, List.length_map, List.length_range, Nat.add_mul, Nat.one_mul]
theorem ooL_more {p : Ph} (h : phV p = true) {c : Int} {s y : List Int} {W : Nat} (hs : s.length = W * c.toNat) : ∀ N : Nat, N ≤ 65536 → ned p N ≤ W → ooL p c (s ++ y) N = ooL p c s N
  | 0, _, _ => rfl
  | N + 1, hN, hW => by
    have h1 := ned_succ h hN
    have h2 : ned p N ≤ ned p ((N + 1 : Nat) : Int) := ned_mono h (by omega) (by omega) (by omega)
    rw [ooL, ooL, ooL_more h hs N (by omega) (by omega)]
    congr 1
    apply List.map_congr_left
    intro ch hch
    rw [List.mem_range] at hch
    have h3 : (qN p N + 2) * c.toNat ≤ W * c.toNat := Nat.mul_le_mul_right _ (by omega)
    have h4 : (qN p N + 2) * c.toNat = qN p N * c.toNat + 2 * c.toNat := Nat.add_mul ..
    have h5 : (qN p N + 1) * c.toNat = qN p N * c.toNat + c.toNat := by rw [Nat.add_mul, Nat.one_mul]
    unfold ocX
    rw [List.getElem?_append_left (by omega), List.getElem?_append_left (by omega)]
theorem stR_zero {p : Ph} (h : phV p = true) (c : Int) (s : List Int) : stR p c s 0 = ⟨c, p, s⟩ := by
  unfold stR
  rw [(adv_zero h).1, (adv_zero h).2, Nat.zero_mul, List.drop_zero]
theorem stR_V {p : Ph} (h : phV p = true) {c : Int} {s : List Int} {W N : Nat} (hc : 1 ≤ c ∧ c ≤ 8) (hs : s.length = W * c.toNat) (ha : s.all smpX = true) (hW : W ≤ 65536) (hN6 : N ≤ 65536) (hN : ned p N ≤ W) (hp : p.p + W ≤ 1125899906842624) :
    rsV (stR p c s N) = true ∧ (stR p c s N).l.length = (W - qN p N) * c.toNat ∧ (stR p c s N).l.length / c.toNat = W - qN p N ∧ qN p N ≤ W := by
  have hq := q_le_ned h hN6
  have hl : (stR p c s N).l.length = (W - qN p N) * c.toNat := by
    show (List.drop _ s).length = _
    rw [List.length_drop, hs, Nat.sub_mul]
  refine ⟨?_, hl, by rw [hl, Nat.mul_div_cancel _ (by omega)], by omega⟩
  unfold rsV
  have h1 : phV (stR p c s N).p = true := adv_V h hN6 (by omega)
  rw [h1, Bool.true_and]
  refine blkV_mk hc hl (by omega) ?_
  rw [List.all_eq_true] at ha ⊢
  intro x hx
  exact ha x (List.mem_of_mem_drop hx)
theorem fe_step {p : Ph} (h : phV p = true) {c : Int} {s y : List Int} {W V N : Nat} (hc : 1 ≤ c ∧ c ≤ 8) (hs : s.length = W * c.toNat) (ha : s.all smpX = true) (hy : y.length = V * c.toNat) (hya : y.all smpX = true) (hW : W + V ≤ 65536) (hN6 : N ≤ 65536) (hN : ned p N ≤ W) (hp : p.p + W ≤ 1125899906842624) :
    feE (stR p c s N) c y = 0 ∧ feR (stR p c s N) c y = stR p c (s ++ y) N := by
  obtain ⟨v1, v2, v3, v4⟩ := stR_V h hc hs ha (by omega) hN6 hN hp
  have e0 : feE (stR p c s N) c y = 0 := by
    unfold feE
    have hb : blkV c y = true := blkV_mk hc hy (by omega) hya
    have hd : ((stR p c s N).l.length + y.length) / (stR p c s N).c.toNat = W - qN p N + V := by
      show _ / c.toNat = _
      rw [v2, hy, ← Nat.add_mul, Nat.mul_div_cancel _ (by omega)]
    rw [if_neg (by rw [v1, hb]; decide), if_neg (by show ¬ (c ≠ c); simp), if_neg (by rw [hd]; omega)]
  refine ⟨e0, ?_⟩
  unfold feR
  rw [if_pos e0]
  unfold stR
  rw [List.drop_append_of_le_length (by rw [hs]; exact Nat.mul_le_mul_right _ v4)]
theorem tk_step {p : Ph} (h : phV p = true) {c : Int} {s : List Int} {W N n : Nat} (hc : 1 ≤ c ∧ c ≤ 8) (hs : s.length = W * c.toNat) (ha : s.all smpX = true) (hW : W ≤ 65536) (hN : N + n ≤ 65536) (hM : ned p ((N + n : Nat) : Int) ≤ W) (hp : p.p + W ≤ 1125899906842624) :
    tkE (stR p c s N) n = 0 ∧ tkC (stR p c s N) n = c ∧ tkR (stR p c s N) n = stR p c s (N + n) ∧ ooL p c s N ++ tkO (stR p c s N) n = ooL p c s (N + n) := by
  have hN0 : ned p N ≤ W := Int.le_trans (ned_mono h (by omega) (by omega) (by omega)) hM
  obtain ⟨v1, v2, v3, v4⟩ := stR_V h hc hs ha hW (by omega) hN0 hp
  have hq := (q_add h (N := N) (i := n) hN).1
  have hqn := q_le_ned h hN
  have hva : phV (adv p N) = true := (rsV_in v1).1
  have hqa := qN_eq hva (g := n) (by omega)
  have e0 : rcE (stR p c s N) n = 0 := rcE_of v1 (by omega)
  have e1 : ned (adv p N) n ≤ ((W - qN p N : Nat) : Int) := by
    by_cases hn : n = 0
    · subst hn; rw [ned_zero]; exact Int.natCast_nonneg _
    · rw [ned_add h (by omega) hN]; omega
  have e2 : poE (stR p c s N) n = 0 := by
    have h0 : phC (adv p N) n = 0 := phC_of hva (by omega)
    have h1 : atP (adv p N) n = p.p + qN p (N + n) := by
      have h2 : atP (adv p N) n = (adv p N).p + qAt (adv p N) n := by unfold atP; rw [if_pos h0]
      rw [h2, ← hqa.1, hq]
      show p.p + (qN p N : Int) + _ = _
      omega
    show adE (adv p N) n = 0
    unfold adE
    rw [if_pos h0, h1, if_neg (by omega)]
  have eE : tkE (stR p c s N) n = 0 := by
    unfold tkE
    rw [if_neg (by rw [e0]; decide), if_neg ?_, e2]
    show ¬ (((stR p c s N).l.length / c.toNat : Nat) : Int) < ned (adv p N) n
    rw [v3]; omega
  refine ⟨eE, by unfold tkC; rw [if_pos eE]; rfl, ?_, ?_⟩
  · obtain ⟨_, h2⟩ := adE_ok (p := (stR p c s N).p) (n := n) e2
    have e3 : tkR (stR p c s N) n = ⟨c, adP (adv p N) n, ((s.drop (qN p N * c.toNat)).drop (min (stR p c s N).l.length (qN (adv p N) n * c.toNat)))⟩ := by
      unfold tkR
      rw [if_pos eE]
      unfold poR
      rw [if_pos e2]
      rfl
    have hle : qN (adv p N) n * c.toNat ≤ (stR p c s N).l.length := by rw [v2]; exact Nat.mul_le_mul_right _ (by omega)
    rw [e3, Nat.min_eq_right hle, List.drop_drop, ← Nat.add_mul, ← hq]
    have h3 : adP (adv p N) n = adv p (N + n) := by
      have : adP (adv p N) n = _ := h2
      rw [this]
      show (⟨p.n, p.d, p.a, p.p + (qN p N : Int) + qAt (adv p N) n, fAt (adv p N) n⟩ : Ph) = ⟨p.n, p.d, p.a, p.p + (qN p (N + n) : Int), fAt p ((N + n : Nat) : Int)⟩
      rw [(q_add h (N := N) (i := n) hN).2, ← hqa.1, hq]
      congr 1
      omega
    rw [h3]
    rfl
  · have e4 : tkO (stR p c s N) n = outO (stR p c s N) n := by unfold tkO; rw [if_pos eE]; rfl
    rw [e4]
    have key : ∀ m : Nat, m ≤ n → ooL p c s N ++ outO (stR p c s N) m = ooL p c s (N + m) := by
      intro m
      induction m with
      | zero => intro _; simp [outO]
      | succ m ih =>
        intro hm
        have hmm := q_add h (N := N) (i := m) (by omega)
        have hns := ned_succ h (n := N + m) (by omega)
        have hle2 : ned p ((N + m + 1 : Nat) : Int) ≤ ned p ((N + n : Nat) : Int) := ned_mono h (by omega) (by omega) (by omega)
        have e5 : ooL p c s (N + (m + 1)) = ooL p c s (N + m) ++ (List.range c.toNat).map (ocX p c s (N + m)) := rfl
        have e6 : outO (stR p c s N) (m + 1) = outO (stR p c s N) m ++ outF (stR p c s N) m c.toNat := rfl
        rw [e5, e6, ← List.append_assoc, ih (by omega)]
        congr 1
        apply List.map_congr_left
        intro ch hch
        rw [List.mem_range] at hch
        have hfr : ∀ k : Nat, k + 1 ≤ W - qN p N → gx (stR p c s N) k ch = s[(qN p N + k) * c.toNat + ch]?.getD 0 := fun k hk => by
          have h5 : (k + 1) * c.toNat ≤ (W - qN p N) * c.toNat := Nat.mul_le_mul_right _ hk
          have h6 : (k + 1) * c.toNat = k * c.toNat + c.toNat := by rw [Nat.add_mul, Nat.one_mul]
          have h7 : frA (stR p c s N) k = k * c.toNat := by
            unfold frA
            show min (k * c.toNat) ((stR p c s N).l.length - c.toNat) = _
            rw [v2]; omega
          unfold gx
          rw [h7]
          show ((s.drop (qN p N * c.toNat))[k * c.toNat + ch]?).getD 0 = _
          rw [List.getElem?_drop, Nat.add_mul, Nat.add_assoc]
        have g1 := hfr (qN (adv p N) m) (by omega)
        have g2 := hfr (qN (adv p N) m + 1) (by omega)
        show btw (gx (stR p c s N) (qN (adv p N) m) ch) (gx (stR p c s N) (qN (adv p N) m + 1) ch) (fAt (adv p N) m) (prt (adv p N)) = btw _ _ _ _
        rw [g1, g2, hmm.2, ← Nat.add_assoc, ← hmm.1]
        rfl
    exact key n (Nat.le_refl _)
/-- A conversion: fed, and taken what can be taken. -/
theorem cv_step {p : Ph} (h : phV p = true) {c : Int} {s y : List Int} {W V N : Nat} (hc : 1 ≤ c ∧ c ≤ 8) (hs : s.length = W * c.toNat) (ha : s.all smpX = true) (hy : y.length = V * c.toNat) (hya : y.all smpX = true) (hW : W + V ≤ 65536) (hN6 : N ≤ 65536) (hN : ned p N ≤ W) (hp : p.p + (W + V : Nat) ≤ 1125899906842624) (hM : mkN p ((W + V : Nat) : Int) < 65536) :
    cvE (stR p c s N) c y = 0 ∧ cvC (stR p c s N) c y = c ∧ cvR (stR p c s N) c y = stR p c (s ++ y) (mkN p ((W + V : Nat) : Int)) ∧ ooL p c s N ++ cvO (stR p c s N) c y = ooL p c (s ++ y) (mkN p ((W + V : Nat) : Int)) := by
  obtain ⟨f1, f2⟩ := fe_step h hc hs ha hy hya hW hN6 hN (by omega)
  have hs2 : (s ++ y).length = (W + V) * c.toNat := by rw [List.length_append, hs, hy, Nat.add_mul]
  have ha2 : (s ++ y).all smpX = true := by rw [List.all_append, ha, hya]; rfl
  have hN2 : ned p N ≤ ((W + V : Nat) : Int) := by omega
  obtain ⟨v1, v2, v3, v4⟩ := stR_V h hc hs2 ha2 hW hN6 hN2 hp
  obtain ⟨m1, m2, m3⟩ := mk_add h (rsV_in v1).1 hN2 hN6 hM
  have hM1 := (mkN_iff h (Int.natCast_nonneg _) (k := mkN p ((W + V : Nat) : Int)) (by omega)).1 (Nat.le_refl _)
  have hn : cvN (stR p c s N) c y = ((mkN p ((W + V : Nat) : Int) - N : Nat) : Int) := by
    unfold cvN
    rw [f2]
    show ((mkN (adv p N) (((stR p c (s ++ y) N).l.length / c.toNat : Nat) : Int) : Nat) : Int) = _
    rw [v3, m3]
  generalize mkN p ((W + V : Nat) : Int) = M at *
  have hNM : N + (M - N) = M := by omega
  obtain ⟨t1, t2, t3, t4⟩ := tk_step h (N := N) (n := M - N) hc hs2 ha2 hW (by omega) (by rw [hNM]; exact hM1) hp
  rw [hNM] at t3 t4
  have eE : cvE (stR p c s N) c y = 0 := by unfold cvE; rw [if_neg (by rw [f1]; decide), f2, hn, t1]
  refine ⟨eE, by unfold cvC; rw [if_pos eE]; rfl, ?_, ?_⟩
  · have e1 : cvR (stR p c s N) c y = tkR (stR p c (s ++ y) N) ((M - N : Nat) : Int) := by
      unfold cvR tkR
      rw [if_pos eE, if_pos t1, f2, hn]
    rw [e1, t3]
  · have e1 : cvO (stR p c s N) c y = tkO (stR p c (s ++ y) N) ((M - N : Nat) : Int) := by
      unfold cvO tkO
      rw [if_pos eE, if_pos t1, f2, hn]
    rw [e1, ← ooL_more h hs N hN6 hN, t4]
/-- Few frames do not make very many. -/
theorem mk_few {p : Ph} (h : phV p = true) (hr : p.d ≤ 200 * p.n) {W : Nat} (hW : W ≤ 300) : mkN p (W : Int) < 65536 := by
  obtain ⟨h1, h2, h3, _, h5, h6⟩ := phV_in h
  have hs := stp_in h
  have hp := prt_in h
  have hq : 300 < qAt p 65536 := by
    have e : 301 * prt p ≤ ahd p 65536 := by
      have e1 : 61440 * p.n ≤ stp p := by
        rw [hs.1, Int.mul_comm]
        exact Int.mul_le_mul_of_nonneg_left (by omega) (by omega)
      unfold ahd
      omega
    have := Int.le_ediv_of_mul_le (by omega) e
    unfold qAt
    omega
  have hn : ¬ ned p ((65536 : Nat) : Int) ≤ (W : Int) := by
    unfold ned
    rw [if_neg (by decide)]
    show ¬ max _ (qAt p 65536) ≤ _
    omega
  have h7 := mkN_le h (n := (W : Int)) (Int.natCast_nonneg _)
  have h8 := mkN_iff h (n := (W : Int)) (Int.natCast_nonneg _) (k := 65536) (Nat.le_refl _)
  have h9 : ¬ 65536 ≤ mkN p (W : Int) := fun h => hn (h8.1 h)
  omega


theorem mkN_eq {p : Ph} (h : phV p = true) {n : Int} (h0 : 0 ≤ n) {k : Nat} (hk : k < 65536) (h1 : ned p k ≤ n) (h2 : n < ned p ((k + 1 : Nat) : Int)) : mkN p n = k := by
  have a := (mkN_iff h h0 (show k ≤ 65536 by omega)).2 h1
  have b := mkN_iff h h0 (show k + 1 ≤ 65536 by omega)
  have : ¬ (k + 1 ≤ mkN p n) := fun h => by have := b.1 h; omega
  omega

theorem ooL_at (p : Ph) (c : Int) (s : List Int) : ∀ N z j : Nat, z < N → j < c.toNat → (ooL p c s N)[z * c.toNat + j]?.getD 0 = ocX p c s z j
  | 0, z, j, hz, _ => absurd hz (Nat.not_lt_zero _)
  | N + 1, z, j, hz, hj => by
    have hl := ooL_len p c s N
    rw [ooL]
    by_cases h : z < N
    · have : z * c.toNat + j < N * c.toNat := by
        have := Nat.mul_le_mul_right c.toNat (show z + 1 ≤ N from h)
        rw [Nat.add_mul, Nat.one_mul] at this
        omega
      rw [List.getElem?_append_left (by omega)]
      exact ooL_at p c s N z j h hj
    · have : z = N := by omega
      subst this
      rw [List.getElem?_append_right (by omega), hl, Nat.add_sub_cancel_left, List.getElem?_map, List.getElem?_range hj]
      rfl
/-- How far the last frames reach; the end comes ahead of the bound. -/
theorem q_far {p : Ph} (h : phV p = true) (hr : p.d ≤ 200 * p.n) : 300 ≤ qAt p 65535 := by
  obtain ⟨h1, h2, h3, _, h5, h6⟩ := phV_in h
  have hs := stp_in h
  have hp := prt_in h
  have e : 300 * prt p ≤ ahd p 65535 := by
    have e1 : 61440 * p.n ≤ stp p := by
      rw [hs.1, Int.mul_comm]
      exact Int.mul_le_mul_of_nonneg_left (by omega) (by omega)
    unfold ahd
    omega
  have := Int.le_ediv_of_mul_le (by omega) e
  unfold qAt
  omega
/-- At the end nothing waits. -/
theorem fi_all {x : Rs} (hv : rsV x = true) (hl : x.l.length ≤ 1000000) (hr : x.p.d ≤ 200 * x.p.n) (hw : x.l.length / x.c.toNat ≤ 299) (hp : x.p.p ≤ 1000000000000) : fiE x 65536 = 0 ∧ (fiR x 65536).l = [] := by
  obtain ⟨⟨k1, k2⟩, k3, k4, k5⟩ := blk_in (rsV_in hv).2 hl
  have hpv := (rsV_in hv).1
  have hci := cnt_in hv hl (n := 65536) (by decide)
  have hlt : cnt x 65536 < 65536 := by
    have h1 := cnt_iff hv (n := 65536) (k := 65535) (by decide)
    have h2 := q_far hpv hr
    have h3 : (((65535 : Nat)) : Int) = 65535 := rfl
    rw [h3] at h1
    have h4 : ¬ qAt x.p 65535 < ((x.l.length / x.c.toNat : Nat) : Int) := by omega
    have h5 : ¬ (65535 : Int) < cnt x 65536 := fun h => h4 (h1.2 h)
    omega
  have hq := cnt_iff hv (n := 65536) (k := (cnt x 65536).toNat) (by omega)
  have hcn : ((cnt x 65536).toNat : Int) = cnt x 65536 := by omega
  rw [hcn] at hq
  have hq2 : ((x.l.length / x.c.toNat : Nat) : Int) ≤ qAt x.p (cnt x 65536) := by
    have : ¬ qAt x.p (cnt x 65536) < ((x.l.length / x.c.toNat : Nat) : Int) := fun h => Int.lt_irrefl _ (hq.1 h)
    omega
  have hq3 := qAt_in hpv (n := cnt x 65536) (by omega)
  have hpi := phV_in hpv
  have e0 : rcE x 65536 = 0 := rcE_of hv (by decide)
  have e2 : poE x (cnt x 65536) = 0 := by
    have h0 : phC x.p (cnt x 65536) = 0 := phC_of hpv (by omega)
    have h1 : atP x.p (cnt x 65536) = x.p.p + qAt x.p (cnt x 65536) := by unfold atP; rw [if_pos h0]
    unfold poE adE
    rw [if_pos h0, h1, if_neg (by omega)]
  have eE : fiE x 65536 = 0 := by unfold fiE; rw [if_neg (by rw [e0]; decide), e2]
  refine ⟨eE, ?_⟩
  unfold fiR
  rw [if_pos eE]
  unfold poR
  rw [if_pos e2]
  show List.drop _ x.l = []
  have hqN : x.l.length / x.c.toNat ≤ qN x.p (cnt x 65536).toNat := by
    have := qN_eq hpv (g := (cnt x 65536).toNat) (by omega)
    rw [hcn] at this
    omega
  have := gone_min (q := qN x.p (cnt x 65536).toNat) k3
  rw [Nat.min_eq_left hqN, ← k3] at this
  rw [← this]
  exact List.drop_length
theorem ooL_all {p : Ph} (h : phV p = true) (c : Int) {s : List Int} (ha : s.all smpX = true) : ∀ N : Nat, N ≤ 65536 → (ooL p c s N).all smpX = true
  | 0, _ => rfl
  | N + 1, hN => by
    rw [ooL, List.all_append, ooL_all h c ha N (by omega), Bool.true_and, List.all_eq_true]
    intro x hx
    rw [List.mem_map] at hx
    obtain ⟨j, _, rfl⟩ := hx
    have hp := prt_in h
    have hq := qAt_in h (n := (N : Int)) (by omega)
    have := btw_in (a := s[qN p N * c.toNat + j]?.getD 0) (b := s[(qN p N + 1) * c.toNat + j]?.getD 0) (f := fAt p N) (P := prt p) (by omega) ⟨hq.2.1, hq.2.2.1⟩ (smp_get ha _) (smp_get ha _)
    simp only [smpX, Bool.and_eq_true, decide_eq_true_eq]
    exact this


def P1 : Ph := ⟨1, 1, 0, 0, 0⟩
theorem p1_V : phV P1 = true := by decide +kernel
theorem p1_q (k : Int) : qAt P1 k = k ∧ fAt P1 k = 0 := by
  have e : ahd P1 k = k * 65536 := by
    unfold ahd
    have h1 : stp P1 = 65536 := by decide
    rw [h1]
    show (0 : Int) + _ = _
    omega
  have h2 : prt P1 = 65536 := by decide
  unfold qAt fAt
  rw [e, h2]
  omega
theorem p1_qN (k : Nat) : qN P1 k = k := by unfold qN; rw [(p1_q k).1]; rfl
theorem p1_mk {F : Nat} (h1 : 1 ≤ F) (h2 : F ≤ 60000) : mkN P1 (F : Int) = F - 1 := by
  refine mkN_eq p1_V (by omega) (by omega) ?_ ?_
  · unfold ned
    split
    · omega
    · rw [(p1_q _).1, (p1_q _).1]; omega
  · unfold ned
    rw [if_neg (by omega), (p1_q _).1, (p1_q _).1]
    omega
theorem btw_zero (a b : Int) {P : Int} (hP : 0 < P) : btw a b 0 P = a := by
  unfold btw
  rw [Int.sub_zero, Int.mul_zero, Int.add_zero, Int.add_comm, Int.add_mul_ediv_right _ _ (by omega), Int.ediv_eq_zero_of_lt (by omega) (by omega), Int.zero_add]
theorem btw_same (a f : Int) {P : Int} (hP : 0 < P) : btw a a f P = a := by
  unfold btw
  have e : a * (P - f) + a * f = a * P := by rw [← Int.mul_add]; congr 1; omega
  rw [e, Int.add_comm, Int.add_mul_ediv_right _ _ (by omega), Int.ediv_eq_zero_of_lt (by omega) (by omega), Int.zero_add]
theorem oo_const {p : Ph} (h : phV p = true) {c : Int} {a : Int} {W : Nat} : ∀ N : Nat, N ≤ 65536 → ned p N ≤ W → ∀ x ∈ ooL p c (List.replicate (W * c.toNat) a) N, x = a
  | 0, _, _, x, hx => by cases hx
  | N + 1, hN, hW, x, hx => by
    have h1 := ned_succ h hN
    have h2 : ned p N ≤ ned p ((N + 1 : Nat) : Int) := ned_mono h (by omega) (by omega) (by omega)
    have hp := prt_in h
    rw [ooL, List.mem_append] at hx
    rcases hx with hx | hx
    · exact oo_const h N (by omega) (by omega) x hx
    · rw [List.mem_map] at hx
      obtain ⟨ch, hch, rfl⟩ := hx
      rw [List.mem_range] at hch
      have h3 : (qN p N + 2) * c.toNat ≤ W * c.toNat := Nat.mul_le_mul_right _ (by omega)
      have h4 : (qN p N + 2) * c.toNat = qN p N * c.toNat + 2 * c.toNat := Nat.add_mul ..
      have h5 : (qN p N + 1) * c.toNat = qN p N * c.toNat + c.toNat := by rw [Nat.add_mul, Nat.one_mul]
      unfold ocX
      rw [List.getElem?_replicate, if_pos (by omega), List.getElem?_replicate, if_pos (by omega)]
      exact btw_same _ _ (by omega)


def idL (n : Nat) : List Int := (List.range (n * n)).map fun j => if j / n = j % n then 32768 else 0

theorem dotN_comm (f g : Nat → Int) : ∀ n, dotN f g n = dotN g f n
  | 0 => rfl
  | n + 1 => by
    show dotN f g n + f n * g n = dotN g f n + g n * f n
    rw [dotN_comm f g n, Int.mul_comm]
theorem dotN_pick {f g : Nat → Int} {r : Nat} {v : Int} : ∀ n, (∀ c, c < n → f c = if c = r then v else 0) → dotN f g n = if r < n then v * g r else 0
  | 0, _ => rfl
  | n + 1, h => by
    have ih := dotN_pick (f := f) (g := g) n (fun c hc => h c (by omega))
    show dotN f g n + f n * g n = _
    rw [ih, h n (by omega)]
    by_cases e : n = r
    · subst e; simp
    · rw [if_neg e, Int.zero_mul, Int.add_zero]
      by_cases h1 : r < n
      · rw [if_pos h1, if_pos (by omega)]
      · rw [if_neg h1, if_neg (by omega)]
theorem dotN_congr {f f' g g' : Nat → Int} : ∀ n, (∀ c, c < n → f c = f' c ∧ g c = g' c) → dotN f g n = dotN f' g' n
  | 0, _ => rfl
  | n + 1, h => by
    show dotN f g n + f n * g n = dotN f' g' n + f' n * g' n
    rw [dotN_congr n (fun c hc => h c (by omega)), (h n (by omega)).1, (h n (by omega)).2]
theorem atL_idL {n i j : Nat} (hi : i < n) (hj : j < n) : atL (idL n) (i * n + j) = if i = j then 32768 else 0 := by
  have hb : i * n + j < n * n := cell_lt hj hi
  unfold atL idL
  have e1 : (i * n + j) % n = j := by rw [Nat.add_comm, Nat.add_mul_mod_self_right, Nat.mod_eq_of_lt hj]
  have e2 : (i * n + j) / n = i := by rw [Nat.add_comm, Nat.add_mul_div_right _ _ (by omega), Nat.div_eq_of_lt hj, Nat.zero_add]
  rw [List.getElem?_map, List.getElem?_range hb]
  show (if (i * n + j) / n = (i * n + j) % n then (32768 : Int) else 0) = _
  rw [e1, e2]
theorem rnd (x : Int) : (32768 * x + 16384) / 32768 = x := by omega
theorem satG_self {x : Int} (h : -8388608 ≤ x ∧ x ≤ 8388607) : satG x = x := by unfold satG; omega
theorem ext_cells {A n : Nat} {l l' : List Int} (hA : 0 < A) (h1 : l.length = n) (h2 : l'.length = n) (h : ∀ q r, r < A → q * A + r < n → atL l (q * A + r) = atL l' (q * A + r)) : l = l' := by
  apply List.ext_getElem (by rw [h1, h2])
  intro j hj hj'
  have e : j = j / A * A + j % A := by rw [Nat.mul_comm]; exact (Nat.div_add_mod j A).symm
  have := h (j / A) (j % A) (Nat.mod_lt _ hA) (by omega)
  rw [← e] at this
  unfold atL at this
  rw [List.getElem?_eq_getElem hj, List.getElem?_eq_getElem hj'] at this
  exact this
theorem atL_map {f : Nat → Int} {n j : Nat} (h : j < n) : atL ((List.range n).map f) j = f j := by
  unfold atL
  rw [List.getElem?_map, List.getElem?_range h]; rfl
theorem idP_one {P : Nat} {l : List Int} (hP : 0 < P) (hl : l.all smpX = true) (hd : l.length = l.length / P * P) : apL P P (idL P) l (l.length / P * P) = l := by
  refine ext_cells hP (apL_len ..) hd fun q r hr hj => ?_
  unfold apL
  rw [atL_map hj, apV_at hr, dotN_pick (r := r) (v := 32768) P (fun c hc => by rw [atL_idL hr hc]; by_cases e : r = c <;> simp [e, eq_comm]), if_pos hr, rnd]
  exact satG_self (getS hl _)
theorem mxV_of {a b : Int} {l : List Int} (ha : 1 ≤ a ∧ a ≤ 8) (hb : 1 ≤ b ∧ b ≤ 8) (hl : l.length = (a * b).toNat) (hx : l.all coefX = true) : mxV a b l = true := by
  have hm := mul88 ha hb
  unfold mxV mxB
  rw [hl, hx, IntWalk.i64_in (a * b) (by omega), Bool.and_true, Bool.not_eq_true']
  simp only [Bool.or_eq_false_iff, decide_eq_false_iff_not, bne_eq_false_iff_eq]
  omega
theorem maps_id : ∀ n, n < 7 → dfE (mapsL[n]?.getD []) (mapsL[n]?.getD []) = 0 ∧ dfO (mapsL[n]?.getD []) (mapsL[n]?.getD []) = idL (mapsL[n]?.getD []).length ∧ 1 ≤ (mapsL[n]?.getD []).length ∧ (mapsL[n]?.getD []).length ≤ 8 := by decide +kernel
theorem map_id (l : List UInt8) : dfE (mapV l) (mapV l) = 0 ∧ dfO (mapV l) (mapV l) = idL (mapV l).length ∧ 1 ≤ (mapV l).length ∧ (mapV l).length ≤ 8 := maps_id _ (by have := dN_ge l 7; have := dN_lt l 7 (by decide); omega)


theorem apL_all (a b : Nat) (m l : List Int) (n : Nat) : (apL a b m l n).all smpX = true := by
  rw [List.all_eq_true]
  intro x hx
  simp only [apL, List.mem_map] at hx
  obtain ⟨i, _, rfl⟩ := hx
  have := satG_in ((dotN (fun c => atL m (i % b * a + c)) (fun c => atL l (i / b * a + c)) a + 16384) / 32768)
  simp only [smpX, apV, Bool.and_eq_true]
  exact ⟨decide_eq_true this.1, decide_eq_true this.2⟩
theorem ap_perm {A : Nat} {M l : List Int} {σ : Nat → Nat} (hA : 0 < A) (hσ : ∀ r, r < A → σ r < A) (h : ∀ r, r < A → ∀ c, c < A → atL M (r * A + c) = if c = σ r then 32768 else 0) (hl : l.all smpX = true) {n q r : Nat} (hr : r < A) (hj : q * A + r < n) : atL (apL A A M l n) (q * A + r) = atL l (q * A + σ r) := by
  unfold apL
  rw [atL_map hj, apV_at hr, dotN_pick (r := σ r) (v := 32768) A (fun c hc => h r hr c hc), if_pos (hσ r hr), rnd]
  exact satG_self (getS hl _)
def rotL (p : List Int) (k : Nat) : List Int := p.drop k ++ p.take k
def ordF (p q : List Int) : Prop := dfE p q = 0 ∧ dfE q p = 0 ∧ mxV p.length p.length (dfO p q) = true ∧ mxV p.length p.length (dfO q p) = true ∧ q.length = p.length ∧ (1 ≤ p.length ∧ p.length ≤ 8) ∧
  ∀ r, r < p.length → (∀ c, c < p.length → atL (dfO p q) (r * p.length + c) = if c = (idxL p (q[r]?.getD 0)).toNat then 32768 else 0) ∧ (∀ c, c < p.length → atL (dfO q p) (r * p.length + c) = if c = (idxL q (p[r]?.getD 0)).toNat then 32768 else 0) ∧
    0 ≤ idxL p (q[r]?.getD 0) ∧ (idxL p (q[r]?.getD 0)).toNat < p.length ∧ (idxL q (p[r]?.getD 0)).toNat < p.length ∧ (idxL p (q[(idxL q (p[r]?.getD 0)).toNat]?.getD 0)).toNat = r
instance (p q : List Int) : Decidable (ordF p q) := by unfold ordF; infer_instance
theorem maps_rot : ∀ n, n < 7 → ∀ k, k < (mapsL[n]?.getD []).length → ordF (mapsL[n]?.getD []) (rotL (mapsL[n]?.getD []) k) := by decide +kernel
theorem maps_len : ∀ n, n < 7 → 0 < (mapsL[n]?.getD []).length := by decide +kernel
theorem map_len (l : List UInt8) : 0 < (mapV l).length := maps_len _ (by have := dN_ge l 7; have := dN_lt l 7 (by decide); omega)
theorem map_rot (l : List UInt8) {k : Nat} (hk : k < (mapV l).length) : ordF (mapV l) (rotL (mapV l) k) := maps_rot _ (by have := dN_ge l 7; have := dN_lt l 7 (by decide); omega) k hk
theorem blkV_of {c : Int} {l : List Int} (hc : 1 ≤ c ∧ c ≤ 8) (hd : l.length = l.length / c.toNat * c.toNat) (hl : l.length ≤ 65536) (hs : l.all smpX = true) : blkV c l = true := by
  unfold blkV
  have hch : chBk c l.length = false := by
    have e : c = (c.toNat : Int) := by omega
    have hz : l.length / c.toNat ≤ l.length := Nat.div_le_self ..
    generalize l.length / c.toNat = z at *
    unfold chBk
    have e2 : ((l.length : Nat) : Int) = (z : Int) * c := by rw [hd, Int.natCast_mul, ← e]
    rw [e2, Int.mul_tmod_left, Int.mul_tdiv_cancel _ (by omega), IntWalk.i64_in _ (by omega)]
    simp only [Bool.or_eq_false_iff, decide_eq_false_iff_not, bne_self_eq_false, and_true]
    omega
  rw [hch, hs]; rfl

/-- The phase between two rates; the frame's bytes. -/
def phB (x y : Fm) : Ph := ⟨mqN x.r y.r, mqD x.r y.r, 0, 0, 0⟩
def fz (x : Fm) : Nat := (szK x.k).toNat * x.m.length
theorem fz_eq {x : Fm} (h : fmV x = true) : fmZ x = ((fz x : Nat) : Int) ∧ 1 ≤ fz x ∧ fz x ≤ 32 := by
  have h1 := fm_in h
  have h2 := fm_big h
  have e : szK x.k * (x.m.length : Int) = ((fz x : Nat) : Int) := by
    unfold fz
    rw [Int.natCast_mul]
    congr 1
    omega
  unfold fmZ
  rw [if_pos h, e]
  rw [e] at h2
  omega
/-- Two formats between which much is known. -/
structure Ok16 (x y : Fm) : Prop where
  hx : fmV x = true
  hy : fmV y = true
  hp : phV (phB x y) = true
  hr : (phB x y).d ≤ 50 * (phB x y).n
  hm : mxV x.m.length y.m.length (dfO x.m y.m) = true
theorem ok_ch {x y : Fm} (H : Ok16 x y) : dfE x.m y.m = 0 ∧ (1 ≤ x.m.length ∧ x.m.length ≤ 8) ∧ (1 ≤ y.m.length ∧ y.m.length ≤ 8) := by
  have h1 := fm_in H.hx
  have h2 := fm_in H.hy
  refine ⟨?_, h1.2.2.2, h2.2.2.2⟩
  unfold dfE
  rw [h1.2.2.1, h2.2.2.1]
  rfl
theorem chk_left {s n i : Nat} {b c : List UInt8} (hb : b.length = n * s) (hi : i < n) : chk s (b ++ c) i = chk s b i := by
  have h : (i + 1) * s ≤ n * s := Nat.mul_le_mul_right _ hi
  rw [Nat.add_mul, Nat.one_mul] at h
  unfold chk
  rw [List.drop_append_of_le_length (by omega), List.take_append_of_le_length (by rw [List.length_drop]; omega)]
theorem chk_right {s n i : Nat} {b c : List UInt8} (hb : b.length = n * s) : chk s (b ++ c) (n + i) = chk s c i := by
  unfold chk
  rw [Nat.add_mul, ← hb, List.drop_append]
  have : List.drop (b.length + i * s) b = [] := List.drop_of_length_le (by omega)
  rw [this, Nat.add_sub_cancel_left]
  rfl
theorem decL_app {k : Int} {b c : List UInt8} {n : Nat} (m : Nat) (hb : b.length = n * (szK k).toNat) : decL k (b ++ c) (n + m) = decL k b n ++ decL k c m := by
  unfold decL
  rw [List.range_add, List.map_append, List.map_map]
  congr 1
  · apply List.map_congr_left
    intro i hi
    rw [List.mem_range] at hi
    rw [chk_left hb hi]
  · apply List.map_congr_left
    intro i _
    rw [Function.comp_apply, chk_right hb]
theorem decL_all (k : Int) (b : List UInt8) (n : Nat) : (decL k b n).all smpX = true := by
  rw [List.all_eq_true]
  intro x hx
  simp only [decL, List.mem_map] at hx
  obtain ⟨i, _, rfl⟩ := hx
  have := satG_in (decV (szK k) (rdF (szK k) (bigK k) (chk (szK k).toNat b i)))
  simp only [smpX, Bool.and_eq_true, decide_eq_true_eq]
  exact this
theorem encL_app (k : Int) (a b : List Int) : encL k (a ++ b) = encL k a ++ encL k b := by unfold encL; rw [List.flatMap_append]
theorem apL_app {A B : Nat} {M l l' : List Int} {q m : Nat} (hA : 0 < A) (hB : 0 < B) (hl : l.length = q * A) :
    apL A B M (l ++ l') ((q + m) * B) = apL A B M l (q * B) ++ apL A B M l' (m * B) := by
  rw [Nat.add_mul]
  unfold apL
  rw [List.range_add, List.map_append, List.map_map]
  congr 1
  · apply List.map_congr_left
    intro j hj
    rw [List.mem_range] at hj
    have hjB : j / B < q := Nat.div_lt_of_lt_mul (by rw [Nat.mul_comm]; exact hj)
    unfold apV
    congr 3
    refine dotN_congr A fun c hc => ⟨rfl, ?_⟩
    have hcell := cell_lt hc hjB
    unfold atL
    rw [List.getElem?_append_left (by rw [hl, Nat.mul_comm q A]; exact hcell)]
  · apply List.map_congr_left
    intro j hj
    rw [List.mem_range] at hj
    have e1 : (q * B + j) % B = j % B := by rw [Nat.add_comm, Nat.add_mul_mod_self_right]
    have e2 : (q * B + j) / B = q + j / B := by rw [Nat.add_comm, Nat.add_mul_div_right _ _ hB, Nat.add_comm]
    simp only [Function.comp_apply, apV]
    rw [e1, e2]
    congr 3
    refine dotN_congr A fun c hc => ⟨rfl, ?_⟩
    unfold atL
    rw [Nat.add_mul, Nat.add_assoc, ← hl, List.getElem?_append_right (by omega), Nat.add_sub_cancel_left]
/-- The frames of some bytes, spread over the channels; the converter behind them. -/
def apB (x y : Fm) (W : Nat) (b : List UInt8) : List Int := apL x.m.length y.m.length (dfO x.m y.m) (decL x.k b (W * x.m.length)) (W * y.m.length)
def mkB (x y : Fm) (W : Nat) : Nat := mkN (phB x y) (W : Int)
def stB (x y : Fm) (W : Nat) (b : List UInt8) : Rs := stR (phB x y) y.m.length (apB x y W b) (mkB x y W)
def cvS (x y : Fm) (W : Nat) (b : List UInt8) : Cv := ⟨x, y, x.m.length, y.m.length, dfO x.m y.m, stB x y W b⟩
/-- The bytes that have come out. -/
def ouB (x y : Fm) (W : Nat) (b : List UInt8) : List UInt8 := encL y.k (ooL (phB x y) y.m.length (apB x y W b) (mkB x y W))
theorem apB_len (x y : Fm) (W : Nat) (b : List UInt8) : (apB x y W b).length = W * y.m.length := apL_len ..
theorem apB_all (x y : Fm) (W : Nat) (b : List UInt8) : (apB x y W b).all smpX = true := apL_all ..
theorem apB_app {x y : Fm} (H : Ok16 x y) {W : Nat} (V : Nat) {b : List UInt8} (c : List UInt8) (hb : b.length = W * fz x) : apB x y (W + V) (b ++ c) = apB x y W b ++ apB x y V c := by
  obtain ⟨_, h1, h2⟩ := ok_ch H
  unfold apB
  rw [Nat.add_mul W V x.m.length, decL_app _ (by rw [hb]; unfold fz; rw [Nat.mul_assoc, Nat.mul_comm x.m.length])]
  exact apL_app (by omega) (by omega) (decL_len ..)
theorem mk_zero {p : Ph} (h : phV p = true) : mkN p ((0 : Nat) : Int) = 0 := by
  have h1 := ned_succ h (n := 0) (by decide)
  have h2 := ned_zero p
  exact mkN_eq h (Int.le_refl _) (by decide) (by rw [h2]; decide) (by simp only [Nat.zero_add] at h1 ⊢; omega)
theorem mkB_in {x y : Fm} (H : Ok16 x y) {W : Nat} (hW : W ≤ 299) : mkB x y W < 65536 ∧ ned (phB x y) (mkB x y W : Nat) ≤ (W : Int) := by
  have h1 := mk_few H.hp (by have := H.hr; have := phV_in H.hp; omega) (W := W) (by omega)
  exact ⟨h1, (mkN_iff H.hp (Int.natCast_nonneg _) (k := mkB x y W) (by unfold mkB; omega)).1 (Nat.le_refl _)⟩
theorem stB_V {x y : Fm} (H : Ok16 x y) {W : Nat} (hW : W ≤ 299) (b : List UInt8) : rsV (stB x y W b) = true ∧ (stB x y W b).l.length ≤ 524288 ∧ (stB x y W b).l.length / (stB x y W b).c.toNat = W - qN (phB x y) (mkB x y W) ∧ qN (phB x y) (mkB x y W) ≤ W ∧ (stB x y W b).l.length = (W - qN (phB x y) (mkB x y W)) * y.m.length := by
  obtain ⟨_, h1, h2⟩ := ok_ch H
  obtain ⟨m1, m2⟩ := mkB_in H hW
  obtain ⟨v1, v2, v3, v4⟩ := stR_V H.hp (c := (y.m.length : Int)) (s := apB x y W b) (W := W) (N := mkB x y W) (by omega) (apB_len ..) (apB_all ..) (by omega) (by omega) m2 (by show (0 : Int) + _ ≤ _; omega)
  refine ⟨v1, ?_, v3, v4, v2⟩
  rw [show (stB x y W b).l.length = (W - qN (phB x y) (mkB x y W)) * ((y.m.length : Int)).toNat from v2]
  have := Nat.mul_le_mul (show W - qN (phB x y) (mkB x y W) ≤ 299 by omega) (show ((y.m.length : Int)).toNat ≤ 8 by omega)
  omega
theorem cn_ok {x y : Fm} (H : Ok16 x y) : cnE x y = 0 ∧ cnR x y = cvS x y 0 [] := by
  obtain ⟨h0, h1, h2⟩ := ok_ch H
  have hE : cnE x y = 0 := by unfold cnE; rw [H.hx, H.hy]; rfl
  refine ⟨hE, ?_⟩
  have hv := (stB_V H (W := 0) (by decide) []).1
  have e0 : stB x y 0 [] = ⟨y.m.length, phB x y, []⟩ := by
    have hz : mkB x y 0 = 0 := mk_zero H.hp
    have ha : apB x y 0 [] = [] := by
      unfold apB
      rw [Nat.zero_mul, Nat.zero_mul]
      rfl
    unfold stB
    rw [hz, ha, stR_zero H.hp]
  rw [e0] at hv
  unfold cnR
  rw [if_pos hE]
  have hd : ∀ l, dfN x.m y.m l = (l.length : Int) := fun l => by unfold dfN; rw [if_pos h0]
  have hn : nwR y.m.length (mqN x.r y.r) (mqD x.r y.r) = ⟨y.m.length, phB x y, []⟩ := by unfold nwR; exact if_pos hv
  rw [hd, hd, hn]
  unfold cvS
  rw [e0]
theorem cvS_V {x y : Fm} (H : Ok16 x y) {W : Nat} (hW : W ≤ 299) (b : List UInt8) : cvV (cvS x y W b) = true := by
  obtain ⟨h1, h2⟩ := cn_ok H
  unfold cvV
  show ((cnE x y == 0) && ((x.m.length : Int) == (cnR x y).mi) && ((y.m.length : Int) == (cnR x y).mo) && (dfO x.m y.m == (cnR x y).mc) && rsV (stB x y W b) && ((y.m.length : Int) == (cnR x y).r.c) && ((mqN x.r y.r == (cnR x y).r.p.n) && (mqD x.r y.r == (cnR x y).r.p.d))) = true
  have e0 : (cnR x y).r.p.n = mqN x.r y.r ∧ (cnR x y).r.p.d = mqD x.r y.r := by rw [h2]; exact ⟨rfl, rfl⟩
  have e1 : (cnR x y).mi = x.m.length ∧ (cnR x y).mo = y.m.length ∧ (cnR x y).mc = dfO x.m y.m ∧ (cnR x y).r.c = y.m.length := by rw [h2]; exact ⟨rfl, rfl, rfl, rfl⟩
  rw [h1, e0.1, e0.2, e1.1, e1.2.1, e1.2.2.1, e1.2.2.2, (stB_V H hW b).1]
  simp
theorem dec_ok {x : Fm} (hx : fmV x = true) {V : Nat} (hV : V ≤ 300) {b : List UInt8} (hb : b.length = V * fz x) : decE x.k b.length = 0 ∧ decO x.k b = decL x.k b (V * x.m.length) := by
  have h1 := fm_in hx
  have e : b.length = V * x.m.length * (szK x.k).toNat := by rw [hb]; unfold fz; rw [Nat.mul_assoc, Nat.mul_comm x.m.length]
  have h2 : 0 < (szK x.k).toNat := by omega
  have h3 : V * x.m.length ≤ 300 * 8 := Nat.mul_le_mul hV h1.2.2.2.2
  have hE : decE x.k b.length = 0 := by
    unfold decE
    rw [if_neg (by omega), e, Nat.mul_div_cancel _ h2, if_neg (by omega), Nat.mul_mod_left, if_neg (by simp)]
  refine ⟨hE, ?_⟩
  unfold decO
  rw [if_pos hE, e, Nat.mul_div_cancel _ h2]
theorem cvA_ok {x y : Fm} (H : Ok16 x y) {W V : Nat} (hV : V ≤ 300) (b : List UInt8) {c : List UInt8} (hc : c.length = V * fz x) : cvA (cvS x y W b) c = apB x y V c := by
  obtain ⟨h0, h1, h2⟩ := ok_ch H
  have hd := (dec_ok H.hx hV hc).2
  show apO x.m.length y.m.length (dfO x.m y.m) x.m.length (decO x.k c) = _
  rw [hd]
  have hl : (decL x.k c (V * x.m.length)).length = V * x.m.length := decL_len ..
  have hbk : blkV (x.m.length : Int) (decL x.k c (V * x.m.length)) = true := blkV_mk (by omega) (by rw [hl, Int.toNat_natCast]) (by omega) (decL_all ..)
  unfold apO
  rw [if_pos (apE_ok H.hm hbk rfl), hl, Int.toNat_natCast, Int.toNat_natCast, Nat.mul_div_cancel _ (by omega)]
  rfl
/-- A run: what it leaves, and what has come out. -/
theorem run_step {x y : Fm} (H : Ok16 x y) {W V : Nat} (hW : W + V ≤ 299) {b c : List UInt8} (hb : b.length = W * fz x) (hc : c.length = V * fz x) :
    ruE (cvS x y W b) c = 0 ∧ ruR (cvS x y W b) c = cvS x y (W + V) (b ++ c) ∧ ouB x y W b ++ ruO (cvS x y W b) c = ouB x y (W + V) (b ++ c) := by
  obtain ⟨h0, h1, h2⟩ := ok_ch H
  have hv := cvS_V H (W := W) (by omega) b
  have hA := cvA_ok H (W := W) (V := V) (by omega) b hc
  obtain ⟨z1, z2, z3⟩ := fz_eq H.hx
  obtain ⟨m1, m2⟩ := mkB_in H (W := W) (by omega)
  obtain ⟨m3, m4⟩ := mkB_in H (W := W + V) hW
  obtain ⟨w1, w2, w3, w4⟩ := cv_step H.hp (c := (y.m.length : Int)) (s := apB x y W b) (y := apB x y V c) (W := W) (V := V) (N := mkB x y W) (by omega) (apB_len ..) (apB_all ..) (apB_len ..) (apB_all ..) (by omega) (by omega) m2 (by show (0 : Int) + _ ≤ _; omega) m3
  rw [← apB_app H V c hb] at w3 w4
  have ht : (c.length : Int).tmod (fmZ x) = 0 := by
    rw [z1, hc]
    rw [Int.natCast_mul]
    exact Int.mul_tmod_left ..
  have hq : (c.length : Int).tdiv (fmZ x) = (V : Int) := by
    rw [z1, hc, Int.natCast_mul, Int.mul_tdiv_cancel _ (by omega)]
  have hE : ruE (cvS x y W b) c = 0 := by
    unfold ruE
    rw [hv, hA]
    show (if true = false then (1 : Int) else if (c.length : Int).tmod (fmZ x) ≠ 0 then 4 else if 65536 < (c.length : Int).tdiv (fmZ x) then 3 else cvE (stB x y W b) y.m.length (apB x y V c)) = 0
    rw [if_neg (by decide), ht, hq, if_neg (by decide), if_neg (by omega)]
    exact w1
  refine ⟨hE, ?_, ?_⟩
  · unfold ruR
    rw [if_pos hE, hA]
    show (⟨x, y, x.m.length, y.m.length, dfO x.m y.m, cvR (stB x y W b) y.m.length (apB x y V c)⟩ : Cv) = _
    rw [show cvR (stB x y W b) y.m.length (apB x y V c) = _ from w3]
    rfl
  · have w5 : ooL (phB x y) y.m.length (apB x y W b) (mkB x y W) ++ cvO (stB x y W b) y.m.length (apB x y V c) = ooL (phB x y) y.m.length (apB x y (W + V) (b ++ c)) (mkB x y (W + V)) := w4
    have hall := ooL_all H.hp (y.m.length : Int) (apB_all x y (W + V) (b ++ c)) (mkB x y (W + V)) (by omega)
    have hlen := ooL_len (phB x y) (y.m.length : Int) (apB x y (W + V) (b ++ c)) (mkB x y (W + V))
    have h8 : mkB x y (W + V) * (y.m.length : Int).toNat ≤ 65536 * 8 := Nat.mul_le_mul (by omega) (by omega)
    rw [← w5] at hall hlen
    rw [List.all_append, Bool.and_eq_true] at hall
    rw [List.length_append] at hlen
    unfold ruO
    rw [if_pos hE, hA]
    show _ ++ encO y.k (cvO (stB x y W b) y.m.length (apB x y V c)) = _
    unfold encO
    rw [if_pos (enc_ok (fm_in H.hy).1.1 (by omega) hall.2)]
    unfold ouB
    rw [← encL_app, w5]
/-- The end. -/
theorem fin_ok {x y : Fm} (H : Ok16 x y) {W : Nat} (hW : W ≤ 299) (b : List UInt8) : fnE (cvS x y W b) = 0 ∧ fiE (stB x y W b) 65536 = 0 ∧ fnO (cvS x y W b) = encL y.k (fiO (stB x y W b) 65536) := by
  obtain ⟨h0, h1, h2⟩ := ok_ch H
  obtain ⟨v1, v2, v3, v4, _⟩ := stB_V H hW b
  have hv := cvS_V H hW b
  have hq := qN_eq H.hp (g := mkB x y W) (by have := mkB_in H hW; omega)
  have hF := (fi_all v1 (by omega) (by show (phB x y).d ≤ 200 * (phB x y).n; have := H.hr; have := phV_in H.hp; omega) (by rw [v3]; omega) (by show (0 : Int) + (qN (phB x y) (mkB x y W) : Int) ≤ _; omega)).1
  have hE : fnE (cvS x y W b) = 0 := by
    unfold fnE
    rw [hv, if_neg (by decide)]
    exact hF
  have hf := fi_enc v1 (by omega) hF
  refine ⟨hE, hF, ?_⟩
  unfold fnO
  rw [if_pos hE]
  show encO y.k (fiO (stB x y W b) 65536) = _
  unfold encO
  rw [if_pos (enc_ok (fm_in H.hy).1.1 hf.1 hf.2)]
theorem ouB_zero {x y : Fm} (H : Ok16 x y) : ouB x y 0 [] = [] := by
  have hz : mkB x y 0 = 0 := mk_zero H.hp
  unfold ouB
  rw [hz]
  rfl


end Go.Vam
