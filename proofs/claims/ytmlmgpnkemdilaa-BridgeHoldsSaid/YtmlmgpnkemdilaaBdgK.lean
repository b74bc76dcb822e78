/- What pushing and pulling keep. Conditions: none. -/
import Derived.Test.YtmlmgpnkemdilaaBdgI
import Derived.Test.YtmlmgpnkemdilaaBdgJ
set_option linter.unusedVariables false
set_option linter.unusedSimpArgs false
set_option maxRecDepth 40000
set_option maxHeartbeats 4000000
namespace Go.Vam
open Go.Proofs

theorem ct_eta (x : Ct) : (⟨x.t, x.d, x.g, x.m⟩ : Ct) = x := rfl
theorem br_eta (x : Br) : (⟨x.q, x.c, x.r, x.lo, x.mi⟩ : Br) = x := rfl
/-- A valid bridge with so many channels, not too far on. -/
structure okB (x : Br) (ch B : Int) : Prop where
  v : brV x = true
  c : x.r.c = ch
  len : x.r.l.length ≤ 524288
  far : x.r.p.p + waN x.r ≤ B
  lo : x.lo ≤ B
  mi : x.mi ≤ B
theorem take_div {y : List Int} {k : Int} {m : Nat} (hk : 1 ≤ k) (hy : y.length = y.length / k.toNat * k.toNat) (hm : m ≤ y.length / k.toNat) : (y.take (m * k.toNat)).length = m * k.toNat := by
  have h1 : m * k.toNat ≤ y.length / k.toNat * k.toNat := Nat.mul_le_mul_right _ hm
  rw [List.length_take]
  omega
theorem all_take {y : List Int} (h : y.all smpX = true) (m : Nat) : (y.take m).all smpX = true := by
  rw [List.all_eq_true] at h ⊢
  intro x hx
  exact h x (List.mem_of_mem_take hx)
/-- A push. -/
theorem push_ok {x : Br} {ch B : Int} (h : okB x ch B) (hc : 1 ≤ ch ∧ ch ≤ 8) {y : List Int} {V : Nat} (hy : y.length = V * ch.toNat) (hV : V ≤ 65536) (ha : y.all smpX = true) (hB : B + V ≤ 1000000000000) :
    puE x ch y = 0 ∧ okB (puR x ch y) ch (B + V) ∧ puN x ch y = min (V : Int) (x.q - waN x.r) ∧ puL x ch y = (V : Int) - puN x ch y ∧ (puR x ch y).lo = x.lo + puL x ch y ∧ (puR x ch y).mi = x.mi ∧
    (puR x ch y).q = x.q ∧ (puR x ch y).c = x.c ∧ (puR x ch y).r.p = x.r.p ∧ waN (puR x ch y).r = waN x.r + puN x ch y ∧ (puR x ch y).r.l = x.r.l ++ y.take ((puN x ch y).toNat * ch.toNat) ∧ 0 ≤ puN x ch y ∧ puN x ch y ≤ V := by
  obtain ⟨b1, b2, b3, b4, b5, b6⟩ := brV_in h.v
  have hl := h.len
  obtain ⟨w1, w2, w3⟩ := waN_V b1 (by omega)
  have hby : blkV ch y = true := blkV_mk hc hy hV ha
  have hd : y.length / ch.toNat = V := by rw [hy, Nat.mul_div_cancel _ (by omega)]
  have eE : puE x ch y = 0 := by
    unfold puE
    rw [if_neg (by rw [h.v, hby]; decide), if_neg (by rw [h.c]; simp)]
  have eN : puN x ch y = min (V : Int) (x.q - waN x.r) := by unfold puN; rw [hd]
  have hN : 0 ≤ puN x ch y ∧ puN x ch y ≤ V := by rw [eN]; omega
  have eL : puL x ch y = (V : Int) - puN x ch y := by unfold puL; rw [if_pos eE, hd]
  have hlo := h.lo
  have hfar := h.far
  have ht : (y.take ((puN x ch y).toNat * ch.toNat)).length = (puN x ch y).toNat * ch.toNat := take_div hc.1 (by rw [hd]; exact hy) (by rw [hd]; omega)
  obtain ⟨⟨k1, k2⟩, k3, k4, k5⟩ := blk_in (rsV_in b1).2 (by omega)
  have hxc := h.c
  have e1 : (x.r.l.length + (y.take ((puN x ch y).toNat * ch.toNat)).length) / x.r.c.toNat = x.r.l.length / x.r.c.toNat + (puN x ch y).toNat := by
    rw [ht, k3, hxc, Nat.add_mul_div_right _ _ (by omega), Nat.mul_div_cancel _ (by omega)]
  have hsum : ((x.r.l.length / x.r.c.toNat + (puN x ch y).toNat : Nat) : Int) ≤ 65536 := by rw [eN]; omega
  have fE : feE x.r ch (y.take ((puN x ch y).toNat * ch.toNat)) = 0 := by
    unfold feE
    have hbt : blkV ch (y.take ((puN x ch y).toNat * ch.toNat)) = true := blkV_mk hc ht (by omega) (all_take ha _)
    rw [if_neg (by rw [b1, hbt]; decide), if_neg (by rw [hxc]; simp), if_neg (by rw [e1]; omega)]
  obtain ⟨f1, f2, f3⟩ := feR_ok fE (by omega) (by rw [ht]; have := Nat.mul_le_mul (show (puN x ch y).toNat ≤ 65536 by omega) (show ch.toNat ≤ 8 by omega); omega)
  have eR : puR x ch y = ⟨x.q, x.c, feR x.r ch (y.take ((puN x ch y).toNat * ch.toNat)), x.lo + ((V : Int) - puN x ch y), x.mi⟩ := by
    unfold puR
    rw [if_pos eE, hd, IntWalk.i64_in _ (by omega)]
  have eW : waN (feR x.r ch (y.take ((puN x ch y).toNat * ch.toNat))) = waN x.r + puN x ch y := by
    have e2 : waN (feR x.r ch (y.take ((puN x ch y).toNat * ch.toNat))) = (((x.r.l.length + (y.take ((puN x ch y).toNat * ch.toNat)).length) / x.r.c.toNat : Nat) : Int) := by
      unfold waN
      rw [if_pos f2, f1]
      show (((x.r.l ++ _).length / x.r.c.toNat : Nat) : Int) = _
      rw [List.length_append]
    rw [e2, e1, w1]
    omega
  have hV2 : brV (puR x ch y) = true := by
    rw [eR]
    simp only [brV, Bool.and_eq_true, decide_eq_true_eq]
    exact ⟨⟨⟨⟨⟨⟨f2, b2⟩, b3.1⟩, b3.2⟩, by rw [eW, eN]; omega⟩, by omega⟩, b6⟩
  have hmi := h.mi
  have hlen := rs_len f2 (by omega)
  rw [eR] at hV2 ⊢
  refine ⟨eE, ⟨hV2, by show (feR _ _ _).c = ch; rw [f1]; exact hxc, hlen, ?_, by show x.lo + _ ≤ _; omega, by show x.mi ≤ _; omega⟩, eN, eL, by rw [eL], rfl, rfl, rfl, by show (feR _ _ _).p = _; rw [f1], eW, by show (feR _ _ _).l = _; rw [f1], hN⟩
  show (feR x.r ch _).p.p + waN (feR x.r ch _) ≤ _
  rw [eW, f1]
  show x.r.p.p + (waN x.r + puN x ch y) ≤ _
  omega
/-- A pull. -/
theorem pull_ok {x : Br} {ch B : Int} (h : okB x ch B) (hc : 1 ≤ ch ∧ ch ≤ 8) {i : Int} (hi : 0 ≤ i ∧ i ≤ 65536) (hB : B + i ≤ 1000000000000) :
    plE x i = 0 ∧ okB (plR x i) ch (B + i) ∧ (plR x i).lo = x.lo ∧ plM x i = i - plK x i ∧ (plR x i).mi = x.mi + plM x i ∧ (plR x i).q = x.q ∧ (plR x i).c = x.c ∧ (plR x i).r = poR (plA x) (plK x i) ∧
    (0 ≤ plK x i ∧ plK x i ≤ i) ∧ ned (plA x).p (plK x i) ≤ waN x.r ∧ (plR x i).r.p.p = x.r.p.p + qN (plA x).p (plK x i).toNat ∧ waN (plR x i).r = waN x.r - qN (plA x).p (plK x i).toNat ∧ (qN (plA x).p (plK x i).toNat : Int) ≤ waN x.r := by
  obtain ⟨b1, b2, b3, b4, b5, b6⟩ := brV_in h.v
  have hl := h.len
  obtain ⟨w1, w2, w3⟩ := waN_V b1 (by omega)
  have hA := plA_V h.v
  have hp := (rsV_in hA).1
  have hK := plK_in h.v (by omega) hi
  obtain ⟨K, hKe⟩ : ∃ K : Nat, plK x i = (K : Int) := ⟨(plK x i).toNat, by omega⟩
  have hm := mkN_spec hp w2
  have hKm : K ≤ mkN (plA x).p (waN x.r) := by
    have : plK x i ≤ ((mkN (plA x).p (waN x.r) : Nat) : Int) := by unfold plK; omega
    omega
  have hned : ned (plA x).p (K : Int) ≤ waN x.r := (hm.2 K (by omega)).1 hKm
  have hq := q_le_ned hp (n := K) (by omega)
  have hqe := qN_eq hp (g := K) (by omega)
  have hfar := h.far
  have hpos : (plA x).p.p = x.r.p.p := rfl
  have e0 : rcE (plA x) (K : Int) = 0 := rcE_of hA (by omega)
  have eP : poE (plA x) (K : Int) = 0 := by
    have h0 : phC (plA x).p (K : Int) = 0 := phC_of hp (by omega)
    show adE (plA x).p (K : Int) = 0
    unfold adE
    have h1 : atP (plA x).p (K : Int) = (plA x).p.p + qAt (plA x).p (K : Int) := by unfold atP; rw [if_pos h0]
    rw [if_pos h0, h1, if_neg (by omega)]
  have eT : tkE (plA x) (K : Int) = 0 := by
    unfold tkE
    rw [if_neg (by rw [e0]; decide), if_neg ?_, eP]
    show ¬ (((x.r.l.length / x.r.c.toNat : Nat) : Int) < ned (plA x).p (K : Int))
    omega
  have eE : plE x i = 0 := by
    unfold plE
    rw [if_neg (by rw [h.v]; decide), if_neg (by simp only [Bool.or_eq_true, decide_eq_true_eq]; omega), hKe, eT]
  have eM : plM x i = i - plK x i := by unfold plM; rw [if_pos eE]
  have hmi := h.mi
  have eR : plR x i = ⟨x.q, x.c, poR (plA x) (plK x i), x.lo, x.mi + (i - plK x i)⟩ := by
    unfold plR
    rw [if_pos eE, IntWalk.i64_in _ (by omega)]
  obtain ⟨p1, p2, p3, p4, p5⟩ := po_ok hA (by show x.r.l.length ≤ _; omega) eP
  obtain ⟨⟨k1, k2⟩, k3, k4, k5⟩ := blk_in (rsV_in b1).2 (by omega)
  have hW : waN (poR (plA x) (K : Int)) = waN x.r - qN (plA x).p K := by
    have e1 : (poR (plA x) (K : Int)).l = x.r.l.drop (min x.r.l.length (qN (plA x).p K * x.r.c.toNat)) := by unfold poR; rw [if_pos eP]; rfl
    have hle : qN (plA x).p K ≤ x.r.l.length / x.r.c.toNat := by omega
    have hle2 : qN (plA x).p K * x.r.c.toNat ≤ x.r.l.length / x.r.c.toNat * x.r.c.toNat := Nat.mul_le_mul_right _ hle
    have e2 : (poR (plA x) (K : Int)).l.length = (x.r.l.length / x.r.c.toNat - qN (plA x).p K) * x.r.c.toNat := by
      rw [e1, List.length_drop, Nat.sub_mul]
      omega
    have e3 : waN (poR (plA x) (K : Int)) = (((poR (plA x) (K : Int)).l.length / x.r.c.toNat : Nat) : Int) := by unfold waN; rw [if_pos p1, p2]; rfl
    rw [e3, e2, Nat.mul_div_cancel _ (by omega), w1]
    omega
  have hpp : (poR (plA x) (K : Int)).p.p = x.r.p.p + qN (plA x).p K := by rw [p4, hqe.1]; rfl
  rw [eR, eM, hKe, Int.toNat_natCast]
  have hlo := h.lo
  refine ⟨eE, ⟨?_, by show (poR _ _).c = ch; rw [p2]; exact h.c, by show (poR _ _).l.length ≤ _; exact Nat.le_trans p3 hl, by show (poR _ _).p.p + waN (poR _ _) ≤ _; rw [hpp, hW]; omega, by show x.lo ≤ _; omega, by show x.mi + _ ≤ _; omega⟩, rfl, rfl, rfl, rfl, rfl, rfl, by omega, hned, hpp, hW, by omega⟩
  simp only [brV, Bool.and_eq_true, decide_eq_true_eq]
  exact ⟨⟨⟨⟨⟨⟨p1, b2⟩, b3.1⟩, b3.2⟩, by rw [hW]; omega⟩, b5⟩, by omega⟩
theorem okB_mono {x : Br} {ch A B : Int} (h : okB x ch A) (hab : A ≤ B) : okB x ch B := ⟨h.v, h.c, h.len, by have := h.far; omega, by have := h.lo; omega, by have := h.mi; omega⟩


end Go.Vam
