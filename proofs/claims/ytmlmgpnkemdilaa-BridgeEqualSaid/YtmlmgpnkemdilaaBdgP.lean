/- The law BridgeParts gives true. Conditions: none. -/
import Derived.Test.YtmlmgpnkemdilaaBdgM
set_option linter.unusedVariables false
set_option linter.unusedSimpArgs false
set_option maxRecDepth 40000
set_option maxHeartbeats 4000000
namespace Go.Vam
open Go.Proofs

theorem br_ext {x y : Br} (h1 : x.q = y.q) (h2 : x.c = y.c) (h3 : x.r.c = y.r.c) (h4 : x.r.p = y.r.p) (h5 : x.r.l = y.r.l) (h6 : x.lo = y.lo) (h7 : x.mi = y.mi) : x = y := by
  obtain ⟨q, c, ⟨a, b, l⟩, lo, mi⟩ := x
  obtain ⟨q2, c2, ⟨a2, b2, l2⟩, lo2, mi2⟩ := y
  simp only at h1 h2 h3 h4 h5 h6 h7
  subst h1 h2 h3 h4 h5 h6 h7
  rfl
theorem aj_zero {c : Ct} (h : c.m = 0) (f : Int) : ajX c f = 0 := by
  have key : ∀ d : Int, szX c d = 0 ∨ ctV c = false := fun d => by
    cases hv : ctV c with
    | false => exact .inr rfl
    | true =>
      left
      have h1 := ctV_in hv
      unfold szX
      have h3 : 0 ≤ max 0 (d - c.d) * c.g := Int.mul_nonneg (by omega) (by omega)
      omega
  unfold ajX
  split
  · rfl
  · rename_i hv
    have hv2 : ctV c = true := by simpa using hv
    have k1 := (key (c.t - f)).resolve_right (by rw [hv2]; decide)
    have k2 := (key (f - c.t)).resolve_right (by rw [hv2]; decide)
    rw [k1, k2]
    simp
theorem cut_take (c : Int) (y : List Int) {a b : Nat} (hab : a ≤ b) : y.take (a * c.toNat) ++ cutK c y a b = y.take (b * c.toNat) := by
  unfold cutK
  have e : b * c.toNat = a * c.toNat + (b - a) * c.toNat := by rw [← Nat.add_mul]; congr 1; omega
  rw [e, ← List.take_add]
theorem all_cut {y : List Int} (h : y.all smpX = true) (c : Int) (a b : Nat) : (cutK c y a b).all smpX = true := by
  rw [List.all_eq_true] at h ⊢
  intro x hx
  exact h x (List.mem_of_mem_drop (List.mem_of_mem_take hx))
/-- Two parts pushed one behind the other. -/
theorem push_two {x : Br} {ch B : Int} (h : okB x ch B) (hc : 1 ≤ ch ∧ ch ≤ 8) {y : List Int} {F : Nat} (hy : y.length = F * ch.toNat) (hF : F ≤ 65536) (ha : y.all smpX = true) (hB : B + 2 * F ≤ 1000000000000) {a b : Nat} (hab : a ≤ b) (hb : b ≤ F) :
    puE (puR x ch (y.take (a * ch.toNat))) ch (cutK ch y a b) = 0 ∧ puR (puR x ch (y.take (a * ch.toNat))) ch (cutK ch y a b) = puR x ch (y.take (b * ch.toNat)) ∧
    puL x ch (y.take (a * ch.toNat)) + puL (puR x ch (y.take (a * ch.toNat))) ch (cutK ch y a b) = puL x ch (y.take (b * ch.toNat)) := by
  have hla : ∀ m : Nat, m ≤ F → (y.take (m * ch.toNat)).length = m * ch.toNat := fun m hm => by
    have := Nat.mul_le_mul_right ch.toNat hm
    rw [List.length_take, hy]; omega
  have hmB : b * ch.toNat ≤ y.length := by rw [hy]; exact Nat.mul_le_mul_right _ hb
  obtain ⟨p1, p2, p3, p4, p5, p6, p7, p8, p9, p10, p11, p12, p13⟩ := push_ok h hc (hla a (by omega)) (by omega) (all_take ha _) (by omega)
  obtain ⟨q1, q2, q3, q4, q5, q6, q7, q8, q9, q10, q11, q12, q13⟩ := push_ok p2 hc (cutK_len (f := a) hmB) (by omega) (all_cut ha ch a b) (by omega)
  obtain ⟨r1, r2, r3, r4, r5, r6, r7, r8, r9, r10, r11, r12, r13⟩ := push_ok h hc (hla b hb) (by omega) (all_take ha _) (by omega)
  have hw := (brV_in h.v).2.2.2.1
  have hN : puN x ch (y.take (b * ch.toNat)) = puN x ch (y.take (a * ch.toNat)) + puN (puR x ch (y.take (a * ch.toNat))) ch (cutK ch y a b) := by
    rw [r3, q3, p7, p10, p3]
    omega
  have hL : puL x ch (y.take (a * ch.toNat)) + puL (puR x ch (y.take (a * ch.toNat))) ch (cutK ch y a b) = puL x ch (y.take (b * ch.toNat)) := by
    rw [p4, q4, r4, hN]
    omega
  refine ⟨q1, ?_, hL⟩
  refine br_ext (by rw [q7, p7, r7]) (by rw [q8, p8, r8]) (by rw [q2.c, r2.c]) (by rw [q9, p9, r9]) ?_ (by rw [q5, p5, r5]; omega) (by rw [q6, p6, r6])
  rw [q11, p11, r11, hN, List.append_assoc]
  congr 1
  have h1 : (y.take (a * ch.toNat)).take ((puN x ch (y.take (a * ch.toNat))).toNat * ch.toNat) = y.take ((puN x ch (y.take (a * ch.toNat))).toNat * ch.toNat) := by
    have := Nat.mul_le_mul_right ch.toNat (show (puN x ch (y.take (a * ch.toNat))).toNat ≤ a by omega)
    rw [List.take_take, Nat.min_eq_left this]
  have h2 : (y.take (b * ch.toNat)).take ((puN x ch (y.take (a * ch.toNat)) + puN (puR x ch (y.take (a * ch.toNat))) ch (cutK ch y a b)).toNat * ch.toNat) = y.take ((puN x ch (y.take (a * ch.toNat)) + puN (puR x ch (y.take (a * ch.toNat))) ch (cutK ch y a b)).toNat * ch.toNat) := by
    have := Nat.mul_le_mul_right ch.toNat (show (puN x ch (y.take (a * ch.toNat)) + puN (puR x ch (y.take (a * ch.toNat))) ch (cutK ch y a b)).toNat ≤ b by omega)
    rw [List.take_take, Nat.min_eq_left this]
  rw [h1, h2]
  generalize hn1 : (puN x ch (y.take (a * ch.toNat))).toNat = n1 at *
  generalize hn2 : (puN (puR x ch (y.take (a * ch.toNat))) ch (cutK ch y a b)).toNat = n2 at *
  have e3 : (puN x ch (y.take (a * ch.toNat)) + puN (puR x ch (y.take (a * ch.toNat))) ch (cutK ch y a b)).toNat = n1 + n2 := by omega
  rw [e3]
  by_cases hz : n2 = 0
  · subst hz
    rw [Nat.zero_mul, List.take_zero, List.append_nil, Nat.add_zero]
  · have hn : n1 = a := by
      have : puN (puR x ch (y.take (a * ch.toNat))) ch (cutK ch y a b) ≤ x.q - (waN x.r + puN x ch (y.take (a * ch.toNat))) := by rw [q3, p7, p10]; omega
      omega
    have hcut : (cutK ch y a b).take (n2 * ch.toNat) = cutK ch y a (a + n2) := by
      unfold cutK
      have := Nat.mul_le_mul_right ch.toNat (show n2 ≤ b - a by omega)
      rw [List.take_take, Nat.min_eq_left this, Nat.add_sub_cancel_left]
    rw [hn, hcut, cut_take ch y (Nat.le_add_right _ _)]
/-- A pull from a place in a stream. -/
theorem pull_in {x : Br} {ch B : Int} (h : okB x ch B) (hc : 1 ≤ ch ∧ ch ≤ 8) {p : Ph} (hp : phV p = true) {s : List Int} {N W : Nat} (hr : plA x = stR p ch s N) (hs : s.length = W * ch.toNat) (ha : s.all smpX = true) (hW : W ≤ 300) (hfew : mkN p (W : Int) < 65536) (hN6 : N ≤ 65536) (hN : ned p N ≤ W) (hpp : p.p + W ≤ 1000000000000) {i : Nat} (hi : i ≤ 65536) (hB : B + i ≤ 1000000000000) :
    N ≤ mkN p W ∧ plK x i = ((min (mkN p W - N) i : Nat) : Int) ∧ waN x.r = ((W - qN p N : Nat) : Int) ∧ ned p ((N + min (mkN p W - N) i : Nat) : Int) ≤ W ∧ (plR x i).r = stR p ch s (N + min (mkN p W - N) i) ∧ ooL p ch s N ++ outO (plA x) (plK x i).toNat = ooL p ch s (N + min (mkN p W - N) i) := by
  obtain ⟨v1, v2, v3, v4⟩ := stR_V hp hc hs ha (by omega) hN6 hN (by omega)
  have b1 := (brV_in h.v).1
  have hl := h.len
  obtain ⟨m1, m2, m3⟩ := mk_add hp (rsV_in v1).1 hN hN6 hfew
  have hw : waN x.r = ((W - qN p N : Nat) : Int) := by
    rw [(waN_V b1 (by omega)).1]
    have e1 : x.r.l = (stR p ch s N).l := by rw [← hr]; rfl
    rw [e1, h.c, v3]
  have hK : plK x i = ((min (mkN p W - N) i : Nat) : Int) := by
    unfold plK
    have e2 : (plA x).p = adv p N := by rw [hr]; rfl
    rw [e2, hw, m3]
    omega
  have hM1 := (mkN_iff hp (n := (W : Int)) (Int.natCast_nonneg _) (k := mkN p W) (by omega)).1 (Nat.le_refl _)
  obtain ⟨p1, p2, p3, p4, p5, p6, p7, p8, p9, p10, p11, p12, p13⟩ := pull_ok h hc (i := (i : Int)) (by omega) (by omega)
  generalize hk : min (mkN p W - N) i = K at *
  have hKn : ned p ((N + K : Nat) : Int) ≤ W := Int.le_trans (ned_mono hp (by omega) (by omega) (by omega)) hM1
  obtain ⟨t1, t2, t3, t4⟩ := tk_step hp (N := N) (n := K) hc hs ha (by omega) (by omega) hKn (by omega)
  refine ⟨m1, hK, hw, hKn, ?_, ?_⟩
  · rw [p8, hr, hK, ← t3]
    unfold tkR
    rw [if_pos t1]
  · rw [hr, hK, Int.toNat_natCast, ← t4]
    unfold tkO
    rw [if_pos t1]
    rfl


theorem ba_few (l : List UInt8) : baD l ≤ 800 * baN l := by
  have h1 := dN_lt l 10 (by decide)
  have h2 := dN_lt (dT l 10) 10 (by decide)
  have h3 := dN_ge l 10
  have h4 := dN_ge (dT l 10) 10
  have key : ∀ i, i < 10 → ∀ j, j < 10 → mqD (baT i) (baT j) ≤ 800 * mqN (baT i) (baT j) := by decide +kernel
  exact key _ (by omega) _ (by omega)
theorem mk_few2 {p : Ph} (h : phV p = true) (hr : p.d ≤ 800 * p.n) {W : Nat} (hW : W ≤ 60) : mkN p (W : Int) < 65536 := by
  obtain ⟨h1, h2, h3, _, h5, h6⟩ := phV_in h
  have hs := stp_in h
  have hp := prt_in h
  have hq : 60 < qAt p 65536 := by
    have e : 61 * prt p ≤ ahd p 65536 := by
      have e1 : 61440 * p.n ≤ stp p := by
        rw [hs.1, Int.mul_comm]
        exact Int.mul_le_mul_of_nonneg_left (by omega) (by omega)
      unfold ahd
      omega
    have := Int.le_ediv_of_mul_le (by omega) e
    unfold qAt
    omega
  have hn : ¬ ned p ((65536 : Nat) : Int) ≤ (W : Int) := by
    unfold ned
    rw [if_neg (by decide)]
    show ¬ max _ (qAt p 65536) ≤ _
    omega
  have h7 := mkN_le h (n := (W : Int)) (Int.natCast_nonneg _)
  have h8 := mkN_iff h (n := (W : Int)) (Int.natCast_nonneg _) (k := 65536) (Nat.le_refl _)
  have h9 : ¬ 65536 ≤ mkN p (W : Int) := fun h => hn (h8.1 h)
  omega
/-- A made bridge: its ratio, how far it is. -/
theorem bm_few (l : List UInt8) : ∀ k : Nat, k ≤ 3 → ((bmS l k).r.p.n = baN (dT (bm1 l) 2) ∧ (bmS l k).r.p.d = baD (dT (bm1 l) 2)) ∧ (bmS l k).q = 1 + dN (bm2 l) 60
  | 0, _ => by
    have a1 := dN_lt (bm2 l) 60 (by decide)
    have a2 := dN_ge (bm2 l) 60
    have h := new_ok (ch := bmC l) (q := 1 + dN (bm2 l) 60) (fi := 0) (by have := bmC_in l; omega) (ba_ok (dT (bm1 l) 2)) (bmCt_V l) (by omega) (by omega)
    show ((bmI l).r.p.n = _ ∧ (bmI l).r.p.d = _) ∧ (bmI l).q = _
    unfold bmI
    rw [h.2.1]
    exact ⟨⟨rfl, rfl⟩, rfl⟩
  | k + 1, hk => by
    obtain ⟨⟨i1, i2⟩, i3⟩ := bm_few l k (by omega)
    have h := (bmS_ok l k).resolve_right (by omega)
    have hc := bmC_in l
    have m1 := dN_lt (bmQ l k) 30 (by decide)
    have m2 := dN_ge (bmQ l k) 30
    have n1 := dN_lt (dT (bmQ l k) 30) 12 (by decide)
    have n2 := dN_ge (dT (bmQ l k) 30) 12
    have hp := push_ok h (by omega) (waO_len ((bmN l : Int) - k) (bmC l) 0 (dN (bmQ l k) 30).toNat) (by omega) (waO_all _ _ _ _) (by omega)
    have hb : bmP (bmS l k) ((bmN l : Int) - k) (dN (bmQ l k) 30) = puR (bmS l k) (bmC l) (waO ((bmN l : Int) - k) (bmC l) 0 (dN (bmQ l k) 30).toNat) := by unfold bmP; rw [h.c]
    have hq := pull_ok hp.2.1 (by omega) (i := dN (dT (bmQ l k) 30) 12) (by omega) (by omega)
    obtain ⟨p1, p2, p3, p4, p5, p6, p7, p8, p9, p10, p11, p12, p13⟩ := hp
    obtain ⟨q1, q2, q3, q4, q5, q6, q7, q8, q9, q10, q11, q12, q13⟩ := hq
    show ((bmU _ _).r.p.n = _ ∧ (bmU _ _).r.p.d = _) ∧ (bmU _ _).q = _
    rw [hb]
    unfold bmU
    rw [if_pos q1]
    refine ⟨?_, by rw [q6, p7, i3]⟩
    have hA := (po_ok (plA_V p2.v) (by have := p2.len; show (puR _ _ _).r.l.length ≤ _; omega) (tkE_po (plE_ok q1).2.2).2.1).2.2.2.1
    have e : (plR (puR (bmS l k) (bmC l) (waO ((bmN l : Int) - k) (bmC l) 0 (dN (bmQ l k) 30).toNat)) (dN (dT (bmQ l k) 30) 12)).r.p = (poR (plA (puR (bmS l k) (bmC l) (waO ((bmN l : Int) - k) (bmC l) 0 (dN (bmQ l k) 30).toNat))) (plK (puR (bmS l k) (bmC l) (waO ((bmN l : Int) - k) (bmC l) 0 (dN (bmQ l k) 30).toNat)) (dN (dT (bmQ l k) 30) 12))).p := by rw [q8]
    rw [e, hA]
    constructor
    · show (puR _ _ _).r.p.n = _
      rw [p9, i1]
    · show (puR _ _ _).r.p.d = _
      rw [p9, i2]
theorem zero_ok {q ct cd cg cm lo mi ch B : Int} {r : Rs} (h : okB ⟨q, ⟨ct, cd, cg, cm⟩, r, lo, mi⟩ ch B) : okB ⟨q, ⟨ct, cd, cg, 0⟩, r, lo, mi⟩ ch B := by
  obtain ⟨b1, b2, b3, b4, b5, b6⟩ := brV_in h.v
  refine ⟨?_, h.c, h.len, h.far, h.lo, h.mi⟩
  have hc := ctV_in b2
  have h2 : ctV ⟨ct, cd, cg, 0⟩ = true := by
    simp only [ctV, Bool.and_eq_true, decide_eq_true_eq]
    simp only at hc
    omega
  simp only [brV, Bool.and_eq_true, decide_eq_true_eq]
  exact ⟨⟨⟨⟨⟨⟨b1, h2⟩, b3.1⟩, b3.2⟩, b4⟩, b5⟩, b6⟩
theorem push_zero {x : Br} {ch B : Int} (h : okB x ch B) (hc : 1 ≤ ch ∧ ch ≤ 8) (y : List Int) (hB : B ≤ 1000000 := by omega) : puR x ch (y.take (0 * ch.toNat)) = x ∧ puL x ch (y.take (0 * ch.toNat)) = 0 := by
  have e : y.take (0 * ch.toNat) = [] := by rw [Nat.zero_mul, List.take_zero]
  rw [e]
  obtain ⟨p1, p2, p3, p4, p5, p6, p7, p8, p9, p10, p11, p12, p13⟩ := push_ok h hc (y := []) (V := 0) (by simp) (by decide) rfl (by omega)
  have hL : puL x ch [] = 0 := by omega
  refine ⟨br_ext p7 p8 (by rw [p2.c, h.c]) p9 ?_ (by rw [p5, hL]; omega) p6, hL⟩
  rw [p11, List.take_nil, List.append_nil]
theorem bmX_few (l : List UInt8) : (bmX l).r.p.d ≤ 800 * (bmX l).r.p.n ∧ (bmX l).q ≤ 60 := by
  have a1 := dN_lt (dT (bm2 l) 60) 4 (by decide)
  have a2 := dN_ge (dT (bm2 l) 60) 4
  have b1 := dN_lt (bm2 l) 60 (by decide)
  have h := bm_few l (bmN l) (by unfold bmN; omega)
  show (bmS l (bmN l)).r.p.d ≤ 800 * (bmS l (bmN l)).r.p.n ∧ (bmS l (bmN l)).q ≤ 60
  rw [h.1.1, h.1.2, h.2]
  exact ⟨ba_few _, by omega⟩
theorem plO_len {x : Br} {ch B : Int} (h : okB x ch B) {i : Int} (he : plE x i = 0) (hk : 0 ≤ plK x i ∧ plK x i ≤ i) : (plO x i).length = i.toNat * ch.toNat := by
  unfold plO
  have e : (outO (plA x) (plK x i).toNat).length = (plK x i).toNat * x.r.c.toNat := outO_len _ _
  rw [if_pos he, List.length_append, List.length_replicate, e, h.c, ← Nat.add_mul]
  congr 1
  omega
theorem pull_two {x : Br} {ch B : Int} (h : okB x ch B) (hc : 1 ≤ ch ∧ ch ≤ 8) (hm : x.c.m = 0) (hf : x.r.p.d ≤ 800 * x.r.p.n) (hq : x.q ≤ 60) (hB : B ≤ 1000000) (N M : Nat) (hN : N ≤ 1000) (hM : M ≤ 1000) :
    plE x ((N : Int) + M) = 0 ∧ plE x N = 0 ∧ plE (plR x N) M = 0 ∧ plR x ((N : Int) + M) = plR (plR x N) M ∧ plM x ((N : Int) + M) = plM x N + plM (plR x N) M ∧ plC x ((N : Int) + M) = ch ∧ plC x N = ch ∧ plC (plR x N) M = ch ∧ (plM x N ≤ 0 → plO x ((N : Int) + M) = plO x N ++ plO (plR x N) M) := by
  obtain ⟨b1, b2, b3, b4, b5, b6⟩ := brV_in h.v
  obtain ⟨⟨k1, k2⟩, k3, k4, k5⟩ := blk_in (rsV_in b1).2 (by have := h.len; omega)
  have hwa := waN_V b1 (by have := h.len; omega)
  have hxc := h.c
  rw [hxc] at k3 hwa
  have hfar := h.far
  have hA := plA_V h.v
  have hz := aj_zero hm (waN x.r)
  have hpv : phV ⟨x.r.p.n, x.r.p.d, 0, x.r.p.p, x.r.p.f⟩ = true := by
    have := (rsV_in hA).1
    unfold plA at this
    rw [hz] at this
    exact this
  have hst := stR_zero hpv ch x.r.l
  have hA0 : plA x = stR ⟨x.r.p.n, x.r.p.d, 0, x.r.p.p, x.r.p.f⟩ ch x.r.l 0 := by
    rw [hst]
    unfold plA
    rw [hz, hxc]
  generalize hp : (⟨x.r.p.n, x.r.p.d, 0, x.r.p.p, x.r.p.f⟩ : Ph) = p at *
  have hp1 : p.n = x.r.p.n := by rw [← hp]
  have hp2 : p.d = x.r.p.d := by rw [← hp]
  have hp3 : p.p = x.r.p.p := by rw [← hp]
  have hp4 : p.a = 0 := by rw [← hp]
  generalize hW : x.r.l.length / ch.toNat = W at *
  have hfew := mk_few2 hpv (by rw [hp1, hp2]; exact hf) (W := W) (by omega)
  have hn0 : ned p ((0 : Nat) : Int) ≤ W := by rw [ned_zero]; exact Int.natCast_nonneg _
  obtain ⟨u1, u2, u3, u4, u5, u6⟩ := pull_in h hc hpv hA0 k3 k5 (by omega) hfew (by decide) hn0 (by omega) (i := N + M) (by omega) (by omega)
  obtain ⟨v1, v2, v3, v4, v5, v6⟩ := pull_in h hc hpv hA0 k3 k5 (by omega) hfew (by decide) hn0 (by omega) (i := N) (by omega) (by omega)
  obtain ⟨p1, p2, p3, p4, p5, p6, p7, p8, p9, p10, p11, p12, p13⟩ := pull_ok h hc (i := (N : Int)) (by omega) (by omega)
  obtain ⟨r1, r2, r3, r4, r5, r6, r7, r8, r9, r10, r11, r12, r13⟩ := pull_ok h hc (i := ((N + M : Nat) : Int)) (by omega) (by omega)
  obtain ⟨q1, q2, q3, q4, q5, q6, q7, q8, q9, q10, q11, q12, q13⟩ := pull_ok p2 hc (i := (M : Int)) (by omega) (by omega)
  rw [Nat.zero_add, Nat.sub_zero] at u4 u5 u6 v4 v5 v6
  rw [Nat.sub_zero] at u2 v2
  have hy : plA (plR x N) = stR p ch x.r.l (min (mkN p W) N) := by
    unfold plA
    rw [aj_zero (by rw [p7]; exact hm), v5]
    unfold stR adv
    rw [hp4]
  obtain ⟨w1, w2, w3, w4, w5, w6⟩ := pull_in p2 hc hpv hy k3 k5 (by omega) hfew (by omega) v4 (by omega) (i := M) (by omega) (by omega)
  have hK : min (mkN p W) N + min (mkN p W - min (mkN p W) N) M = min (mkN p W) (N + M) := by omega
  rw [hK] at w4 w5 w6
  have hNM : ((N + M : Nat) : Int) = (N : Int) + M := by omega
  rw [hNM] at r1 r2 r3 r4 r5 r6 r7 r8 r9 r10 r11 r12 r13 u2 u5 u6
  have hMs : plM x ((N : Int) + M) = plM x N + plM (plR x N) M := by
    rw [r4, p4, q4, u2, v2, w2]
    omega
  refine ⟨r1, p1, q1, ?_, hMs, by unfold plC; rw [if_pos r1]; exact hxc, by unfold plC; rw [if_pos p1]; exact hxc, by unfold plC; rw [if_pos q1]; exact p2.c, fun h0 => ?_⟩
  · have hr : (plR x ((N : Int) + M)).r = (plR (plR x N) M).r := by rw [u5, w5]
    exact br_ext (by rw [r6, q6, p6]) (by rw [r7, q7, p7]) (by rw [hr]) (by rw [hr]) (by rw [hr]) (by rw [r3, q3, p3]) (by rw [r5, q5, p5, hMs]; omega)
  · have hKN : min (mkN p W) N = N := by rw [p4, v2] at h0; omega
    have o1 : plO x ((N : Int) + M) = outO (plA x) (plK x ((N : Int) + M)).toNat ++ List.replicate ((((N : Int) + M).toNat - (plK x ((N : Int) + M)).toNat) * x.r.c.toNat) 0 := by unfold plO; rw [if_pos r1]
    have o2 : plO x N = outO (plA x) (plK x N).toNat ++ List.replicate (((N : Int).toNat - (plK x N).toNat) * x.r.c.toNat) 0 := by unfold plO; rw [if_pos p1]
    have o3 : plO (plR x N) M = outO (plA (plR x N)) (plK (plR x N) M).toNat ++ List.replicate (((M : Int).toNat - (plK (plR x N) M).toNat) * (plR x N).r.c.toNat) 0 := by unfold plO; rw [if_pos q1]
    have hne : ooL p ch x.r.l 0 = [] := rfl
    rw [hne, List.nil_append] at u6 v6
    rw [o1, o2, o3, u6, v6, ← List.append_assoc]
    have z1 : ((N : Int).toNat - (plK x N).toNat) * x.r.c.toNat = 0 := by rw [v2, hKN, Int.toNat_natCast, Nat.sub_self, Nat.zero_mul]
    rw [z1, List.replicate_zero, List.append_nil, w6]
    congr 2
    rw [u2, w2, hxc, p2.c, Int.toNat_natCast, Int.toNat_natCast, Int.toNat_natCast]
    congr 1
    omega


theorem spec_parts19 (s p : List UInt8) (n m : Int) (hn : 0 ≤ n ∧ n ≤ 255) (hm : 0 ≤ m ∧ m ≤ 255) : Spec Try.prog 0 6 [vL (LB s), vL (LB p), vI .u8 n, vI .u8 m] [] [] (vB true) [] [] := by
  refine spec_of_E (X := ⟨Try.prog, tt, Try.f6.ntmps, 1, fun _ => 0, (tab [(8, E_sane), (11, E_new), (12, E_made), (13, E_wave), (15, E_push), (32, E_mcut), (18, E_pull), (17, E_brsame), (20, E_same), (30, E_join)])⟩) (M := [(18, [0, 0, 0, 0, 0, 19752657873443180296416460559, 0, 0, 0, 0, 0, 18570328421860072963553820431, 0, 0, 0, 0, 0, 14855299378184317509681741583, 0, 0]), (19, [0, 0, 0, 0, 0, 19034566062958766861059826319119, 0, 0, 0, 0, 0, 19014759022330200776661440331535, 0, 0, 0, 0]), (20, [0, 0, 0, 0, 0, 19491395629128162037167519378112271, 0, 0, 0, 0, 0, 19471113219524510366743572126826255, 0, 0, 0, 0]), (21, [0, 0, 0, 0, 0, 2923003274661141222409477226402873889992617164559, 0, 0, 0, 0, 0, 2923003274640538188474811030372864880558271823631, 0, 0, 0, 0, 0, 2923003272279829267960800440095703541500379856655, 0, 0, 0, 0, 0, 2923003100437233972886876391091526788457433071375, 0, 0, 0, 0, 0, 2922992472738350298136785502975787479472652877583, 0, 0, 0, 0, 0, 2922289650815452856466840541354601045954565963535, 0, 0, 0, 0, 0, 2913012540812864117239961682553179327568078110479, 0, 0, 0, 0, 0, 0])]) (m := 18906759754210892250895) rfl rfl ⟨tt_ok, tab_ok (tabs_cons E_sane_ok (tabs_cons E_new_ok (tabs_cons E_made_ok (tabs_cons E_wave_ok (tabs_cons E_push_ok (tabs_cons E_mcut_ok (tabs_cons E_pull_ok (tabs_cons E_brsame_ok (tabs_cons E_same_ok (tabs_cons E_join_ok tabs_nil)))))))))) _ rfl rfl⟩ tt_mixed Try.func6 rfl (by decide) (by show (4 : Nat) ≤ _; exact Nat.le_of_ble_eq_true rfl) ⟨fun m hm => (V.bare_has rfl m hm).elim, by simp, by simp⟩ ?_
  simp only [↓gPre, gPost, gCore, handV, V.bufs, buildArr, toCs, Nat.reduceShiftRight, Nat.reduceMod, addB, addK, zeroOp, callSem, resName, keepsB, newB, V.pure, C.pure, V.ptrs, C.ptrs, C.bufs, appendSem, appendTo, appendZ, dstOk, lk, V.cells, Op.eff, partV, partD, cut, lay, zeroD, C.toDs, C.toD, V.toD, toDs, buildCells, if_true, if_false, ↓reduceIte, reduceCtorEq, Nat.reduceEqDiff, Nat.reduceLT, Nat.reduceLeDiff, implies_true, forall_const, eq_self, ne_eq, not_true_eq_false, not_false_eq_true, imp_self, Nat.reduceAdd, Nat.reduceMul, Int.reduceLE, Int.reduceLT, Int.reduceNeg, Int.reduceAdd, Int.reduceToNat, E_sane_eq, E_new_eq, E_made_eq, E_wave_eq, E_push_eq, E_mcut_eq, E_pull_eq, E_brsame_eq, E_same_eq, E_join_eq, rs_eta, ph_eta, ct_eta, br_eta, Try.ntmps6, Try.results6, gTT]
  intro h0
  have hp8 : p.length ≤ 8 := by have := of_decide_eq_false h0; omega
  have hB0 := bmX_ok (List.take 300 s)
  have hcc := bmC_in (List.take 300 s)
  have hfew := bmX_few (List.take 300 s)
  generalize bmX (List.take 300 s) = Y at *
  generalize bmC (List.take 300 s) = ch at *
  obtain ⟨q, ⟨ct, cd, cg, cm⟩, ⟨c, P, l⟩, lo, mi⟩ := Y
  simp only at hfew
  have hce : c = ch := hB0.c
  subst hce
  have hX := zero_ok hB0
  simp only
  have ht1 : 0 ≤ n.tmod 30 ∧ n.tmod 30 < 30 := by rw [Int.tmod_eq_emod_of_nonneg hn.1]; omega
  rw [IntWalk.i64_in (n.tmod 30) (by omega)]
  have ht2 : 0 ≤ n.tmod 20 ∧ n.tmod 20 < 20 := by rw [Int.tmod_eq_emod_of_nonneg hn.1]; omega
  have ht3 : 0 ≤ m.tmod 20 ∧ m.tmod 20 < 20 := by rw [Int.tmod_eq_emod_of_nonneg hm.1]; omega
  generalize hF : (n.tmod 30).toNat = F at *
  have hF40 : F ≤ 29 := by omega
  have hBl := waO_len 9 c 0 F
  have hBa := waO_all 9 c 0 F
  have hBb : blkV c (waO 9 c 0 F) = true := waO_blk 9 0 (by omega) (by omega)
  generalize waO 9 c 0 F = B at *
  have hBd : B.length / c.toNat = F := by rw [hBl, Nat.mul_div_cancel _ (by omega)]
  rw [hBd]
  have hBle : B.length ≤ 100 := by
    have := Nat.mul_le_mul hF40 (show c.toNat ≤ 2 by omega)
    omega
  have hlen := hX.len
  simp only at hlen
  refine ⟨by decide, ⟨⟨by omega, by omega⟩, by omega, by omega⟩, ⟨by omega, by omega⟩, ⟨by omega, hBb, by omega⟩, ?_⟩
  have hch := chain_parts c B F p p.length
  have hpl : 1 ≤ (cqL c B F p p.length ++ [(c, cutK c B (cqP F p p.length) F)]).length ∧ (cqL c B F p p.length ++ [(c, cutK c B (cqP F p p.length) F)]).length ≤ 11 := by
    have := cqL_len c B F p p.length
    rw [List.length_append, List.length_singleton]
    omega
  generalize cqL c B F p p.length ++ [(c, cutK c B (cqP F p p.length) F)] = L at *
  obtain ⟨z1, z2⟩ := push_zero hX (by omega) B
  refine ELoop_keep (fun g : Nat × Nat => ⟨[(62, vI .i64 (g.1 : Nat)), (15, vI .i64 (puL ⟨q, ⟨ct, cd, cg, 0⟩, ⟨c, P, l⟩, lo, mi⟩ c (B.take (g.2 * c.toNat))))], [(⟨1, 14⟩, [.d (.int .i64 (puR ⟨q, ⟨ct, cd, cg, 0⟩, ⟨c, P, l⟩, lo, mi⟩ c (B.take (g.2 * c.toNat))).q), .d (.int .i64 (puR ⟨q, ⟨ct, cd, cg, 0⟩, ⟨c, P, l⟩, lo, mi⟩ c (B.take (g.2 * c.toNat))).c.t), .d (.int .i64 (puR ⟨q, ⟨ct, cd, cg, 0⟩, ⟨c, P, l⟩, lo, mi⟩ c (B.take (g.2 * c.toNat))).c.d), .d (.int .i64 (puR ⟨q, ⟨ct, cd, cg, 0⟩, ⟨c, P, l⟩, lo, mi⟩ c (B.take (g.2 * c.toNat))).c.g), .d (.int .i64 (puR ⟨q, ⟨ct, cd, cg, 0⟩, ⟨c, P, l⟩, lo, mi⟩ c (B.take (g.2 * c.toNat))).c.m), .d (.int .i64 (puR ⟨q, ⟨ct, cd, cg, 0⟩, ⟨c, P, l⟩, lo, mi⟩ c (B.take (g.2 * c.toNat))).r.c), .d (.int .i64 (puR ⟨q, ⟨ct, cd, cg, 0⟩, ⟨c, P, l⟩, lo, mi⟩ c (B.take (g.2 * c.toNat))).r.p.n), .d (.int .i64 (puR ⟨q, ⟨ct, cd, cg, 0⟩, ⟨c, P, l⟩, lo, mi⟩ c (B.take (g.2 * c.toNat))).r.p.d), .d (.int .i64 (puR ⟨q, ⟨ct, cd, cg, 0⟩, ⟨c, P, l⟩, lo, mi⟩ c (B.take (g.2 * c.toNat))).r.p.a), .d (.int .i64 (puR ⟨q, ⟨ct, cd, cg, 0⟩, ⟨c, P, l⟩, lo, mi⟩ c (B.take (g.2 * c.toNat))).r.p.p), .d (.int .i64 (puR ⟨q, ⟨ct, cd, cg, 0⟩, ⟨c, P, l⟩, lo, mi⟩ c (B.take (g.2 * c.toNat))).r.p.f), .d (.list (LI .i32 (puR ⟨q, ⟨ct, cd, cg, 0⟩, ⟨c, P, l⟩, lo, mi⟩ c (B.take (g.2 * c.toNat))).r.l)), .d (.int .i64 (puR ⟨q, ⟨ct, cd, cg, 0⟩, ⟨c, P, l⟩, lo, mi⟩ c (B.take (g.2 * c.toNat))).lo), .d (.int .i64 (puR ⟨q, ⟨ct, cd, cg, 0⟩, ⟨c, P, l⟩, lo, mi⟩ c (B.take (g.2 * c.toNat))).mi)])], []⟩) (fun g => g.1 ≤ L.length ∧ g.2 ≤ F ∧ chain c B F g.2 (L.drop g.1)) (fun g => L.length - g.1) (fun g => (g.1 + 1, g.2 + ((L[g.1]?.getD (0, [])).2.length / c.toNat))) (0, 0) ⟨Nat.zero_le _, Nat.zero_le _, by rw [List.drop_zero]; exact hch⟩ ?_ ?_
  · simp only [↓gPre, gPost, gCore, handV, V.bufs, buildArr, toCs, Nat.reduceShiftRight, Nat.reduceMod, addB, addK, zeroOp, callSem, resName, keepsB, newB, V.pure, C.pure, V.ptrs, C.ptrs, C.bufs, appendSem, appendTo, appendZ, dstOk, lk, V.cells, Op.eff, partV, partD, cut, lay, zeroD, C.toDs, C.toD, V.toD, toDs, buildCells, if_true, if_false, ↓reduceIte, reduceCtorEq, Nat.reduceEqDiff, Nat.reduceLT, Nat.reduceLeDiff, implies_true, forall_const, eq_self, ne_eq, not_true_eq_false, not_false_eq_true, imp_self, Nat.reduceAdd, Nat.reduceMul, Int.reduceLE, Int.reduceLT, Int.reduceNeg, Int.reduceAdd, Int.reduceToNat, E_sane_eq, E_new_eq, E_made_eq, E_wave_eq, E_push_eq, E_mcut_eq, E_pull_eq, E_brsame_eq, E_same_eq, E_join_eq, rs_eta, ph_eta, ct_eta, br_eta, Try.ntmps6, Try.results6, gTT]
    rw [z1, z2]
    exact ⟨⟨rfl, rfl⟩, rfl, rfl, rfl, rfl, rfl, rfl, rfl, rfl, rfl, rfl, rfl, rfl, rfl, rfl⟩
  rintro ⟨i, a⟩ ⟨hi, ha, hc⟩
  simp only [↓gPre, gPost, gCore, handV, V.bufs, buildArr, toCs, Nat.reduceShiftRight, Nat.reduceMod, addB, addK, zeroOp, callSem, resName, keepsB, newB, V.pure, C.pure, V.ptrs, C.ptrs, C.bufs, appendSem, appendTo, appendZ, dstOk, lk, V.cells, Op.eff, partV, partD, cut, lay, zeroD, C.toDs, C.toD, V.toD, toDs, buildCells, if_true, if_false, ↓reduceIte, reduceCtorEq, Nat.reduceEqDiff, Nat.reduceLT, Nat.reduceLeDiff, implies_true, forall_const, eq_self, ne_eq, not_true_eq_false, not_false_eq_true, imp_self, Nat.reduceAdd, Nat.reduceMul, Int.reduceLE, Int.reduceLT, Int.reduceNeg, Int.reduceAdd, Int.reduceToNat, E_sane_eq, E_new_eq, E_made_eq, E_wave_eq, E_push_eq, E_mcut_eq, E_pull_eq, E_brsame_eq, E_same_eq, E_join_eq, rs_eta, ph_eta, ct_eta, br_eta, Try.ntmps6, Try.results6, gTT]
  replace hi : i ≤ L.length := hi
  replace ha : a ≤ F := ha
  replace hc : chain c B F a (L.drop i) := hc
  have hla : ∀ t : Nat, t ≤ F → (B.take (t * c.toNat)).length = t * c.toNat := fun t ht => by
    have := Nat.mul_le_mul_right c.toNat ht
    rw [List.length_take, hBl]; omega
  refine ⟨fun h1 => ?_, fun h1 => ?_⟩
  · have hlt : i < L.length := by have := of_decide_eq_true h1; omega
    rw [List.drop_eq_getElem_cons hlt] at hc
    obtain ⟨b, m1, m2, m3, m4⟩ := hc
    have hgx : L[i]?.getD (0, []) = (c, cutK c B a b) := by rw [List.getElem?_eq_getElem hlt]; exact m3
    have hmB : b * c.toNat ≤ B.length := by rw [hBl]; exact Nat.mul_le_mul_right _ m2
    have hcl := cutK_len (f := a) hmB
    have hdl : (cutK c B a b).length / c.toNat = b - a := by rw [hcl]; exact Nat.mul_div_cancel _ (by omega)
    have hab : a + (b - a) = b := by omega
    rw [hgx]
    simp only [hdl, hab]
    obtain ⟨t1, t2, t3⟩ := push_two hX (by omega) hBl (by omega) hBa (by omega) m1 m2
    have hcle : (cutK c B a b).length ≤ 100 := by
      have : (cutK c B a b).length ≤ B.length := by unfold cutK; rw [List.length_take, List.length_drop]; omega
      omega
    have hpo := push_ok hX (by omega) (hla a (by omega)) (by omega) (all_take hBa _) (by omega)
    have hpl := hpo.2.1.len
    have hpb := push_ok hX (by omega) (hla b m2) (by omega) (all_take hBa _) (by omega)
    rw [t1, t2, t3]
    refine ⟨by omega, ⟨by omega, by omega⟩, fun h => absurd h (by decide), fun _ => ⟨⟨⟨(wrapN _ (by omega)).symm, (IntWalk.i64_in _ (by have := hpb.2.2.2.1; have := hpb.2.2.2.2.2.2.2.2.2.2.2; omega)).symm⟩, rfl, rfl, rfl, rfl, rfl, rfl, rfl, rfl, rfl, rfl, rfl, rfl, rfl, rfl⟩, ⟨by omega, m2, m4⟩, by omega⟩⟩
  · have hil : i = L.length := by have := of_decide_eq_false h1; omega
    rw [hil, List.drop_length] at hc
    have hqF : a = F := hc
    rw [hqF, ← hBl, List.take_length]
    obtain ⟨p1, p2, p3, p4, p5, p6, p7, p8, p9, p10, p11, p12, p13⟩ := push_ok hX (by omega) hBl (by omega) hBa (by omega)
    rw [IntWalk.i64_in (n.tmod 20) (by omega), IntWalk.i64_in (m.tmod 20) (by omega), IntWalk.i64_in (n.tmod 20 + m.tmod 20) (by omega)]
    obtain ⟨N, hN⟩ : ∃ N : Nat, n.tmod 20 = (N : Int) := ⟨(n.tmod 20).toNat, by omega⟩
    obtain ⟨M, hM⟩ : ∃ M : Nat, m.tmod 20 = (M : Int) := ⟨(m.tmod 20).toNat, by omega⟩
    rw [hN, hM]
    rw [hN] at ht2
    rw [hM] at ht3
    generalize puR ⟨q, ⟨ct, cd, cg, 0⟩, ⟨c, P, l⟩, lo, mi⟩ c B = G at *
    rw [p1]
    obtain ⟨q1, q2, q3, q4, q5, q6, q7, q8, q9⟩ := pull_two p2 (by omega) (by rw [p8]) (by rw [p9]; exact hfew.1) (by rw [p7]; exact hfew.2) (by omega) N M (by omega) (by omega)
    have hGl := p2.len
    have hPl := (pull_ok p2 (by omega) (i := (N : Int)) (by omega) (by omega)).2.1
    have hPl2 := hPl.len
    have hQl := (pull_ok hPl (by omega) (i := (M : Int)) (by omega) (by omega)).2.1.len
    have hk1 := pull_ok p2 (by omega) (i := (N : Int)) (by omega) (by omega)
    have hk2 := pull_ok hPl (by omega) (i := (M : Int)) (by omega) (by omega)
    have hk3 := pull_ok p2 (by omega) (i := (N : Int) + M) (by omega) (by omega)
    have hO1 := plO_len p2 q2 hk1.2.2.2.2.2.2.2.2.1
    have hO2 := plO_len hPl q3 hk2.2.2.2.2.2.2.2.2.1
    have hO3 := plO_len p2 q1 hk3.2.2.2.2.2.2.2.2.1
    have hb1 := Nat.mul_le_mul (show (N : Int).toNat ≤ 20 by omega) (show c.toNat ≤ 2 by omega)
    have hb2 := Nat.mul_le_mul (show (M : Int).toNat ≤ 20 by omega) (show c.toNat ≤ 2 by omega)
    have hb3 := Nat.mul_le_mul (show ((N : Int) + M).toNat ≤ 40 by omega) (show c.toNat ≤ 2 by omega)
    rw [q1, q2, q3, q4, q5]
    refine ⟨by decide, by decide, by omega, by decide, by omega, by decide, by omega, by kernel_rfl, fun _ => by omega, fun _ => by omega, fun _ => by omega, fun _ => by omega, ?_⟩
    have e1 := hk1.2.2.2.1
    have e2 := hk1.2.2.2.2.2.2.2.2.1
    have e3 := hk2.2.2.2.1
    have e4 := hk2.2.2.2.2.2.2.2.2.1
    rw [IntWalk.i64_in (plM G N + plM (plR G N) M) (by omega)]
    by_cases h0 : plM G N ≤ 0
    · rw [q9 h0, q6, q7]
      simp <;> omega
    · simp <;> omega

end Go.Vam
