/- The law BridgeHolds gives true. Conditions: none. -/
import Derived.Test.YtmlmgpnkemdilaaBdgQ
set_option linter.unusedVariables false
set_option linter.unusedSimpArgs false
set_option maxRecDepth 40000
set_option maxHeartbeats 4000000
namespace Go.Vam
open Go.Proofs

theorem push_small {n d W dr J : Int} {l : List (Int × Int)} (h : dclP n d W dr J l) (hd : 1 ≤ d) (hW : 0 ≤ W ∧ W ≤ 40) (hdr : 0 ≤ dr ∧ dr ≤ 1500) (hJ : 0 ≤ J ∧ J ≤ 7) (k : Nat) (hk : k < l.length) : tP l k ≤ 100 := by
  have hu := (win_of h).u k 0 (by omega)
  have hv := (win_of h).vu k 0 (by omega)
  rw [Nat.zero_add, sm_one, show ((0 : Nat) : Int) + 1 = 1 by omega, Int.one_mul] at hu
  rw [Nat.zero_add, sm_one, sm_one, show ((0 : Nat) : Int) + 1 = 1 by omega, Int.one_mul] at hv
  have hw := mulb hW.1 hW.2 hdr.1 hdr.2
  have e : d * (65536 * tP l k) ≤ d * (65536 * W + 2 * (W * dr) + 131072 * J) := by
    rw [Int.mul_add, Int.mul_add, Int.mul_left_comm d 65536, Int.mul_left_comm d 65536, Int.mul_left_comm d 2, Int.mul_left_comm d 131072, Int.mul_left_comm d W, ← Int.mul_assoc W d, Int.mul_comm d W, Int.mul_comm d J]
    omega
  have := Int.le_of_mul_le_mul_left e (by omega)
  omega


/-- A plan: the control, the capacity and the bound of its deviation. -/
structure planX (n d W dr J : Int) (c : Ct) (M sw : Int) : Prop where
  hk : drM dr c.m
  hv : ctV c = true
  hp : phV ⟨n, d, 0, 0, 0⟩ = true
  hW : 0 ≤ W
  hJ : 0 ≤ J
  hsw : 0 ≤ sw ∧ 2 * W * (dr + c.m) ≤ sw * 65536
  hU : ∃ U, c.m ≤ U * c.g ∧ c.d + U ≤ M
  hM : 0 ≤ M
  ht : c.t = W + sw + 2 * J + 3 + (M + sw + 2 * J + 2)
  hq : c.t + (M + sw + 2 * J + 2) ≤ 65536
theorem pl_sd {n d W dr J : Int} {c : Ct} {M sw : Int} (h : planX n d W dr J c M sw) : 0 < d ∧ 0 ≤ n ∧ 2 * (W * d) * (dr + c.m) ≤ 65536 * (sw * d) := by
  have hp := phV_in h.hp
  have hd : 0 < d := by have := hp.2.1.1; show 0 < (⟨n, d, 0, 0, 0⟩ : Ph).d; omega
  have e : 2 * (W * d) * (dr + c.m) = 2 * W * (dr + c.m) * d := by
    rw [Int.mul_assoc, Int.mul_assoc W d, Int.mul_comm d, ← Int.mul_assoc W, ← Int.mul_assoc 2, ← Int.mul_assoc 2]
  have e2 : sw * 65536 * d = 65536 * (sw * d) := by rw [Int.mul_comm sw, Int.mul_assoc]
  refine ⟨hd, by have := hp.1.1; show 0 ≤ (⟨n, d, 0, 0, 0⟩ : Ph).n; omega, ?_⟩
  rw [e, ← e2]
  exact Int.mul_le_mul_of_nonneg_right h.hsw.2 (by omega)
theorem win_mono {X Y : Nat → Int} {A dr Jd : Int} {L K : Nat} (h : winX X Y A dr Jd L) (hK : K ≤ L) : winX X Y A dr Jd K := ⟨fun i m hm => h.u i m (by omega), fun i m hm => h.w i m (by omega), fun i m hm => h.uv i m (by omega), fun i m hm => h.vu i m (by omega)⟩
theorem hs_up {n d : Int} {c : Ct} {l : List (Int × Int)} {F : Int} (hp : phV ⟨n, d, 0, 0, 0⟩ = true) (hl : ∀ j, j < l.length → inB (l[j]?.getD (0, 0))) (hF : F ≤ 65536) : ∀ k : Nat, k ≤ l.length → (hsS n d c l F k).1 ≤ 65536 * ((k : Int) + 1)
  | 0, _ => by show F ≤ _; omega
  | k + 1, hk => by
    have ih := hs_up (c := c) hp hl hF k (by omega)
    obtain ⟨i1, i2, i3⟩ := hs_V (c := c) (F := F) hp hl k (by omega)
    have hq := qAt_in i1 (n := tG l k) (hl k (by omega)).1
    have hb := (hl k (by omega)).2
    show (hsS n d c l F k).1 - qAt (hsA n d c (hsS n d c l F k)) (tG l k) + tP l k ≤ _
    have : tP l k ≤ 65536 := hb.2
    omega
theorem hs_dev {n d W dr J : Int} {c : Ct} {M sw F : Int} {l : List (Int × Int)} (h : planX n d W dr J c M sw) (hd : dclP n d W dr J l) (hL : l.length ≤ 40) (h0 : F - c.t ≤ M ∧ c.t - F ≤ M) : ∀ k : Nat, k ≤ l.length → (hsS n d c l F k).1 - c.t ≤ M + sw + 2 * J + 1 ∧ c.t - (hsS n d c l F k).1 ≤ M + sw + 2 * J + 1 := by
  intro k
  induction k using Nat.strongRecOn with
  | _ k ih =>
    intro hk
    obtain ⟨d0, n0, hsd⟩ := pl_sd h
    have hq := h.hq
    have ht := h.ht
    have hM := h.hM
    have hW := h.hW
    have hJ := h.hJ
    have hsw := h.hsw
    have hFb : F ≤ 65536 := by omega
    obtain ⟨U, hU1, hU2⟩ := h.hU
    have hf : ∀ i j, i ≤ k → j ≤ k → (hsS n d c l F i).2 - (hsS n d c l F j).2 < 65536 * d := fun i j hi hj => by
      have a := (hs_V (c := c) (F := F) h.hp hd.1 i (by omega)).2.1
      have b := (hs_V (c := c) (F := F) h.hp hd.1 j (by omega)).2.1
      omega
    have hrng : ∀ j, j < k → 0 ≤ (hsS n d c l F j).1 ∧ (hsS n d c l F j).1 ≤ 2147483647 := fun j hj => by
      have a := ih j hj (by omega)
      have b := hs_up (c := c) h.hp hd.1 hFb j (by omega)
      omega
    have hX : ∀ j, j < k → 0 ≤ n * tG l j := fun j hj => Int.mul_nonneg n0 (hd.1 j (by omega)).1.1
    have hw := win_mono (win_of hd) hk
    have hst := fun j (hj : j < k) => hs_step (c := c) (F := F) h.hp hd.1 j (by omega)
    have up := dev_up (F := fun j => (hsS n d c l F j).1) (f := fun j => (hsS n d c l F j).2) (a := fun j => ajX c (hsS n d c l F j).1) (T := c.t) (M := M) (L := k) h.hk (Int.mul_nonneg hW (by omega)) hJ rfl d0 hsd hw hX hsw.1 hf hst (fun j _ => aj_in h.hv _) (fun j hj => (aj_most h.hv hU1 hU2 (hrng j hj)).1) h0.1 k (Nat.le_refl _)
    have dn := dev_dn (F := fun j => (hsS n d c l F j).1) (f := fun j => (hsS n d c l F j).2) (a := fun j => ajX c (hsS n d c l F j).1) (T := c.t) (M := M) (L := k) h.hk (Int.mul_nonneg hW (by omega)) hJ rfl d0 hsd hw hX hsw.1 hf hst (fun j _ => aj_in h.hv _) (fun j hj => (aj_most h.hv hU1 hU2 (hrng j hj)).2) h0.2 k (Nat.le_refl _)
    exact ⟨up, dn⟩
theorem hs_ned {n d W dr J : Int} {c : Ct} {M sw F : Int} {l : List (Int × Int)} (h : planX n d W dr J c M sw) (hd : dclP n d W dr J l) (k : Nat) (hk : k < l.length) : ned (hsA n d c (hsS n d c l F k)) (tG l k) ≤ W + sw + 2 * J + 3 := by
  obtain ⟨d0, n0, hsd⟩ := pl_sd h
  obtain ⟨i1, i2, i3⟩ := hs_V (c := c) (F := F) h.hp hd.1 k (by omega)
  have hb := (hd.1 k hk).1
  have hb0 : 0 ≤ tG l k := hb.1
  have hq := qAt_in i1 (n := tG l k) hb
  have hX : 0 ≤ n * tG l k := Int.mul_nonneg n0 hb.1
  have ha := aj_in h.hv (hsS n d c l F k).1
  have ht : ajX c (hsS n d c l F k).1 * (n * tG l k) ≤ c.m * (n * tG l k) := Int.mul_le_mul_of_nonneg_right ha.2 hX
  have hw := (win_of hd).u k 0 (by omega)
  rw [Nat.zero_add, sm_one, show ((0 : Nat) : Int) + 1 = 1 by omega, Int.one_mul] at hw
  have hJ0 : 0 ≤ J * d := Int.mul_nonneg h.hJ (by omega)
  have hnum := num_need (f := (hsS n d c l F k).2) (Xi := n * tG l k) (t := ajX c (hsS n d c l F k).1 * (n * tG l k)) h.hk (Int.mul_nonneg h.hW (by omega)) hJ0 (by omega) ht hsd d0 i2.2
  have e0 : ahd (hsA n d c (hsS n d c l F k)) (tG l k) = (hsS n d c l F k).2 + (65536 * (n * tG l k) + ajX c (hsS n d c l F k).1 * (n * tG l k)) := by
    have e1 : stp (hsA n d c (hsS n d c l F k)) = n * (65536 + ajX c (hsS n d c l F k).1) := (stp_in i1).1
    show (hsS n d c l F k).2 + tG l k * stp _ = _
    rw [e1, ← Int.add_mul, Int.mul_comm (tG l k), Int.mul_assoc, Int.mul_comm (65536 + _) (tG l k), ← Int.mul_assoc, Int.mul_comm (n * tG l k)]
  have hlt : qAt (hsA n d c (hsS n d c l F k)) (tG l k) < W + sw + 2 * J + 2 := by
    unfold qAt
    rw [i3]
    apply Int.ediv_lt_of_lt_mul (by omega)
    have e2 : (W + sw + 2 * J + 2) * (65536 * d) = 65536 * (W * d) + 65536 * (sw * d) + 131072 * (J * d) + 131072 * d := by
      rw [Int.add_mul, Int.add_mul, Int.add_mul, Int.mul_left_comm W 65536 d, Int.mul_left_comm sw 65536 d, Int.mul_assoc 2 J, Int.mul_left_comm J 65536 d]
      omega
    rw [e0, e2]
    omega
  have hJ := h.hJ
  have hW := h.hW
  have hsw := h.hsw.1
  unfold ned
  split
  · omega
  · have hm := qAt_mono i1 (show tG l k - 1 ≤ tG l k by omega)
    omega
/-- The bridge ahead of each pull. -/
def hsB (x0 : Br) (l : List (Int × Int)) : Nat → Br
  | 0 => x0
  | k + 1 => puR (plR (hsB x0 l k) (tG l k)) 1 (waO k 1 0 (tP l k).toNat)
structure hsI (n d : Int) (c : Ct) (q F : Int) (x0 : Br) (l : List (Int × Int)) (k : Nat) : Prop where
  ok : okB (hsB x0 l k) 1 (65536 + 131072 * (k : Int))
  hq : (hsB x0 l k).q = q
  hc : (hsB x0 l k).c = c
  hn : (hsB x0 l k).r.p.n = n
  hd : (hsB x0 l k).r.p.d = d
  hf : (hsB x0 l k).r.p.f = (hsS n d c l F k).2
  hw : waN (hsB x0 l k).r = (hsS n d c l F k).1
  hlo : (hsB x0 l k).lo = 0
  hmi : (hsB x0 l k).mi = 0
theorem hs_next {n d W dr J : Int} {c : Ct} {M sw F : Int} {l : List (Int × Int)} {x0 : Br} (h : planX n d W dr J c M sw) (hd : dclP n d W dr J l) (hL : l.length ≤ 40) (h0 : F - c.t ≤ M ∧ c.t - F ≤ M) (k : Nat) (hk : k < l.length) (hi : hsI n d c (c.t + (M + sw + 2 * J + 2)) F x0 l k) :
    plE (hsB x0 l k) (tG l k) = 0 ∧ plM (hsB x0 l k) (tG l k) = 0 ∧ puE (plR (hsB x0 l k) (tG l k)) 1 (waO k 1 0 (tP l k).toNat) = 0 ∧ puL (plR (hsB x0 l k) (tG l k)) 1 (waO k 1 0 (tP l k).toNat) = 0 ∧ okB (plR (hsB x0 l k) (tG l k)) 1 (65536 + 131072 * (k : Int) + 65536) ∧ hsI n d c (c.t + (M + sw + 2 * J + 2)) F x0 l (k + 1) := by
  obtain ⟨i1, i2, i3⟩ := hs_V (c := c) (F := F) h.hp hd.1 k (by omega)
  have hb := hd.1 k hk
  have hb1 : 0 ≤ tG l k ∧ tG l k ≤ 65536 := hb.1
  have hb2 : 0 ≤ tP l k ∧ tP l k ≤ 65536 := hb.2
  have hdv := hs_dev h hd hL h0 k (by omega)
  have hdv2 := hs_dev h hd hL h0 (k + 1) (by omega)
  have hne := hs_ned (F := F) h hd k hk
  have ht := h.ht
  have hok := hi.ok
  obtain ⟨p1, p2, p3, p4, p5, p6, p7, p8, p9, p10, p11, p12, p13⟩ := pull_ok hok (by decide) hb1 (by omega)
  have b1 := (brV_in hok.v).1
  have hA := (rsV_in (plA_V hok.v)).1
  have eA : (plA (hsB x0 l k)).p = ⟨n, d, ajX c (hsS n d c l F k).1, (hsB x0 l k).r.p.p, (hsS n d c l F k).2⟩ := by
    unfold plA
    rw [hi.hn, hi.hd, hi.hc, hi.hw, hi.hf]
  have hned : ned (plA (hsB x0 l k)).p (tG l k) = ned (hsA n d c (hsS n d c l F k)) (tG l k) := by rw [eA]; rfl
  have hqA : qAt (plA (hsB x0 l k)).p (tG l k) = qAt (hsA n d c (hsS n d c l F k)) (tG l k) := by rw [eA]; rfl
  have hfA : fAt (plA (hsB x0 l k)).p (tG l k) = fAt (hsA n d c (hsS n d c l F k)) (tG l k) := by rw [eA]; rfl
  have hw := hi.hw
  have hw0 := (waN_V b1 (by have := hok.len; omega)).2.1
  have hgN : ((tG l k).toNat : Int) = tG l k := by omega
  have hmk := (mkN_iff hA hw0 (k := (tG l k).toNat) (by omega)).2 (by rw [hgN, hned]; omega)
  have hK : plK (hsB x0 l k) (tG l k) = tG l k := by unfold plK; omega
  have hqn := (qN_eq hA (g := (tG l k).toNat) (by omega)).1
  rw [hgN] at hqn
  rw [hK] at p4 p8 p9 p10 p11 p12 p13
  have hM0 : plM (hsB x0 l k) (tG l k) = 0 := by omega
  have hpo := po_ok (plA_V hok.v) (by have := hok.len; show (hsB x0 l k).r.l.length ≤ _; omega) (by have := (plE_ok p1).2.2; rw [hK] at this; exact (tkE_po this).2.1)
  have ep : (plR (hsB x0 l k) (tG l k)).r.p = ⟨(plA (hsB x0 l k)).p.n, (plA (hsB x0 l k)).p.d, (plA (hsB x0 l k)).p.a, (plA (hsB x0 l k)).p.p + qAt (plA (hsB x0 l k)).p (tG l k), fAt (plA (hsB x0 l k)).p (tG l k)⟩ := by rw [p8]; exact hpo.2.2.2.1
  have ok2 : okB (plR (hsB x0 l k) (tG l k)) 1 (65536 + 131072 * (k : Int) + 65536) := okB_mono p2 (by omega)
  obtain ⟨q1, q2, q3, q4, q5, q6, q7, q8, q9, q10, q11, q12, q13⟩ := push_ok ok2 (by decide) (waO_len k 1 0 (tP l k).toNat) (by omega) (waO_all _ _ _ _) (by omega)
  have hpN : ((tP l k).toNat : Int) = tP l k := by omega
  have e1 : (hsS n d c l F (k + 1)).1 = (hsS n d c l F k).1 - qAt (hsA n d c (hsS n d c l F k)) (tG l k) + tP l k := rfl
  have hpu : puN (plR (hsB x0 l k) (tG l k)) 1 (waO k 1 0 (tP l k).toNat) = tP l k := by
    rw [q3, p6, hi.hq, p12, hqn, hqA, hw]
    omega
  have hL0 : puL (plR (hsB x0 l k) (tG l k)) 1 (waO k 1 0 (tP l k).toNat) = 0 := by omega
  refine ⟨p1, hM0, q1, hL0, ok2, ?_⟩
  have eB : hsB x0 l (k + 1) = puR (plR (hsB x0 l k) (tG l k)) 1 (waO k 1 0 (tP l k).toNat) := rfl
  refine ⟨by rw [eB]; exact okB_mono q2 (by omega), by rw [eB, q7, p6, hi.hq], by rw [eB, q8, p7, hi.hc], ?_, ?_, ?_, ?_, by rw [eB, q5, hL0, p3, hi.hlo]; rfl, by rw [eB, q6, p5, hM0, hi.hmi]; rfl⟩
  · rw [eB, q9, ep]; exact hi.hn
  · rw [eB, q9, ep]; exact hi.hd
  · rw [eB, q9, ep]; exact hfA
  · rw [eB, q10, hpu, p12, hqn, hqA, hw, e1]
theorem hs_all {n d W dr J : Int} {c : Ct} {M sw F : Int} {l : List (Int × Int)} {x0 : Br} (h : planX n d W dr J c M sw) (hd : dclP n d W dr J l) (hL : l.length ≤ 40) (h0 : F - c.t ≤ M ∧ c.t - F ≤ M) (hi : hsI n d c (c.t + (M + sw + 2 * J + 2)) F x0 l 0) : ∀ k, k ≤ l.length → hsI n d c (c.t + (M + sw + 2 * J + 2)) F x0 l k
  | 0, _ => hi
  | k + 1, hk => (hs_next h hd hL h0 k (by omega) (hs_all h hd hL h0 hi k (by omega))).2.2.2.2.2


theorem rb_V (i : Nat) (hi : i < 5) : phV ⟨rbN i, rbD i, 0, 0, 0⟩ = true ∧ rtV (rbN i) (rbD i) = true ∧ (3 ≤ IntKind.i64.wrap (3 + IntKind.i64.wrap ((IntKind.i64.wrap (2 * rbN i)).tdiv (rbD i))) ∧ IntKind.i64.wrap (3 + IntKind.i64.wrap ((IntKind.i64.wrap (2 * rbN i)).tdiv (rbD i))) ≤ 7) := by
  have : ∀ i, i < 5 → phV ⟨rbN i, rbD i, 0, 0, 0⟩ = true ∧ rtV (rbN i) (rbD i) = true ∧ (3 ≤ IntKind.i64.wrap (3 + IntKind.i64.wrap ((IntKind.i64.wrap (2 * rbN i)).tdiv (rbD i))) ∧ IntKind.i64.wrap (3 + IntKind.i64.wrap ((IntKind.i64.wrap (2 * rbN i)).tdiv (rbD i))) ≤ 7) := by decide +kernel
  exact this i hi
theorem rn_in (l : List UInt8) : (16 ≤ rnW l ∧ rnW l ≤ 40) ∧ (rnX l = 0 ∨ rnX l = 66 ∨ rnX l = 400 ∨ rnX l = 1500) ∧ (3 ≤ rnJ l ∧ rnJ l ≤ 7) ∧ phV ⟨rbN (dN l 5).toNat, rbD (dN l 5).toNat, 0, 0, 0⟩ = true ∧ rtV (rbN (dN l 5).toNat) (rbD (dN l 5).toNat) = true ∧ (1 ≤ rbN (dN l 5).toNat ∧ rbN (dN l 5).toNat ≤ 160) ∧ (1 ≤ rbD (dN l 5).toNat ∧ rbD (dN l 5).toNat ≤ 160) := by
  have a1 := dN_lt l 5 (by decide)
  have a2 := dN_ge l 5
  have b1 := dN_lt (dT l 5) 4 (by decide)
  have b2 := dN_ge (dT l 5) 4
  have c1 := dN_lt (dT (dT l 5) 4) 4 (by decide)
  have c2 := dN_ge (dT (dT l 5) 4) 4
  have h1 := rb_V (dN l 5).toNat (by omega)
  have h2 := rb_in (dN l 5).toNat (by omega)
  refine ⟨?_, ?_, h1.2.2, h1.1, h1.2.1, h2⟩
  · unfold rnW
    rw [IntWalk.i64_in (8 * _) (by omega), IntWalk.i64_in (16 + _) (by omega)]
    omega
  · unfold rnX
    generalize hm : (dN (dT (dT l 5) 4) 4).toNat = m
    have hm4 : m < 4 := by omega
    have key : ∀ m, m < 4 → (([0, 66, 400, 1500] : List Int)[m]?.getD 0 = 0 ∨ ([0, 66, 400, 1500] : List Int)[m]?.getD 0 = 66 ∨ ([0, 66, 400, 1500] : List Int)[m]?.getD 0 = 400 ∨ ([0, 66, 400, 1500] : List Int)[m]?.getD 0 = 1500) := by decide
    exact key m hm4
def plX (W dr J dead g : Int) : Int := max (plS W dr J) (dead + upI (plMo dr) g)


theorem plan_ok {n d W dr J dead g : Int} (hp : phV ⟨n, d, 0, 0, 0⟩ = true) (hW : 16 ≤ W ∧ W ≤ 40) (hd : dr = 0 ∨ dr = 66 ∨ dr = 400 ∨ dr = 1500) (hJ : 3 ≤ J ∧ J ≤ 7) (hde : 0 ≤ dead ∧ dead ≤ 39) (hg : 1 ≤ g ∧ g ≤ 256) :
    planX n d W dr J ⟨plT W dr J dead g, dead, g, plMo dr⟩ (plX W dr J dead g) (swI W (dr + plMo dr)) ∧ plB W dr J dead g = plX W dr J dead g + swI W (dr + plMo dr) + 2 * J + 2 ∧ (0 ≤ plS W dr J ∧ plS W dr J ≤ plX W dr J dead g ∧ plS W dr J ≤ 100) := by
  obtain ⟨s1, s2, s3, s4, s5⟩ := pl_small hW hd hJ hde hg
  have hB : plB W dr J dead g = plX W dr J dead g + swI W (dr + plMo dr) + 2 * J + 2 := rfl
  have hS : plS W dr J = swI W dr + J + 1 := rfl
  have hX : plX W dr J dead g = max (plS W dr J) (dead + upI (plMo dr) g) := rfl
  have hT : plT W dr J dead g = W + swI W (dr + plMo dr) + 2 * J + 3 + plB W dr J dead g := rfl
  have hdr : 0 ≤ dr ∧ dr ≤ 1500 := by omega
  refine ⟨⟨plMo_eq hd, ?_, hp, by omega, by omega, ⟨s3.1, (swI_in (W := W) (n := dr + plMo dr) (by omega) (by omega)).2.2⟩, ⟨upI (plMo dr) g, (upI_in s1.1 hg.1).2.2, by show dead + _ ≤ _; omega⟩, by omega, ?_, ?_⟩, hB, by omega, by omega, by omega⟩
  · simp only [ctV, Bool.and_eq_true, decide_eq_true_eq]
    omega
  · show plT W dr J dead g = _
    omega
  · show plT W dr J dead g + _ ≤ _
    omega


theorem spec_holds19 (s : List UInt8) (w v z : Int) (hw : 0 ≤ w ∧ w ≤ 255) (hv : 0 ≤ v ∧ v ≤ 255) (hz : -128 ≤ z ∧ z ≤ 127) : Spec Try.prog 0 7 [vL (LB s), vI .u8 w, vI .u8 v, vI .i8 z] [] [] (vB true) [] [] := by
  refine spec_of_E (X := ⟨Try.prog, tt, Try.f7.ntmps, 1, fun _ => 0, (tab [(8, E_sane), (11, E_new), (33, E_run), (34, E_plan18), (35, E_declared), (36, E_start18), (37, E_bound18), (25, E_bnew), (23, E_brfill), (18, E_pull), (13, E_wave), (15, E_push)])⟩) (M := [(4, [0, 0, 0, 0, 0, 46768052400033431048884703226439173347772911845135, 0, 0, 0, 0, 0, 46768052400033431048884703226439173288399283945231, 0, 0, 0, 0, 0, 46768052400033431048884703226439173067036669509391, 0, 0, 0]), (5, [0, 0, 0, 0, 0, 46768052400033431048884703226512931051408906518287, 0, 0, 0, 0, 0, 46768052400033431048884703226511417841934110031631, 0, 0, 0, 0]), (9, [0, 0, 0, 0, 0, 46768052400033431048887166412796635903655296368399, 0, 0, 0, 0, 0, 46768052400033431048886560136498099167124181221135, 0, 0]), (10, [0, 0, 0, 0, 0, 46768052400033431058939252225515029689442519482127, 0, 0, 0, 0, 0, 46768052400033431056490606827808547505692051767055, 0, 0, 0]), (17, [0, 0, 0, 0, 0, 46768052405456681271687159987886703902655638404879, 0, 0, 0, 0, 0, 46768052404839919481642959022859337426685558521615, 0, 0]), (19, [0, 0, 0, 0, 0, 46768057637659622695969532854701128686488147459855, 0, 0, 0, 0, 0, 46768057278321443227458515437377543238540911968015, 0, 0, 0]), (20, [0, 0, 0, 0, 0, 46773410154067378031094457182754174865563644329743, 0, 0, 0, 0, 0, 46772334143111548928527878084347519582120980774671, 0, 0]), (21, [0, 0, 0, 0, 0, 93353417089955961566627157269270692348244682342159, 0, 0, 0, 0, 0, 87690098245298712758587878542495095647077943738127, 0, 0])]) (m := 46768052400033431048884703226439171096711832534799) rfl rfl ⟨tt_ok, tab_ok (tabs_cons E_sane_ok (tabs_cons E_new_ok (tabs_cons E_run_ok (tabs_cons E_plan18_ok (tabs_cons E_declared_ok (tabs_cons E_start18_ok (tabs_cons E_bound18_ok (tabs_cons E_bnew_ok (tabs_cons E_brfill_ok (tabs_cons E_pull_ok (tabs_cons E_wave_ok (tabs_cons E_push_ok tabs_nil)))))))))))) _ rfl rfl⟩ tt_mixed Try.func7 rfl (by decide) (by show (4 : Nat) ≤ _; exact Nat.le_of_ble_eq_true rfl) ⟨fun m hm => (V.bare_has rfl m hm).elim, by simp, by simp⟩ ?_
  simp only [↓gPre, gPost, gCore, handV, V.bufs, buildArr, toCs, Nat.reduceShiftRight, Nat.reduceMod, addB, addK, zeroOp, callSem, resName, keepsB, newB, V.pure, C.pure, V.ptrs, C.ptrs, C.bufs, appendSem, appendTo, appendZ, dstOk, lk, V.cells, Op.eff, partV, partD, cut, lay, zeroD, C.toDs, C.toD, V.toD, toDs, buildCells, if_true, if_false, ↓reduceIte, reduceCtorEq, Nat.reduceEqDiff, Nat.reduceLT, Nat.reduceLeDiff, implies_true, forall_const, eq_self, ne_eq, not_true_eq_false, not_false_eq_true, imp_self, Nat.reduceAdd, Nat.reduceMul, Int.reduceLE, Int.reduceLT, Int.reduceNeg, Int.reduceAdd, Int.reduceToNat, E_sane_eq, E_new_eq, E_run_eq, E_plan18_eq, E_declared_eq, E_start18_eq, E_bound18_eq, E_bnew_eq, E_brfill_eq, E_pull_eq, E_wave_eq, E_push_eq, rs_eta, ph_eta, ct_eta, br_eta, LT_nil, LT_length, LT_getD, LT_append, LT_one, LT_cells, LT_inj, LT_nil_eq, LT_trs_LT, LT_take, LT_drop, trs_LT, gBD, Try.ntmps7, Try.results7, gTT]
  obtain ⟨r1, r2, r3, r4, r5, r6, r7⟩ := rn_in (List.take 300 s)
  have hlen := rnM_len (List.take 300 s) 40
  have hw1 : 0 ≤ w.tmod 40 ∧ w.tmod 40 ≤ 39 := by rw [Int.tmod_eq_emod_of_nonneg hw.1]; omega
  rw [IntWalk.i64_in (w.tmod 40) (by omega), IntWalk.i64_in v (by omega), IntWalk.i64_in (1 + v) (by omega), IntWalk.i64_in z (by omega)]
  generalize rbN (dN (List.take 300 s) 5).toNat = n at *
  generalize rbD (dN (List.take 300 s) 5).toNat = d at *
  generalize rnW (List.take 300 s) = W at *
  generalize rnX (List.take 300 s) = dr at *
  generalize rnJ (List.take 300 s) = J at *
  generalize rnM (List.take 300 s) 40 = L at *
  generalize w.tmod 40 = de at *
  have hg : 1 ≤ 1 + v ∧ 1 + v ≤ 256 := by omega
  generalize 1 + v = g at *
  obtain ⟨P1, P2, P3⟩ := plan_ok r4 r1 r2 r3 hw1 hg
  have hs5 := (pl_small r1 r2 r3 hw1 hg).2.2.2.2
  have hdr : 0 ≤ dr ∧ dr ≤ 1500 := by omega
  rw [IntWalk.i64_in (plS W dr J + 1) (by omega)]
  have hoff : -(plS W dr J) ≤ z.tmod (plS W dr J + 1) ∧ z.tmod (plS W dr J + 1) ≤ plS W dr J := by
    have h1 := Int.lt_tmod_of_pos z (show 0 < plS W dr J + 1 by omega)
    have h2 := Int.tmod_lt_of_pos z (show 0 < plS W dr J + 1 by omega)
    omega
  generalize z.tmod (plS W dr J + 1) = off at *
  have hq := P1.hq
  have ht := P1.ht
  have hv' := P1.hv
  have hsw := P1.hsw
  have hM := P1.hM
  simp only at hq ht
  rw [IntWalk.i64_in (plT W dr J de g + off) (by omega)]
  obtain ⟨N1, N2, N3, N4⟩ := new_ok (ch := 1) (n := n) (d := d) (q := plT W dr J de g + plB W dr J de g) (fi := plT W dr J de g + off) (x := ⟨plT W dr J de g, de, g, plMo dr⟩) (by decide) r4 hv' (by omega) (by omega)
  rw [N1]
  refine ⟨by decide, ⟨r1, r2, r3, hw1, hg⟩, ⟨r5, r6, r7, by omega, by omega, by omega, by omega⟩, fun hd => ?_⟩
  have hD : dclP n d W dr J L := dclX_in (by simpa using hd)
  have hi0 : hsI n d ⟨plT W dr J de g, de, g, plMo dr⟩ (plT W dr J de g + (plX W dr J de g + swI W (dr + plMo dr) + 2 * J + 2)) (plT W dr J de g + off) (bnR 1 n d ⟨plT W dr J de g, de, g, plMo dr⟩ (plT W dr J de g + plB W dr J de g) (plT W dr J de g + off)) L 0 := by
    have e0 : hsB (bnR 1 n d ⟨plT W dr J de g, de, g, plMo dr⟩ (plT W dr J de g + plB W dr J de g) (plT W dr J de g + off)) L 0 = bnR 1 n d ⟨plT W dr J de g, de, g, plMo dr⟩ (plT W dr J de g + plB W dr J de g) (plT W dr J de g + off) := rfl
    refine ⟨by rw [e0]; exact okB_mono N3 (by omega), by rw [e0, N2]; show plT W dr J de g + plB W dr J de g = _; omega, by rw [e0, N2], by rw [e0, N2], by rw [e0, N2], by rw [e0, N2]; rfl, by rw [e0, N4]; rfl, by rw [e0, N2], by rw [e0, N2]⟩
  have hall := hs_all (F := plT W dr J de g + off) (x0 := bnR 1 n d ⟨plT W dr J de g, de, g, plMo dr⟩ (plT W dr J de g + plB W dr J de g) (plT W dr J de g + off)) P1 hD (by omega) (by simp only; omega) hi0
  refine ⟨⟨by omega, by omega, by omega⟩, by omega, ⟨hv', by omega, by omega, by omega, hs5, by omega, by omega⟩, fun h => absurd h (by decide), fun _ => ?_⟩
  refine ELoop_keep (fun k => ⟨[(112, vI .i64 (k : Nat))], [(⟨1, 17⟩, [.d (.int .i64 (hsB (bnR 1 n d ⟨plT W dr J de g, de, g, plMo dr⟩ (plT W dr J de g + plB W dr J de g) (plT W dr J de g + off)) L k).q), .d (.int .i64 (hsB (bnR 1 n d ⟨plT W dr J de g, de, g, plMo dr⟩ (plT W dr J de g + plB W dr J de g) (plT W dr J de g + off)) L k).c.t), .d (.int .i64 (hsB (bnR 1 n d ⟨plT W dr J de g, de, g, plMo dr⟩ (plT W dr J de g + plB W dr J de g) (plT W dr J de g + off)) L k).c.d), .d (.int .i64 (hsB (bnR 1 n d ⟨plT W dr J de g, de, g, plMo dr⟩ (plT W dr J de g + plB W dr J de g) (plT W dr J de g + off)) L k).c.g), .d (.int .i64 (hsB (bnR 1 n d ⟨plT W dr J de g, de, g, plMo dr⟩ (plT W dr J de g + plB W dr J de g) (plT W dr J de g + off)) L k).c.m), .d (.int .i64 (hsB (bnR 1 n d ⟨plT W dr J de g, de, g, plMo dr⟩ (plT W dr J de g + plB W dr J de g) (plT W dr J de g + off)) L k).r.c), .d (.int .i64 (hsB (bnR 1 n d ⟨plT W dr J de g, de, g, plMo dr⟩ (plT W dr J de g + plB W dr J de g) (plT W dr J de g + off)) L k).r.p.n), .d (.int .i64 (hsB (bnR 1 n d ⟨plT W dr J de g, de, g, plMo dr⟩ (plT W dr J de g + plB W dr J de g) (plT W dr J de g + off)) L k).r.p.d), .d (.int .i64 (hsB (bnR 1 n d ⟨plT W dr J de g, de, g, plMo dr⟩ (plT W dr J de g + plB W dr J de g) (plT W dr J de g + off)) L k).r.p.a), .d (.int .i64 (hsB (bnR 1 n d ⟨plT W dr J de g, de, g, plMo dr⟩ (plT W dr J de g + plB W dr J de g) (plT W dr J de g + off)) L k).r.p.p), .d (.int .i64 (hsB (bnR 1 n d ⟨plT W dr J de g, de, g, plMo dr⟩ (plT W dr J de g + plB W dr J de g) (plT W dr J de g + off)) L k).r.p.f), .d (.list (LI .i32 (hsB (bnR 1 n d ⟨plT W dr J de g, de, g, plMo dr⟩ (plT W dr J de g + plB W dr J de g) (plT W dr J de g + off)) L k).r.l)), .d (.int .i64 (hsB (bnR 1 n d ⟨plT W dr J de g, de, g, plMo dr⟩ (plT W dr J de g + plB W dr J de g) (plT W dr J de g + off)) L k).lo), .d (.int .i64 (hsB (bnR 1 n d ⟨plT W dr J de g, de, g, plMo dr⟩ (plT W dr J de g + plB W dr J de g) (plT W dr J de g + off)) L k).mi)])], []⟩) (fun k => k ≤ L.length) (fun k => L.length - k) (· + 1) 0 (Nat.zero_le _) ?_ ?_
  · simp only [↓gPre, gPost, gCore, handV, V.bufs, buildArr, toCs, Nat.reduceShiftRight, Nat.reduceMod, addB, addK, zeroOp, callSem, resName, keepsB, newB, V.pure, C.pure, V.ptrs, C.ptrs, C.bufs, appendSem, appendTo, appendZ, dstOk, lk, V.cells, Op.eff, partV, partD, cut, lay, zeroD, C.toDs, C.toD, V.toD, toDs, buildCells, if_true, if_false, ↓reduceIte, reduceCtorEq, Nat.reduceEqDiff, Nat.reduceLT, Nat.reduceLeDiff, implies_true, forall_const, eq_self, ne_eq, not_true_eq_false, not_false_eq_true, imp_self, Nat.reduceAdd, Nat.reduceMul, Int.reduceLE, Int.reduceLT, Int.reduceNeg, Int.reduceAdd, Int.reduceToNat, E_sane_eq, E_new_eq, E_run_eq, E_plan18_eq, E_declared_eq, E_start18_eq, E_bound18_eq, E_bnew_eq, E_brfill_eq, E_pull_eq, E_wave_eq, E_push_eq, rs_eta, ph_eta, ct_eta, br_eta, LT_nil, LT_length, LT_getD, LT_append, LT_one, LT_cells, LT_inj, LT_nil_eq, LT_trs_LT, LT_take, LT_drop, trs_LT, gBD, Try.ntmps7, Try.results7, gTT]
    exact ⟨rfl, rfl, rfl, rfl, rfl, rfl, rfl, rfl, rfl, rfl, rfl, rfl, rfl, rfl, rfl⟩
  intro k hk
  simp only [↓gPre, gPost, gCore, handV, V.bufs, buildArr, toCs, Nat.reduceShiftRight, Nat.reduceMod, addB, addK, zeroOp, callSem, resName, keepsB, newB, V.pure, C.pure, V.ptrs, C.ptrs, C.bufs, appendSem, appendTo, appendZ, dstOk, lk, V.cells, Op.eff, partV, partD, cut, lay, zeroD, C.toDs, C.toD, V.toD, toDs, buildCells, if_true, if_false, ↓reduceIte, reduceCtorEq, Nat.reduceEqDiff, Nat.reduceLT, Nat.reduceLeDiff, implies_true, forall_const, eq_self, ne_eq, not_true_eq_false, not_false_eq_true, imp_self, Nat.reduceAdd, Nat.reduceMul, Int.reduceLE, Int.reduceLT, Int.reduceNeg, Int.reduceAdd, Int.reduceToNat, E_sane_eq, E_new_eq, E_run_eq, E_plan18_eq, E_declared_eq, E_start18_eq, E_bound18_eq, E_bnew_eq, E_brfill_eq, E_pull_eq, E_wave_eq, E_push_eq, rs_eta, ph_eta, ct_eta, br_eta, LT_nil, LT_length, LT_getD, LT_append, LT_one, LT_cells, LT_inj, LT_nil_eq, LT_trs_LT, LT_take, LT_drop, trs_LT, gBD, Try.ntmps7, Try.results7, gTT]
  have hok := hall k hk
  have hol := hok.ok.len
  have eG : (L[k]?.getD (0, 0)).1 = tG L k := rfl
  have eP : (L[k]?.getD (0, 0)).2 = tP L k := rfl
  rw [eG, eP]
  have eB : hsB (bnR 1 n d ⟨plT W dr J de g, de, g, plMo dr⟩ (plT W dr J de g + plB W dr J de g) (plT W dr J de g + off)) L (k + 1) = puR (plR (hsB (bnR 1 n d ⟨plT W dr J de g, de, g, plMo dr⟩ (plT W dr J de g + plB W dr J de g) (plT W dr J de g + off)) L k) (tG L k)) 1 (waO k 1 0 (tP L k).toNat) := rfl
  rw [eB]
  have hbi : biN (hsB (bnR 1 n d ⟨plT W dr J de g, de, g, plMo dr⟩ (plT W dr J de g + plB W dr J de g) (plT W dr J de g + off)) L k) = (hsS n d ⟨plT W dr J de g, de, g, plMo dr⟩ L (plT W dr J de g + off) k).1 := by unfold biN; rw [if_pos hok.ok.v, hok.hw]
  rw [hbi]
  have hBe : bdI de g (plMo dr) W dr J (plS W dr J) = plB W dr J de g := rfl
  rw [hBe]
  refine ⟨fun h1 => ?_, fun h1 => ?_⟩
  · have hlt : k < L.length := by have := of_decide_eq_true h1; omega
    obtain ⟨x1, x2, x3, x4, x5, x6⟩ := hs_next (F := plT W dr J de g + off) P1 hD (by omega) (by simp only; omega) k hlt hok
    have hdv := hs_dev (F := plT W dr J de g + off) P1 hD (by omega) (by simp only; omega) k (by omega)
    simp only at hdv
    have hps := push_small hD r7.1 (by omega) (by omega) (by omega) k hlt
    have hbb := (hD.1 k hlt).2
    rw [eP] at hbb
    have hpl := x5.len
    have hwl := waO_len k 1 0 (tP L k).toNat
    rw [x1, x2, x3, x4, IntWalk.i64_in (_ - plT W dr J de g) (by omega), IntWalk.i64_in (plT W dr J de g - _) (by omega)]
    refine ⟨⟨by omega, by omega⟩, by omega, fun h2 => ?_, fun _ => ⟨by omega, by kernel_rfl, ⟨⟨by omega, by omega⟩, by omega, by omega⟩, ⟨by omega, by rw [hwl]; show _ * 1 ≤ _; omega⟩, fun h3 => absurd h3 (by decide), fun _ => ⟨⟨(wrapN _ (by omega)).symm, rfl, rfl, rfl, rfl, rfl, rfl, rfl, rfl, rfl, rfl, rfl, rfl, rfl, rfl⟩, by omega, by omega⟩⟩⟩
    simp only [Bool.or_eq_true, decide_eq_true_eq] at h2
    omega
  · rw [hok.hlo, hok.hmi]
    rfl

end Go.Vam
