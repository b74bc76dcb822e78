/- The law MixtureOrder gives true. Conditions: none. -/
import Derived.Test.YtmliamkbpbdlbaaMixJ
set_option linter.unusedVariables false
set_option linter.unusedSimpArgs false
set_option maxRecDepth 40000
set_option maxHeartbeats 4000000
namespace Go.Vam
open Go.Proofs

theorem blkV_bkO (l : List UInt8) {c n : Int} (hc : 1 ≤ c ∧ c ≤ 8) (hn : 0 ≤ n ∧ n ≤ 1000) : blkV c (bkO l (c * n).toNat) = true := by
  have hl : (bkO l (c * n).toNat).length = (c * n).toNat := by simp [bkO]
  have h0 : 0 ≤ c * n := Int.mul_nonneg (by omega) hn.1
  have h1 : c * n ≤ 8 * 1000 := Int.mul_le_mul hc.2 hn.2 hn.1 (by decide)
  unfold blkV
  rw [hl]
  have hch : chBk c (c * n).toNat = false := by
    unfold chBk
    have e : (((c * n).toNat : Nat) : Int) = c * n := by omega
    rw [e, Int.mul_tmod_right, Int.mul_tdiv_cancel_left _ (by omega), IntWalk.i64_in n (by omega)]
    simp only [Bool.or_eq_false_iff, decide_eq_false_iff_not, bne_self_eq_false, and_true]
    omega
  rw [hch]
  simp only [Bool.not_false, Bool.true_and, List.all_eq_true]
  intro x hx
  simp only [bkO, List.mem_map] at hx
  obtain ⟨i, _, rfl⟩ := hx
  have := sV_in (bkR l i)
  simp only [smpX, Bool.and_eq_true, decide_eq_true_eq]
  exact this
theorem mkC_in (l : List UInt8) : -131072 ≤ mkC l ∧ mkC l ≤ 131072 := by
  have h0 := dN_ge l 256
  have h1 := dN_lt l 256 (by decide)
  unfold mkC
  match (dN (dT l 256) 8).toNat with
  | 0 => exact ⟨by simp, by simp⟩
  | 1 => exact ⟨by simp, by simp⟩
  | 2 => exact ⟨by simp, by simp⟩
  | 3 => exact ⟨by simp, by simp⟩
  | 4 => exact ⟨by simp, by simp⟩
  | 5 => exact ⟨by simp, by simp⟩
  | 6 => exact ⟨by simp, by simp⟩
  | 7 => show -131072 ≤ dN l 256 * 128 ∧ dN l 256 * 128 ≤ 131072; omega
  | n + 8 => exact ⟨by simp, by simp⟩
theorem mkL_all (l : List UInt8) (n : Nat) : (mkL l n).all coefX = true := by
  rw [List.all_eq_true]
  intro x hx
  simp only [mkL, List.mem_map] at hx
  obtain ⟨i, _, rfl⟩ := hx
  simpa [coefX] using mkC_in (mkR l i)
theorem mxV_of {a b : Int} {l : List Int} (ha : 1 ≤ a ∧ a ≤ 8) (hb : 1 ≤ b ∧ b ≤ 8) (hl : l.length = (a * b).toNat) (hx : l.all coefX = true) : mxV a b l = true := by
  have hm := mul88 ha hb
  unfold mxV mxB
  rw [hl, hx, IntWalk.i64_in (a * b) (by omega), Bool.and_true, Bool.not_eq_true']
  simp only [Bool.or_eq_false_iff, decide_eq_false_iff_not, bne_eq_false_iff_eq]
  omega
theorem mkL_valid (l : List UInt8) {a b : Int} (ha : 1 ≤ a ∧ a ≤ 8) (hb : 1 ≤ b ∧ b ≤ 8) : mxV a b (mkL l (a * b).toNat) = true := mxV_of ha hb (mkL_len ..) (mkL_all ..)
theorem toNat_mul {a b : Int} (ha : 0 ≤ a) (hb : 0 ≤ b) : (a * b).toNat = a.toNat * b.toNat := by
  have : a * b = ((a.toNat * b.toNat : Nat) : Int) := by rw [Int.natCast_mul]; congr 1 <;> omega
  omega
theorem idL_all (n : Nat) : (idL n).all coefX = true := by
  rw [List.all_eq_true]
  intro x hx
  simp only [idL, List.mem_map] at hx
  obtain ⟨i, _, rfl⟩ := hx
  split <;> decide
theorem id_ok {n : Int} (h : 1 ≤ n ∧ n ≤ 8) : idE n = 0 ∧ idN n = n ∧ idO n = idL n.toNat ∧ mxV n n (idL n.toNat) = true := by
  have hB : idB n = false := by simp only [idB, Bool.or_eq_false_iff, decide_eq_false_iff_not]; omega
  refine ⟨by simp [idE, hB], by simp [idN, hB], by simp [idO, hB], mxV_of h h ?_ (idL_all _)⟩
  rw [toNat_mul (by omega) (by omega)]; simp [idL]

theorem validG_of {a b c d : Int} (ha : 0 ≤ a ∧ a ≤ 262144) (hb : 0 ≤ b ∧ b ≤ 262144) (hc : 0 ≤ c ∧ c ≤ 4194304) (hd : 0 ≤ d ∧ d ≤ c) : validG a b c d = true := by
  simp only [validG, isG, Bool.and_eq_true, decide_eq_true_eq]
  omega
def sumP (ch fr : Int) (xs : List Inp) (j : Nat) : Int := (xs.map fun x => (paO ch fr x)[j]?.getD 0).sum
theorem sumP_nil (ch fr : Int) (j : Nat) : sumP ch fr [] j = 0 := rfl
theorem sumP_cons (ch fr : Int) (x : Inp) (xs : List Inp) (j : Nat) : sumP ch fr (x :: xs) j = (paO ch fr x)[j]?.getD 0 + sumP ch fr xs j := by simp [sumP]
theorem sumP_app (ch fr : Int) (xs ys : List Inp) (j : Nat) : sumP ch fr (xs ++ ys) j = sumP ch fr xs j + sumP ch fr ys j := by
  induction xs with
  | nil => simp [sumP]
  | cons x xs ih => rw [List.cons_append, sumP_cons, sumP_cons, ih, Int.add_assoc]
theorem runS_ok {ch fr : Int} (hf : 0 ≤ fr) {xs : List Inp} : ∀ {z : List Int}, keptI xs → (∀ x ∈ xs, inE ch fr x = 0) → z.length = ch.toNat * fr.toNat →
    (runS ch fr xs z).2 = 0 ∧ ∀ j : Nat, (runS ch fr xs z).1[j]?.getD 0 = z[j]?.getD 0 + sumP ch fr xs j := by
  induction xs with
  | nil => intro z _ _ _; exact ⟨rfl, fun j => by rw [sumP_nil, Int.add_zero]; rfl⟩
  | cons x xs ih =>
    intro z hk he hz
    have h0 := he x List.mem_cons_self
    have hpl := paO_len (ch := ch) (x := x) hf (hk x List.mem_cons_self).1
    unfold runS
    rw [if_pos h0]
    obtain ⟨h1, h2⟩ := ih (z := addL z (paO ch fr x)) (fun y hy => hk y (List.mem_cons_of_mem _ hy)) (fun y hy => he y (List.mem_cons_of_mem _ hy)) (by rw [addL_len]; exact hz)
    refine ⟨h1, fun j => ?_⟩
    rw [h2, addL_get _ _ _ (by omega), sumP_cons, Int.add_assoc]
theorem ext_getD {l m : List Int} (h : l.length = m.length) (h2 : ∀ j : Nat, l[j]?.getD 0 = m[j]?.getD 0) : l = m := by
  apply List.ext_getElem h
  intro j h3 h4
  have := h2 j
  rw [List.getElem?_eq_getElem h3, List.getElem?_eq_getElem h4] at this
  exact this
theorem muS_ok {ch fr : Int} {xs : List Inp} (hB : muB ch fr = false) (hk : keptI xs) (he : ∀ x ∈ xs, inE ch fr x = 0) (hl : xs.length ≤ 32) :
    muE ch fr xs = 0 ∧ (muS ch fr xs).length = ch.toNat * fr.toNat ∧ ∀ j : Nat, (muS ch fr xs)[j]?.getD 0 = sumP ch fr xs j := by
  obtain ⟨hc, hf, hq, hcf⟩ := muB_in hB
  obtain ⟨h1, h2⟩ := runS_ok (z := zeroS ch fr) hf.1 hk he (zeroS_len ch fr)
  have hE : muE ch fr xs = 0 := by unfold muE; rw [if_neg (by rw [hB]; decide), if_neg (by omega)]; exact h1
  refine ⟨hE, muS_len hE, fun j => ?_⟩
  unfold muS
  rw [if_pos hE, h2, zeroS_zer ch fr j, Int.zero_add]
theorem inV_ok (l : List UInt8) {ch fr : Int} (hc : 1 ≤ ch ∧ ch ≤ 8) (hf : 0 ≤ fr ∧ fr ≤ 100) : inE ch fr (inV l ch fr) = 0 ∧ (inV l ch fr).l.length = (inK l fr).toNat * (inC l).toNat ∧ (1 ≤ inC l ∧ inC l ≤ 3) := by
  have a1 := dN_ge l 3
  have a2 := dN_lt l 3 (by decide)
  have a3 := dN_ge (dT l 3) (fr + 1)
  have a4 := dN_lt (dT l 3) (fr + 1) (by omega)
  have c1 : 1 ≤ inC l ∧ inC l ≤ 3 := by unfold inC; omega
  have k1 : 0 ≤ inK l fr ∧ inK l fr ≤ fr := by unfold inK; omega
  have hlen : (inV l ch fr).l.length = (inK l fr).toNat * (inC l).toNat := by
    show (bkO (inR2 l fr) (inC l * inK l fr).toNat).length = _
    simp only [bkO, List.length_map, List.length_range]
    rw [toNat_mul (by omega) (by omega), Nat.mul_comm]
  have hb : blkV (inV l ch fr).c (inV l ch fr).l = true := blkV_bkO (inR2 l fr) (c := inC l) (n := inK l fr) (by omega) (by omega)
  have hg : validG (inV l ch fr).f (inV l ch fr).t (inV l ch fr).n (inV l ch fr).i = true := by
    have b1 := rF_in (inR4 l ch fr)
    have b2 := rT_in (inR4 l ch fr)
    have b3 := rN_in (inR4 l ch fr)
    have b4 := rA_in (inR4 l ch fr)
    exact validG_of b1 b2 (by show 0 ≤ rN _ ∧ rN _ ≤ 4194304; omega) b4
  have hm : mxV (inV l ch fr).a (inV l ch fr).b (inV l ch fr).m = true ∧ (inV l ch fr).a = (inV l ch fr).c := by
    show mxV (if inId l ch fr = true then ch else inC l) ch (if inId l ch fr = true then idL ch.toNat else mkL (inR3 l fr) (inC l * ch).toNat) = true ∧ (if inId l ch fr = true then ch else inC l) = inC l
    by_cases h : inId l ch fr = true
    · rw [if_pos h, if_pos h]
      have : inC l = ch := by unfold inId at h; simp only [Bool.and_eq_true, beq_iff_eq] at h; exact h.1
      exact ⟨(id_ok hc).2.2.2, this.symm⟩
    · rw [if_neg h, if_neg h]
      exact ⟨mkL_valid _ (by omega) hc, rfl⟩
  refine ⟨?_, hlen, c1⟩
  have hfr : ¬ fr < (((inV l ch fr).l.length / (inV l ch fr).c.toNat : Nat) : Int) := by
    rw [hlen]
    show ¬ fr < (((inK l fr).toNat * (inC l).toNat / (inC l).toNat : Nat) : Int)
    rw [Nat.mul_div_cancel _ (by omega)]
    omega
  unfold inE
  rw [if_neg (by rw [hb, hm.1, hg]; decide), if_neg (by rw [hm.2, bne_self_eq_false]; show ¬ ((false || (ch != ch)) = true); simp), if_neg hfr]
theorem dotN_zero {f g : Nat → Int} : ∀ n, (∀ c, g c = 0) → dotN f g n = 0
  | 0, _ => rfl
  | n + 1, h => by show dotN f g n + f n * g n = 0; rw [dotN_zero n h, h n]; simp
theorem applyG_zero (g : Int) : applyG 0 g = 0 := by
  unfold applyG
  split
  · rfl
  · rw [Int.zero_mul]; rfl
theorem applyG_gain0 (s : Int) : applyG s 0 = 0 := by
  unfold applyG
  split
  · rfl
  · rw [Int.mul_zero]; rfl
/-- An input of silence, an input with the gain 0. -/
def quietI (x : Inp) : Inp := { x with l := List.replicate x.l.length 0 }
def zeroI (x : Inp) : Inp := { x with f := 0, t := 0, n := 0, i := 0 }
theorem quiet_paO (ch fr : Int) (x : Inp) (j : Nat) : (paO ch fr (quietI x))[j]?.getD 0 = 0 := by
  unfold paO
  split
  · have ha : ∀ k : Nat, (apO x.a x.b x.m x.c (List.replicate x.l.length 0))[k]?.getD 0 = 0 := fun k => by
      unfold apO
      split
      · unfold apL
        rw [List.getElem?_map]
        cases h : (List.range ((List.replicate x.l.length (0 : Int)).length / x.a.toNat * x.b.toNat))[k]? with
        | none => rfl
        | some y =>
          show apV x.a.toNat x.b.toNat x.m (List.replicate x.l.length 0) y = 0
          unfold apV
          rw [dotN_zero]
          · rfl
          · intro c
            unfold atL
            rw [List.getElem?_replicate]
            split <;> rfl
      · rfl
    show (grO x.f x.t x.n x.i x.b (apO x.a x.b x.m x.c (List.replicate x.l.length 0)))[j]?.getD 0 = 0
    unfold grO
    split
    · unfold gO
      rw [List.getElem?_map]
      cases h : (List.range (apO x.a x.b x.m x.c (List.replicate x.l.length 0)).length)[j]? with
      | none => rfl
      | some y =>
        show gV x.f x.t x.n x.i x.b (apO x.a x.b x.m x.c (List.replicate x.l.length 0)) y = 0
        unfold gV
        rw [ha, applyG_zero]
    · rfl
  · rfl
theorem zero_paO (ch fr : Int) (x : Inp) (j : Nat) : (paO ch fr (zeroI x))[j]?.getD 0 = 0 := by
  unfold paO
  split
  · show (grO 0 0 0 0 x.b (apO x.a x.b x.m x.c x.l))[j]?.getD 0 = 0
    unfold grO
    split
    · unfold gO
      rw [List.getElem?_map]
      cases h : (List.range (apO x.a x.b x.m x.c x.l).length)[j]? with
      | none => rfl
      | some y =>
        show gV 0 0 0 0 x.b (apO x.a x.b x.m x.c x.l) y = 0
        unfold gV
        have : gainG 0 0 0 0 ((y / x.b.toNat : Nat) : Int) = 0 := by
          unfold gainG
          simp
        rw [this, applyG_gain0]
    · rfl
  · rfl
theorem quiet_ok {ch fr : Int} {x : Inp} (h : inE ch fr x = 0) (hl : x.l.length ≤ 1000000) : inE ch fr (quietI x) = 0 := by
  obtain ⟨h1, h2, h3, h4, h5, h6⟩ := inE_ok h
  have hz := blkV_frames h1 hl
  obtain ⟨q1, q2⟩ := blkV_in h1
  obtain ⟨k1, k2, k3⟩ := chBk_in q1
  have hb : blkV x.c (List.replicate x.l.length (0 : Int)) = true := blkV_mk (z := x.l.length / x.c.toNat) ⟨k1, k2⟩ (by rw [List.length_replicate]; exact k3) hz (by
    rw [List.all_eq_true]; intro y hy; rw [(List.mem_replicate.1 hy).2]; decide)
  unfold inE
  rw [if_neg (by show ¬ ((!blkV x.c (List.replicate x.l.length 0) || !mxV x.a x.b x.m || !validG x.f x.t x.n x.i) = true); rw [hb, h2, h3]; decide), if_neg (by show ¬ ((x.a != x.c || x.b != ch) = true); rw [h4, h5]; simp), if_neg (by show ¬ fr < (((List.replicate x.l.length (0 : Int)).length / x.c.toNat : Nat) : Int); rw [List.length_replicate]; omega)]
theorem zero_ok {ch fr : Int} {x : Inp} (h : inE ch fr x = 0) : inE ch fr (zeroI x) = 0 := by
  obtain ⟨h1, h2, h3, h4, h5, h6⟩ := inE_ok h
  unfold inE
  rw [if_neg (by show ¬ ((!blkV x.c x.l || !mxV x.a x.b x.m || !validG 0 0 0 0) = true); rw [h1, h2]; decide), if_neg (by show ¬ ((x.a != x.c || x.b != ch) = true); rw [h4, h5]; simp), if_neg (by show ¬ fr < ((x.l.length / x.c.toNat : Nat) : Int); omega)]
theorem md_ok (l : List UInt8) {ch fr : Int} (hc : 1 ≤ ch ∧ ch ≤ 8) (hf : 0 ≤ fr ∧ fr ≤ 100) (n : Nat) : ∀ x ∈ mdL l ch fr n, inE ch fr x = 0 := fun x hx => by
  simp only [mdL, List.mem_map] at hx
  obtain ⟨i, _, rfl⟩ := hx
  exact (inV_ok _ hc hf).1
theorem lim_ok (l : List UInt8) : validL (newT (lmT l) (lmR l)) (newR (lmT l) (lmR l)) (newG (lmT l) (lmR l)) = true := by
  have h1 := dN_lt l 3 (by decide)
  have h2 := dN_lt (dT l 3) 3 (by decide)
  have h3 := dN_ge l 3
  have h4 := dN_ge (dT l 3) 3
  unfold lmT lmR
  have key : ∀ i, i < 3 → ∀ j, j < 3 → validL (newT (([8388607, 1000000, 5] : List Int)[i]?.getD 0) (([1, 300, 65536] : List Int)[j]?.getD 0)) (newR (([8388607, 1000000, 5] : List Int)[i]?.getD 0) (([1, 300, 65536] : List Int)[j]?.getD 0)) (newG (([8388607, 1000000, 5] : List Int)[i]?.getD 0) (([1, 300, 65536] : List Int)[j]?.getD 0)) = true := by decide +kernel
  exact key _ (by omega) _ (by omega)
theorem muS_run {ch fr : Int} {xs : List Inp} {t r g : Int} (hB : muB ch fr = false) (hk : keptI xs) (hl : xs.length ≤ 32) (hE : muE ch fr xs = 0) (hv : validL t r g = true) : runE t r g ch (muS ch fr xs) = 0 := by
  obtain ⟨hc, hf, hq, hcf⟩ := muB_in hB
  have hlen := muS_len hE
  refine runE_ok hv ?_ ?_
  · unfold chB
    have e : ((muS ch fr xs).length : Int) = fr * ch := by rw [hlen, ← hcf, Int.mul_comm]
    rw [e, Int.mul_tmod_left, Int.mul_tdiv_cancel _ (by omega), IntWalk.i64_in fr (by omega)]
    simp only [Bool.or_eq_false_iff, decide_eq_false_iff_not, bne_self_eq_false, and_true]
    omega
  · rw [List.all_eq_true]
    intro y hy
    obtain ⟨j, hj, rfl⟩ := List.mem_iff_getElem.1 hy
    have hb := runS_in (k := 0) hf.1 hk (zeroS_len ch fr) (fun j => by rw [zeroS_zer ch fr j]; simp) j
    have e : (muS ch fr xs)[j] = (runS ch fr xs (zeroS ch fr)).1[j]?.getD 0 := by
      have : (muS ch fr xs)[j]?.getD 0 = (runS ch fr xs (zeroS ch fr)).1[j]?.getD 0 := by unfold muS; rw [if_pos hE]
      rw [← this, List.getElem?_eq_getElem hj]; rfl
    rw [e]
    simp only [okX, Bool.and_eq_true, decide_eq_true_eq]
    omega
theorem kept_inV (r : List UInt8) {ch fr : Int} (hc : 1 ≤ ch ∧ ch ≤ 8) (hf : 0 ≤ fr ∧ fr ≤ 100) : (inV r ch fr).l.length ≤ 1000000 ∧ (inV r ch fr).m.length ≤ 1000000 := by
  obtain ⟨h1, h2, h3⟩ := inV_ok r hc hf
  have a3 := dN_ge (dT r 3) (fr + 1)
  have a4 := dN_lt (dT r 3) (fr + 1) (by omega)
  have b0 := Nat.mul_le_mul (show (inK r fr).toNat ≤ 100 by unfold inK; omega) (show (inC r).toNat ≤ 3 by omega)
  obtain ⟨h4, h5, _⟩ := inE_ok h1
  obtain ⟨m1, m2, m3, _⟩ := mxV_in h5
  have b3 := Nat.mul_le_mul (show (inV r ch fr).a.toNat ≤ 8 by omega) (show (inV r ch fr).b.toNat ≤ 8 by omega)
  omega

theorem spec_order (s : List UInt8) (w : Int) (hw : 0 ≤ w ∧ w ≤ 255) : Spec Try.prog 0 3 [vL (LB s), vI .u8 w] [] [] (vB true) [] [] := by
  refine spec_of_E (X := ⟨Try.prog, tt, Try.f3.ntmps, 1, fun s => if s = 59 then 1 else 0, (tab [(8, E_sane), (9, E_new), (10, E_next), (11, E_made), (12, E_limit), (13, E_minput), (14, E_mix), (15, E_same)])⟩) (M := [(6, [0, 0, 0, 0, 0, 8521218260979, 0, 0, 0, 0, 0, 0]), (12, [0, 0, 0, 0, 0, 2120342550808470704095219, 0, 0, 0, 0, 0, 1813388729421943765204979, 0, 0]), (13, [0, 0, 0, 0, 0, 1085615386013936998889291763, 0, 0, 0, 0, 0, 928455029464035206177488883, 0, 0]), (14, [0, 0, 0, 0, 0, 81090024333349549526992236314611, 0, 0, 0, 0, 0, 78594337214150222892795601879027, 0, 0, 0, 0, 0])]) (m := 3145715) rfl rfl ⟨tt_ok, tab_ok (tabs_cons E_sane_ok (tabs_cons E_new_ok (tabs_cons E_next_ok (tabs_cons E_made_ok (tabs_cons E_limit_ok (tabs_cons E_minput_ok (tabs_cons E_mix_ok (tabs_cons E_same_ok tabs_nil)))))))) _ rfl rfl⟩ tt_mixed Try.func3 rfl (by decide) (by show (2 : Nat) ≤ _; exact Nat.le_of_ble_eq_true rfl) ⟨fun m hm => (V.bare_has rfl m hm).elim, by simp, by simp⟩ ?_
  simp only [↓gPre, gPost, handV, V.bufs, buildArr, toCs, List.set_cons_succ, List.set_cons_zero, List.foldr_cons, List.foldr_nil, List.append_eq, Nat.reduceShiftRight, Nat.reduceMod, List.mem_cons, addB, addK, zeroOp, callSem, resName, keepsB, newB, V.pure, C.pure, V.ptrs, C.ptrs, C.bufs, appendSem, dstOk, lk, V.cells, Op.eff, partV, partD, cut, lay, zeroD, C.toDs, C.toD, V.toD, toDs, buildCells, List.flatMap_nil, List.flatMap_cons, List.all_nil, List.all_cons, List.map_nil, List.map_cons, List.zip_cons_cons, List.zip_nil_left, List.nil_append, List.append_nil, List.cons_append, List.drop_zero, List.drop_succ_cons, List.take_succ_cons, List.take_zero, List.length_cons, List.length_nil, List.getElem?_cons_succ, List.getElem?_cons_zero, Option.getD_some, Option.getD_none, Option.map_some, Option.map_none, Option.some.injEq, Option.isSome_none, Option.isSome_some, Option.toList_some, Option.toList_none, if_true, if_false, ↓reduceIte, reduceCtorEq, Nat.reduceEqDiff, Nat.reduceLT, Nat.reduceLeDiff, List.not_mem_nil, false_implies, implies_true, true_and, and_true, forall_const, Nat.succ_ne_self, Bool.false_eq_true, Bool.true_and, Bool.and_true, eq_self, ne_eq, not_true_eq_false, not_false_eq_true, or_true, true_or, and_self, imp_self, bne_self_eq_false, beq_self_eq_true, Bool.or_false, Bool.false_or, Bool.and_false, Bool.false_and, false_or, or_false, Nat.reduceAdd, Nat.reduceMul, beq_true, beq_false, Name.mk.injEq, decide_true, decide_false, Bool.or_true, Bool.true_or, Bool.or_self, Bool.not_eq_true', Bool.not_true, Bool.not_false, Bool.true_eq_false, Bool.cond_true_left, Bool.cond_false_right, Nat.zero_add, Int.reduceLE, Int.reduceLT, Int.reduceNeg, Int.reduceAdd, Int.reduceToNat, List.range_succ, List.range_zero, Int.toNat_natCast, List.mem_nil_iff, List.mem_append, E_sane_eq, E_new_eq, E_next_eq, E_made_eq, E_limit_eq, E_minput_eq, E_mix_eq, E_same_eq, LX_nil, LX_length, LX_getD, LX_append, LX_one, LX_cells, LX_inj, LX_nil_eq, LX_inps_LX, LX_take, LX_drop, inps_LX, Try.ntmps3, Try.results3, tt_1, tt_2, tt_3, tt_4, tt_5, tt_6, tt_7, tt_8, tt_12, tt_15, tt_16, tt_17, tt_18, tt_19, tt_21, tt_22, tt_23, tt_24, tt_25, tt_26, tt_27, tt_28, tt_29, tt_30, tt_31, tt_32, tt_33, tt_34, tt_35, tt_36, tt_37, tt_38, tt_39, tt_40, tt_41, tt_42, tt_43, tt_45, tt_46, tt_47, tt_49, tt_50, tt_52, tt_53, tt_55, tt_56, tt_57, tt_58, tt_59, tt_60, tt_61, tt_62, tt_64, tt_65, tt_66, tt_67, tt_68, tt_69, tt_70, tt_71, tt_72, tt_73, tt_74, tt_75, tt_76, tt_77, tt_78, tt_80, tt_81, tt_82, tt_83, tt_85, tt_86, tt_87, tt_88, tt_89, tt_90, tt_91, tt_92, tt_93, tt_94, tt_95, tt_96, tt_97, tt_98, tt_99, tt_100, tt_101, tt_102, tt_103, tt_106, tt_107, tt_108, tt_109, tt_110, tt_111, tt_112, tt_113, tt_114, tt_115, tt_116, tt_117, tt_118, tt_119]
  have p0 := dN_ge (List.take 300 s) 3
  have p1 := dN_lt (List.take 300 s) 3 (by decide)
  have q0 := dN_ge (dT (List.take 300 s) 3) 8
  have q1 := dN_lt (dT (List.take 300 s) 3) 8 (by decide)
  rw [IntWalk.i64_in (1 + dN (List.take 300 s) 3) (by omega)]
  generalize dT (dT (List.take 300 s) 3) 8 = s1 at *
  generalize dN (dT (List.take 300 s) 3) 8 = q at *
  generalize hp : 1 + dN (List.take 300 s) 3 = p at *
  have hpb : 1 ≤ p ∧ p ≤ 8 := by omega
  have hqb : 0 ≤ q ∧ q ≤ 100 := by omega
  have n1 := mdL_len s1 p q (dN s1 5).toNat
  have kA := kept_mdL s1 (ch := p) (fr := q) hpb hqb (dN s1 5).toNat
  have oA := md_ok s1 (ch := p) (fr := q) hpb hqb (dN s1 5).toNat
  have u0 := dN_ge s1 5
  have u1 := dN_lt s1 5 (by decide)
  generalize mdL s1 p q (dN s1 5).toNat = A at *
  generalize mdR s1 p q (dN s1 5).toNat = s2 at *
  have oX := inV_ok (lmD s2) (ch := p) (fr := q) hpb hqb
  have oY := inV_ok (inR (lmD s2) p q) (ch := p) (fr := q) hpb hqb
  have kX : (inV (lmD s2) p q).l.length ≤ 1000000 ∧ (inV (lmD s2) p q).m.length ≤ 1000000 := kept_inV _ hpb hqb
  have kY : (inV (inR (lmD s2) p q) p q).l.length ≤ 1000000 ∧ (inV (inR (lmD s2) p q) p q).m.length ≤ 1000000 := kept_inV _ hpb hqb
  have hv := lim_ok s2
  generalize newT (lmT s2) (lmR s2) = T at *
  generalize newR (lmT s2) (lmR s2) = R at *
  generalize newG (lmT s2) (lmR s2) = G at *
  generalize inV (lmD s2) p q = x at *
  generalize inV (inR (lmD s2) p q) p q = y at *
  have hA4 : A.length ≤ 4 := by omega
  rw [IntWalk.i64_in ((A.length : Int) + 1) (by omega), IntWalk.i64_in w (by omega)]
  have tm : w.tmod ((A.length : Int) + 1) = ((w.toNat % (A.length + 1) : Nat) : Int) := by
    have := tmodN w.toNat (s := ((A.length + 1 : Nat) : Int)) (by omega)
    rw [Int.toNat_natCast] at this
    rw [← this]
    congr 1
    omega
  rw [tm]
  have hmod : w.toNat % (A.length + 1) < A.length + 1 := Nat.mod_lt _ (by omega)
  generalize w.toNat % (A.length + 1) = k at *
  rw [Int.toNat_natCast]
  refine ⟨⟨hpb, by omega⟩, ⟨hpb, by omega⟩, ⟨hpb, by omega⟩, by omega, by omega, by kernel_rfl, ?_⟩
  have e1 : List.take (A.length - k) (List.drop k A) = List.drop k A := List.take_of_length_le (by rw [List.length_drop]; omega)
  have e2 : List.take (k - 0) A = List.take k A := rfl
  rw [e1, e2]
  have hL : ∀ M : List Inp, D.agg [.int .i64 x.c, .list (LI .i32 (List.replicate x.l.length 0)), .int .i64 x.a, .int .i64 x.b, .list (LI .i64 x.m), .int .i64 x.f, .int .i64 x.t, .int .i64 x.n, .int .i64 x.i] :: LX M = LX (quietI x :: M) := fun _ => rfl
  have hZ : (⟨y.c, y.l, y.a, y.b, y.m, 0, 0, 0, 0⟩ : Inp) = zeroI y := rfl
  rw [hZ]
  simp only [hL, inps_LX]
  have hB : muB p q = false := by simp only [muB, Bool.or_eq_false_iff, decide_eq_false_iff_not]; omega
  have d1 : (List.drop k A).length ≤ 4 := by rw [List.length_drop]; omega
  have d2 : (List.take k A).length ≤ 4 := by rw [List.length_take]; omega
  have kQ : (quietI x).l.length ≤ 1000000 ∧ (quietI x).m.length ≤ 1000000 := ⟨by show (List.replicate x.l.length (0 : Int)).length ≤ 1000000; rw [List.length_replicate]; exact kX.1, kX.2⟩
  have memK : ∀ v ∈ quietI x :: (List.drop k A ++ [zeroI y] ++ List.take k A), v = quietI x ∨ v = zeroI y ∨ v ∈ A := fun v hv => by
    simp only [List.mem_cons, List.mem_append, List.not_mem_nil, or_false] at hv
    rcases hv with h | (h | h) | h
    · exact .inl h
    · exact .inr (.inr (List.mem_of_mem_drop h))
    · exact .inr (.inl h)
    · exact .inr (.inr (List.mem_of_mem_take h))
  have kK : keptI (quietI x :: (List.drop k A ++ [zeroI y] ++ List.take k A)) := fun v hv => by
    rcases memK v hv with rfl | rfl | h
    · exact kQ
    · exact kY
    · exact kA v h
  have oK : ∀ v ∈ quietI x :: (List.drop k A ++ [zeroI y] ++ List.take k A), inE p q v = 0 := fun v hv => by
    rcases memK v hv with rfl | rfl | h
    · exact quiet_ok oX.1 kX.1
    · exact zero_ok oY.1
    · exact oA v h
  have lK : (quietI x :: (List.drop k A ++ [zeroI y] ++ List.take k A)).length ≤ 32 := by
    simp only [List.length_cons, List.length_append, List.length_nil]; omega
  obtain ⟨eA, lA, gA⟩ := muS_ok hB kA oA (by omega)
  obtain ⟨eK, lK2, gK⟩ := muS_ok hB kK oK lK
  have hS : muS p q (quietI x :: (List.drop k A ++ [zeroI y] ++ List.take k A)) = muS p q A := by
    refine ext_getD (by rw [lK2, lA]) fun j => ?_
    rw [gK, gA, sumP_cons, sumP_app, sumP_app, sumP_cons, sumP_nil, quiet_paO, zero_paO]
    have := sumP_app p q (List.take k A) (List.drop k A) j
    rw [List.take_append_drop] at this
    rw [this]
    omega
  have hR := muS_run hB kA (by omega) eA hv
  generalize quietI x :: (List.drop k A ++ [zeroI y] ++ List.take k A) = K at *
  have ho := mxO_len p q A T R G
  simp only [mxE, mxT, mxR, mxG, mxC, mxO, eA, eK, hS, hR, if_true] at ho ⊢
  simp only [beq_self_eq_true, Bool.and_self, forall_const, and_true]
  have d3 : (List.drop k A ++ [zeroI y]).length = (List.drop k A).length + 1 := by rw [List.length_append]; rfl
  rw [d3]
  exact ⟨by omega, by unfold roomOK; omega, by unfold roomOK; omega, by omega, by unfold roomOK; omega, kA, kK, ho⟩

end Go.Vam
