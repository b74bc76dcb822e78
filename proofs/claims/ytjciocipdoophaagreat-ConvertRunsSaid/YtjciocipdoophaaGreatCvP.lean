/- Equal rates, turned channels, silence, pieces. Conditions: none. -/
import Derived.Test.YtjciocipdoophaaGreatCvO
set_option linter.unusedVariables false
set_option linter.defProp false
set_option linter.unusedSimpArgs false
set_option maxRecDepth 40000
set_option maxHeartbeats 4000000
namespace Go.Vam
open Go.Proofs

theorem rt_pair : ∀ i, i < 4 → ∀ j, j < 4 → phV ⟨mqN (rtL i) (rtL j), mqD (rtL i) (rtL j), 0, 0, 0⟩ = true ∧ mqD (rtL i) (rtL j) ≤ 50 * mqN (rtL i) (rtL j) ∧ 1 ≤ gcdI (rtL i) (rtL j) ∧ rtL i = gcdI (rtL i) (rtL j) * mqN (rtL i) (rtL j) ∧ rtL j = gcdI (rtL i) (rtL j) * mqD (rtL i) (rtL j) := by decide +kernel
theorem rt_same : ∀ i, i < 4 → mqN (rtL i) (rtL i) = 1 ∧ mqD (rtL i) (rtL i) = 1 := by decide +kernel
theorem maps_mx : ∀ i, i < 7 → ∀ j, j < 7 → mxV (mapsL[i]?.getD []).length (mapsL[j]?.getD []).length (dfO (mapsL[i]?.getD []) (mapsL[j]?.getD [])) = true := by decide +kernel
theorem map_mx (l l' : List UInt8) : mxV (mapV l).length (mapV l').length (dfO (mapV l) (mapV l')) = true := maps_mx _ (by have := dN_ge l 7; have := dN_lt l 7 (by decide); omega) _ (by have := dN_ge l' 7; have := dN_lt l' 7 (by decide); omega)
theorem rate_i (l : List UInt8) : (dN (dT l 7) 4).toNat < 4 := by have := dN_ge (dT l 7) 4; have := dN_lt (dT l 7) 4 (by decide); omega
theorem fx_ok (l l' : List UInt8) : Ok16 (fxF l) (fxF l') :=
  ⟨fxF_V l, fxF_V l', (rt_pair _ (rate_i l) _ (rate_i l')).1, (rt_pair _ (rate_i l) _ (rate_i l')).2.1, map_mx ..⟩
theorem fxF_k (l : List UInt8) : 1 ≤ (fxF l).k ∧ (fxF l).k ≤ 7 := by
  have h1 := dN_ge l 7
  have h2 := dN_lt l 7 (by decide)
  show 1 ≤ 1 + dN l 7 ∧ 1 + dN l 7 ≤ 7
  omega
theorem p1_ooC {c : Int} {s : List Int} {F : Nat} (hs : s.length = F * c.toNat) : ∀ N : Nat, N ≤ F → ooL P1 c s N = s.take (N * c.toNat)
  | 0, _ => by rw [Nat.zero_mul]; rfl
  | N + 1, hN => by
    have hP : (0 : Int) < prt P1 := by decide
    have hlt : N * c.toNat + c.toNat ≤ s.length := by
      have := Nat.mul_le_mul_right c.toNat hN
      rw [Nat.add_mul, Nat.one_mul] at this
      omega
    have e : (List.range c.toNat).map (ocX P1 c s N) = (s.drop (N * c.toNat)).take c.toNat := by
      apply List.ext_getElem
      · rw [List.length_map, List.length_range, List.length_take, List.length_drop]; omega
      · intro i h1 h2
        rw [List.length_map, List.length_range] at h1
        rw [List.getElem_map, List.getElem_range, List.getElem_take, List.getElem_drop]
        unfold ocX
        rw [p1_qN, (p1_q N).2, btw_zero _ _ hP, List.getElem?_eq_getElem (by omega)]
        rfl
    rw [ooL, p1_ooC hs N (by omega), e, Nat.add_mul, Nat.one_mul, List.take_add]
theorem p1_fiC {c : Int} (hc : 1 ≤ c ∧ c ≤ 8) {s : List Int} {F : Nat} (h1 : 1 ≤ F) (h2 : F ≤ 299) (hs : s.length = F * c.toNat) (ha : s.all smpX = true) (hE : fiE (stR P1 c s (F - 1)) 65536 = 0) : fiO (stR P1 c s (F - 1)) 65536 = s.drop ((F - 1) * c.toNat) := by
  have hn : ned P1 ((F - 1 : Nat) : Int) ≤ F := by
    unfold ned
    split
    · omega
    · rw [(p1_q _).1, (p1_q _).1]; omega
  obtain ⟨v1, v2, v3, v4⟩ := stR_V p1_V (c := c) (W := F) (N := F - 1) hc hs ha (by omega) (by omega) hn (by show (0 : Int) + F ≤ _; omega)
  have hq : F - qN P1 (F - 1) = 1 := by rw [p1_qN]; omega
  rw [hq] at v2 v3
  rw [Nat.one_mul] at v2
  have hl : (stR P1 c s (F - 1)).l = s.drop ((F - 1) * c.toNat) := by
    unfold stR
    rw [p1_qN]
  have hl2 : (s.drop ((F - 1) * c.toNat)).length = c.toNat := by rw [← hl, v2]
  have hpv := (rsV_in v1).1
  have hf : (stR P1 c s (F - 1)).p.f = 0 := (p1_q ((F - 1 : Nat) : Int)).2
  have hz := adv_zero hpv
  have hfz : fAt (stR P1 c s (F - 1)).p ((0 : Nat) : Int) = 0 := by
    have := congrArg Ph.f hz.1
    exact Eq.trans this hf
  have hlef : lefX (stR P1 c s (F - 1)) = 65536 := by
    unfold lefX
    show (((stR P1 c s (F - 1)).l.length / c.toNat : Nat) : Int) * prt (stR P1 c s (F - 1)).p - (stR P1 c s (F - 1)).p.f = 65536
    rw [v3, hf]
    have : prt (stR P1 c s (F - 1)).p = 65536 := (show prt P1 = 65536 by decide)
    rw [this]
    rfl
  have hst : stp (stR P1 c s (F - 1)).p = 65536 := (show stp P1 = 65536 by decide)
  have hct : cnt (stR P1 c s (F - 1)) 65536 = 1 := by
    unfold cnt
    rw [hlef, hst]
    decide
  unfold fiO
  rw [if_pos hE, hct]
  have hP : (0 : Int) < prt (stR P1 c s (F - 1)).p := (show (0 : Int) < prt P1 by decide)
  have hoc : ∀ ch : Nat, outC (stR P1 c s (F - 1)) 0 ch = (s.drop ((F - 1) * c.toNat))[ch]?.getD 0 := fun ch => by
    unfold outC
    rw [hfz, btw_zero _ _ hP, hz.2]
    unfold gx frA
    rw [Nat.zero_mul, Nat.zero_min, Nat.zero_add, hl]
  show [] ++ (List.range c.toNat).map (outC (stR P1 c s (F - 1)) 0) = _
  rw [List.nil_append]
  apply List.ext_getElem
  · rw [List.length_map, List.length_range, hl2]
  · intro i i1 i2
    rw [List.getElem_map, List.getElem_range, hoc, List.getElem?_eq_getElem i2]
    rfl
theorem fi_none {c : Int} : fiO (stR P1 c [] 0) 65536 = [] := by
  have hl : (stR P1 c [] 0).l = [] := by show List.drop _ [] = []; exact List.drop_nil
  have hlef : lefX (stR P1 c [] 0) ≤ 0 := by
    have hz := adv_zero p1_V
    unfold lefX
    rw [hl]
    show (((([] : List Int).length / c.toNat : Nat) : Int)) * prt (adv P1 0) - (adv P1 0).f ≤ 0
    rw [hz.1]
    simp [P1]
  have hct : cnt (stR P1 c [] 0) 65536 = 0 := by unfold cnt; rw [if_neg (by omega)]
  unfold fiO
  rw [hct]
  split <;> rfl
/-- With equal rates everything comes out, in order. -/
theorem run_all {x y : Fm} (H : Ok16 x y) (hP : phB x y = P1) {F : Nat} (hF : F ≤ 60) {b : List UInt8} (hb : b.length = F * fz x) :
    ruE (cnR x y) b = 0 ∧ fnE (ruR (cnR x y) b) = 0 ∧ ruO (cnR x y) b ++ fnO (ruR (cnR x y) b) = encL y.k (apB x y F b) := by
  obtain ⟨h0, h1, h2⟩ := ok_ch H
  obtain ⟨c1, c2⟩ := cn_ok H
  obtain ⟨r1, r2, r3⟩ := run_step H (W := 0) (V := F) (b := []) (c := b) (by omega) (by simp) hb
  rw [ouB_zero H, List.nil_append, List.nil_append, Nat.zero_add] at r3
  rw [List.nil_append, Nat.zero_add] at r2
  obtain ⟨f1, f2, f3⟩ := fin_ok H (W := F) (by omega) b
  rw [c2, r1, r2, r3, f1, f3]
  refine ⟨rfl, rfl, ?_⟩
  unfold ouB
  rw [← encL_app]
  congr 1
  have hl := apB_len x y F b
  have ha := apB_all x y F b
  have hm : mkB x y F = F - 1 := by
    unfold mkB
    rw [hP]
    by_cases hz : F = 0
    · subst hz; exact mk_zero p1_V
    · exact p1_mk (by omega) (by omega)
  unfold stB at f2 ⊢
  rw [hm, hP] at f2 ⊢
  have hl' : (apB x y F b).length = F * (y.m.length : Int).toNat := hl
  rw [p1_ooC hl' (F - 1) (by omega)]
  by_cases hz : F = 0
  · subst hz
    have e : apB x y 0 b = [] := List.eq_nil_of_length_eq_zero (by rw [hl, Nat.zero_mul])
    rw [e]
    rw [show (0 - 1 : Nat) = 0 from rfl, fi_none]
    simp
  · rw [p1_fiC (by omega) (by omega) (by omega) hl' ha f2, List.take_append_drop]
/-- Channels in another order, and back. -/
theorem rot_back {p q : List Int} (h : ordF p q) {D : List Int} {n : Nat} (hD : D.length = n * p.length) (ha : D.all smpX = true) :
    (∀ v ∈ apL p.length p.length (dfO p q) D (n * p.length), v ∈ D) ∧ apL p.length p.length (dfO q p) (apL p.length p.length (dfO p q) D (n * p.length)) (n * p.length) = D := by
  obtain ⟨E1, E2, V1, V2, Lq, P8, F⟩ := h
  have hpl : 0 < p.length := by omega
  have X1 : (apL p.length p.length (dfO p q) D (n * p.length)).length = n * p.length := apL_len ..
  have X2 := apL_all p.length p.length (dfO p q) D (n * p.length)
  have hin : ∀ q' r c, r < p.length → c < p.length → q' * p.length + r < n * p.length → q' * p.length + c < n * p.length := fun q' r c hr hc hj => by
    have hq : q' < n := by
      rcases Nat.lt_or_ge q' n with h | h
      · exact h
      · have := Nat.mul_le_mul_right p.length h; omega
    have := cell_lt hc hq
    rw [Nat.mul_comm n]
    exact this
  have X4 : ∀ q' r, r < p.length → q' * p.length + r < n * p.length → atL (apL p.length p.length (dfO p q) D (n * p.length)) (q' * p.length + r) = atL D (q' * p.length + (idxL p (q[r]?.getD 0)).toNat) :=
    fun q' r hr hj => ap_perm (σ := fun r => (idxL p (q[r]?.getD 0)).toNat) hpl (fun r hr => (F r hr).2.2.2.1) (fun r hr => (F r hr).1) ha hr hj
  constructor
  · intro v hv
    obtain ⟨j, hj, rfl⟩ := List.getElem_of_mem hv
    rw [X1] at hj
    have hm := Nat.mod_lt j hpl
    have e : j / p.length * p.length + j % p.length = j := by rw [Nat.mul_comm]; exact Nat.div_add_mod j p.length
    have h4 := X4 (j / p.length) (j % p.length) hm (by rw [e]; exact hj)
    have h5 := hin (j / p.length) (j % p.length) _ hm (F _ hm).2.2.2.1 (by rw [e]; exact hj)
    rw [e] at h4
    unfold atL at h4
    rw [List.getElem?_eq_getElem (by rw [X1]; exact hj), List.getElem?_eq_getElem (by rw [hD]; exact h5)] at h4
    simp only [Option.getD_some] at h4
    rw [h4]
    exact List.getElem_mem _
  · refine ext_cells hpl (apL_len ..) hD fun q' r hr hj => ?_
    have hs := (F r hr).2.2.2.2.1
    rw [ap_perm (σ := fun r => (idxL q (p[r]?.getD 0)).toNat) hpl (fun r hr => (F r hr).2.2.2.2.1) (fun r hr => (F r hr).2.1) X2 hr hj, X4 _ _ hs (hin q' r _ hr hs hj), (F r hr).2.2.2.2.2]
theorem fix_of_map {α : Type} {f : α → α} : ∀ {l : List α}, l.map f = l → ∀ v ∈ l, f v = v
  | [], _, v, hv => by cases hv
  | a :: l, h, v, hv => by
    rw [List.map_cons, List.cons.injEq] at h
    rcases List.mem_cons.1 hv with e | e
    · rw [e]; exact h.1
    · exact fix_of_map h.2 v e
theorem map_of_fix {α : Type} {f : α → α} {l : List α} (h : ∀ v ∈ l, f v = v) : l.map f = l := by
  conv => rhs; rw [← List.map_id l]
  exact List.map_congr_left h
theorem rt34 {s v : Int} (hs : s = 3 ∨ s = 4) (hv : smpX v = true) : rtS s v = v := by
  have h := smpX_in hv
  unfold rtS
  rcases hs with rfl | rfl
  · have e : decV 3 (encV 3 v) = v := rfl
    rw [e]; exact satG_id h
  · have e : decV 4 (encV 4 v) = (v * 256 + 128) / 256 := rfl
    have e2 : (v * 256 + 128) / 256 = v := by omega
    rw [e, e2]; exact satG_id h
/-- What was decoded is encoded and decoded again. -/
theorem rt_dec {k k' : Int} (h : szK k = 3 ∨ szK k = 4 ∨ (k = k' ∧ (szK k' = 1 ∨ szK k' = 2 ∨ szK k' = 3))) {b : List UInt8} {n : Nat} (hb : b.length = n * (szK k').toNat) : ∀ v ∈ decL k' b n, rtS (szK k) v = v := by
  have ha := decL_all k' b n
  rcases h with h | h | ⟨rfl, h⟩
  · exact fun v hv => rt34 (.inl h) (List.all_eq_true.1 ha v hv)
  · exact fun v hv => rt34 (.inr h) (List.all_eq_true.1 ha v hv)
  · refine fix_of_map ?_
    have h1 := decL_encL (k := k) (by omega) ha
    rw [(encL_decL h hb).1, decL_len] at h1
    exact h1.symm
theorem encL_lenF (k : Int) (l : List Int) : (encL k l).length = l.length * (szK k).toNat := encL_len k l
/-- There and back. -/
theorem there {x y : Fm} (H : Ok16 x y) (H' : Ok16 y x) (hP : phB x y = P1) (hP' : phB y x = P1) (ho : ordF x.m y.m) (hk : szK x.k = 1 ∨ szK x.k = 2 ∨ szK x.k = 3) (hk2 : szK y.k = 3 ∨ szK y.k = 4 ∨ (y.k = x.k ∧ (szK x.k = 1 ∨ szK x.k = 2 ∨ szK x.k = 3)))
    {F : Nat} (hF : F ≤ 60) {b : List UInt8} (hb : b.length = F * fz x) :
    ruE (cnR x y) b = 0 ∧ fnE (ruR (cnR x y) b) = 0 ∧ ruE (cnR y x) (ruO (cnR x y) b ++ fnO (ruR (cnR x y) b)) = 0 ∧ fnE (ruR (cnR y x) (ruO (cnR x y) b ++ fnO (ruR (cnR x y) b))) = 0 ∧
    ruO (cnR y x) (ruO (cnR x y) b ++ fnO (ruR (cnR x y) b)) ++ fnO (ruR (cnR y x) (ruO (cnR x y) b ++ fnO (ruR (cnR x y) b))) = b := by
  obtain ⟨a1, a2, a3⟩ := run_all H hP hF hb
  have hq : y.m.length = x.m.length := ho.2.2.2.2.1
  have hb2 : b.length = F * x.m.length * (szK x.k).toNat := by rw [hb]; unfold fz; rw [Nat.mul_assoc, Nat.mul_comm x.m.length]
  have hDl : (decL x.k b (F * x.m.length)).length = F * x.m.length := decL_len ..
  have hDa := decL_all x.k b (F * x.m.length)
  obtain ⟨r1, r2⟩ := rot_back ho hDl hDa
  have hfix := rt_dec hk2 hb2
  have hed := encL_decL hk hb2
  have hB : apB x y F b = apL x.m.length x.m.length (dfO x.m y.m) (decL x.k b (F * x.m.length)) (F * x.m.length) := by unfold apB; rw [hq]
  have hBl : (apB x y F b).length = F * x.m.length := by rw [apB_len, hq]
  have hb3 : (encL y.k (apB x y F b)).length = F * fz y := by
    rw [encL_lenF, hBl]
    unfold fz
    rw [hq, Nat.mul_assoc, Nat.mul_comm x.m.length]
  obtain ⟨b1, b2, b3⟩ := run_all H' hP' hF hb3
  rw [a1, a2, a3, b1, b2, b3]
  refine ⟨rfl, rfl, rfl, rfl, ?_⟩
  have hsz : szK y.k ≠ 0 := by
    rcases hk2 with h | h | ⟨h, h'⟩
    · omega
    · omega
    · rw [h]; omega
  have hdd : decL y.k (encL y.k (apB x y F b)) (F * x.m.length) = apB x y F b := by
    have h := decL_encL hsz (apB_all x y F b)
    rw [hBl] at h
    rw [h]
    refine map_of_fix fun v hv => hfix v (r1 v ?_)
    rw [← hB]
    exact hv
  have hback : apB y x F (encL y.k (apB x y F b)) = decL x.k b (F * x.m.length) := by
    show apL y.m.length x.m.length (dfO y.m x.m) (decL y.k (encL y.k (apB x y F b)) (F * y.m.length)) (F * x.m.length) = _
    rw [hq, hdd, hB, r2]
  rw [hback]
  exact hed.1
/-- Equal formats. -/
theorem same_all {x : Fm} (H : Ok16 x x) (hP : phB x x = P1) (hm : dfO x.m x.m = idL x.m.length) (hk : szK x.k = 1 ∨ szK x.k = 2 ∨ szK x.k = 3) {F : Nat} (hF : F ≤ 60) {b : List UInt8} (hb : b.length = F * fz x) :
    ruE (cnR x x) b = 0 ∧ fnE (ruR (cnR x x) b) = 0 ∧ ruO (cnR x x) b ++ fnO (ruR (cnR x x) b) = b := by
  obtain ⟨a1, a2, a3⟩ := run_all H hP hF hb
  refine ⟨a1, a2, ?_⟩
  rw [a3]
  obtain ⟨h0, h1, h2⟩ := ok_ch H
  have hb2 : b.length = F * x.m.length * (szK x.k).toNat := by rw [hb]; unfold fz; rw [Nat.mul_assoc, Nat.mul_comm x.m.length]
  have hDl : (decL x.k b (F * x.m.length)).length = F * x.m.length := decL_len ..
  have e : apB x x F b = decL x.k b (F * x.m.length) := by
    have h := idP_one (P := x.m.length) (by omega) (decL_all x.k b (F * x.m.length)) (by rw [hDl, Nat.mul_div_cancel _ (by omega)])
    rw [hDl, Nat.mul_div_cancel _ (by omega)] at h
    unfold apB
    rw [hm]
    exact h
  rw [e]
  exact (encL_decL hk hb2).1
/-- Silence. -/
theorem wrB_zero (s : Int) (g : Bool) : wrB s g 0 = List.replicate s.toNat 0 := by
  unfold wrB
  rw [List.eq_replicate_iff]
  refine ⟨by simp, ?_⟩
  intro v hv
  rw [List.mem_map] at hv
  obtain ⟨i, _, rfl⟩ := hv
  rw [Int.zero_ediv]
  rfl
theorem szK_one {k : Int} : szK k = 1 ↔ k = 1 := by unfold szK; omega
theorem enc_zero {k : Int} (hk : szK k ≠ 0) : wrB (szK k) (bigK k) (encV (szK k) 0) = List.replicate (szK k).toNat (if k = 1 then 128 else 0) := by
  by_cases h : k = 1
  · subst h; decide
  · have h1 : szK k ≠ 1 := fun e => h (szK_one.1 e)
    have e : encV (szK k) 0 = 0 := by
      unfold encV
      rw [if_neg h1]
      split
      · decide
      · split <;> rfl
    rw [e, wrB_zero, if_neg h]
theorem encL_zero {k : Int} (hk : szK k ≠ 0) : ∀ n : Nat, encL k (List.replicate n 0) = ziO k (n * (szK k).toNat)
  | 0 => by rw [Nat.zero_mul]; rfl
  | n + 1 => by
    have h := encL_zero hk n
    unfold encL ziO at h ⊢
    rw [List.replicate_succ, List.flatMap_cons, h, enc_zero hk, List.replicate_append_replicate, Nat.add_mul, Nat.one_mul, Nat.add_comm]
theorem decL_zero {k : Int} (hk : szK k ≠ 0) (n : Nat) : decL k (ziO k (n * (szK k).toNat)) n = List.replicate n 0 := by
  have hz : ∀ v ∈ List.replicate n (0 : Int), rtS (szK k) v = v := fun v hv => by
    rw [List.eq_of_mem_replicate hv]
    unfold rtS
    have hs := szK_in k
    rcases hs with e | e | e | e | e
    · exact absurd e hk
    all_goals rw [e]; decide
  have ha : (List.replicate n (0 : Int)).all smpX = true := by
    rw [List.all_eq_true]
    intro v hv
    rw [List.eq_of_mem_replicate hv]
    decide
  have h := decL_encL hk ha
  rw [List.length_replicate, encL_zero hk, map_of_fix hz] at h
  exact h
theorem dotN_zero {f g : Nat → Int} : ∀ n : Nat, (∀ c, g c = 0) → dotN f g n = 0
  | 0, _ => rfl
  | n + 1, h => by
    show dotN f g n + f n * g n = 0
    rw [dotN_zero n h, h n]
    simp
theorem apL_zero (A B : Nat) (M : List Int) (q n : Nat) : apL A B M (List.replicate q 0) n = List.replicate n 0 := by
  rw [List.eq_replicate_iff]
  refine ⟨apL_len .., ?_⟩
  intro v hv
  unfold apL at hv
  rw [List.mem_map] at hv
  obtain ⟨j, _, rfl⟩ := hv
  unfold apV
  rw [dotN_zero A (fun c => by unfold atL; rw [List.getElem?_replicate]; split <;> rfl)]
  decide
theorem outO_zero {x : Rs} (hP : 0 < prt x.p) (h : ∀ v ∈ x.l, v = 0) : ∀ n : Nat, ∀ v ∈ outO x n, v = 0
  | 0, v, hv => by cases hv
  | n + 1, v, hv => by
    rw [outO, List.mem_append] at hv
    rcases hv with hv | hv
    · exact outO_zero hP h n v hv
    · unfold outF at hv
      rw [List.mem_map] at hv
      obtain ⟨ch, _, rfl⟩ := hv
      have hg : ∀ k ch, gx x k ch = 0 := fun k ch => by
        unfold gx
        cases he : x.l[frA x k + ch]? with
        | none => rfl
        | some z => exact h z (List.mem_of_getElem? he)
      unfold outC
      rw [hg, hg, btw_same _ _ hP]
theorem eq_rep {l : List Int} {n : Nat} (hl : l.length = n) (h : ∀ v ∈ l, v = 0) : l = List.replicate n 0 := List.eq_replicate_iff.2 ⟨hl, h⟩
theorem sil_all {x y : Fm} (H : Ok16 x y) {g : Int} (hg : 1 ≤ g) (hx : x.r = g * (phB x y).n) (hy : y.r = g * (phB x y).d) {n : Nat} (h1 : 1 ≤ n) (h2 : n ≤ 60) :
    ruE (cnR x y) (ziO x.k (n * fz x)) = 0 ∧ fnE (ruR (cnR x y) (ziO x.k (n * fz x))) = 0 ∧ ∃ K : Nat, ruO (cnR x y) (ziO x.k (n * fz x)) ++ fnO (ruR (cnR x y) (ziO x.k (n * fz x))) = ziO y.k (K * fz y) ∧ ((K : Int) - 1) * x.r < n * y.r ∧ (n : Int) * y.r ≤ K * x.r ∧ 1 ≤ K ∧ K ≤ 131072 := by
  obtain ⟨h0, c1, c2⟩ := ok_ch H
  have sx := (fm_in H.hx).1
  have sy := (fm_in H.hy).1
  have hb : (ziO x.k (n * fz x)).length = n * fz x := by simp [ziO]
  obtain ⟨d1, d2⟩ := cn_ok H
  obtain ⟨r1, r2, r3⟩ := run_step H (W := 0) (V := n) (b := []) (c := ziO x.k (n * fz x)) (by omega) (by simp) hb
  rw [ouB_zero H, List.nil_append, List.nil_append, Nat.zero_add] at r3
  rw [List.nil_append, Nat.zero_add] at r2
  obtain ⟨f1, f2, f3⟩ := fin_ok H (W := n) (by omega) (ziO x.k (n * fz x))
  rw [d2, r1, r2, r3, f1, f3]
  refine ⟨rfl, rfl, ?_⟩
  have hfz : n * fz x = n * x.m.length * (szK x.k).toNat := by unfold fz; rw [Nat.mul_assoc, Nat.mul_comm x.m.length]
  have hA : apB x y n (ziO x.k (n * fz x)) = List.replicate (n * y.m.length) 0 := by
    unfold apB
    rw [hfz, decL_zero (by omega), apL_zero]
  obtain ⟨m1, m2⟩ := mkB_in H (W := n) (by omega)
  obtain ⟨v1, v2, v3, v4, v5⟩ := stB_V H (W := n) (by omega) (ziO x.k (n * fz x))
  have hpv := (rsV_in v1).1
  have hprt := prt_in hpv
  have hc8 : (stB x y n (ziO x.k (n * fz x))).c = (y.m.length : Int) := rfl
  have hci := cnt_in v1 (by omega) (n := 65536) (by decide)
  have hcn : ((cnt (stB x y n (ziO x.k (n * fz x))) 65536).toNat : Int) = cnt (stB x y n (ziO x.k (n * fz x))) 65536 := by omega
  have hiff : ∀ k : Nat, k < 65536 → (qAt (stB x y n (ziO x.k (n * fz x))).p k < ((n - qN (phB x y) (mkB x y n) : Nat) : Int) ↔ (k : Int) < cnt (stB x y n (ziO x.k (n * fz x))) 65536) := fun k hk => by
    have := cnt_iff v1 (n := 65536) (k := k) (by omega)
    rw [v3] at this
    exact this
  have hO : ooL (phB x y) y.m.length (apB x y n (ziO x.k (n * fz x))) (mkB x y n) = List.replicate (mkB x y n * y.m.length) 0 := by
    refine eq_rep (ooL_len ..) ?_
    rw [hA]
    exact oo_const H.hp (c := (y.m.length : Int)) (mkB x y n) (by omega) m2
  have hFi : fiO (stB x y n (ziO x.k (n * fz x))) 65536 = List.replicate ((cnt (stB x y n (ziO x.k (n * fz x))) 65536).toNat * y.m.length) 0 := by
    unfold fiO
    rw [if_pos f2]
    refine eq_rep (outO_len ..) (outO_zero (by omega) ?_ _)
    intro v hv
    have hv2 : v ∈ (apB x y n (ziO x.k (n * fz x))) := List.mem_of_mem_drop hv
    rw [hA] at hv2
    exact List.eq_of_mem_replicate hv2
  have hq1 := qAt_in hpv (n := 0) (by decide)
  have key : ∀ i : Nat, mkB x y n + i ≤ 65536 → (qN (phB x y) (mkB x y n + i) < n ↔ i < (cnt (stB x y n (ziO x.k (n * fz x))) 65536).toNat) := fun i hi => by
    have a1 := (q_add H.hp (N := mkB x y n) (i := i) hi).1
    have a2 := qN_eq hpv (g := i) (by omega)
    have a3 : qN (stB x y n (ziO x.k (n * fz x))).p i = qN (adv (phB x y) (mkB x y n)) i := rfl
    have hi6 : i < 65536 ∨ i = 65536 := by omega
    rcases hi6 with hi6 | hi6
    · have := hiff i hi6
      rw [← a2.1, a3] at this
      omega
    · have b1 := q_far H.hp (by have := H.hr; have := phV_in H.hp; omega)
      have b2 : ((qN (phB x y) 65535 : Nat) : Int) = qAt (phB x y) 65535 := (qN_eq H.hp (g := 65535) (by decide)).1
      have b3 := q_mono H.hp (i := 65535) (j := mkB x y n + i) (by omega)
      omega
  have hK6 : (cnt (stB x y n (ziO x.k (n * fz x))) 65536).toNat + mkB x y n < 65536 := by
    have b1 := q_far H.hp (by have := H.hr; have := phV_in H.hp; omega)
    have b2 : ((qN (phB x y) 65535 : Nat) : Int) = qAt (phB x y) 65535 := (qN_eq H.hp (g := 65535) (by decide)).1
    have b4 := key (65535 - mkB x y n) (by omega)
    rw [show mkB x y n + (65535 - mkB x y n) = 65535 by omega] at b4
    omega
  refine ⟨mkB x y n + (cnt (stB x y n (ziO x.k (n * fz x))) 65536).toNat, ?_, ?_⟩
  · unfold ouB
    rw [hO, hFi, ← encL_app, List.replicate_append_replicate, ← Nat.add_mul, encL_zero (by omega)]
    congr 1
    unfold fz
    rw [Nat.mul_assoc, Nat.mul_comm y.m.length]
  · generalize hcnt : (cnt (stB x y n (ziO x.k (n * fz x))) 65536).toNat = C0 at *
    generalize mkB x y n = N at *
    have hqd : ∀ k : Nat, k ≤ 65536 → (qN (phB x y) k < n ↔ (k : Int) * x.r < n * y.r) := fun k hk => by
      have e1 := (qN_eq H.hp hk).1
      have e2 : qAt (phB x y) k = (k : Int) * stp (phB x y) / prt (phB x y) := by
        unfold qAt ahd
        show (0 + (k : Int) * stp (phB x y)) / _ = _
        rw [Int.zero_add]
      have hpr := prt_in H.hp
      have e3 : stp (phB x y) = 65536 * (phB x y).n := by
        have := stp_in H.hp
        rw [this.1]
        show (phB x y).n * (65536 + 0) = _
        omega
      have e4 : prt (phB x y) = 65536 * (phB x y).d := by
        unfold prt
        rw [IntWalk.i64_in _ (by have := phV_in H.hp; omega)]
        omega
      have hd1 := phV_in H.hp
      rw [← Int.ofNat_lt, e1, e2, Int.ediv_lt_iff_lt_mul (by omega), e3, e4, hx, hy]
      have t1 : (k : Int) * (65536 * (phB x y).n) = 65536 * ((k : Int) * (phB x y).n) := by rw [Int.mul_left_comm]
      have t2 : (n : Int) * (65536 * (phB x y).d) = 65536 * ((n : Int) * (phB x y).d) := by rw [Int.mul_left_comm]
      have t3 : (k : Int) * (g * (phB x y).n) = g * ((k : Int) * (phB x y).n) := by rw [Int.mul_left_comm]
      have t4 : (n : Int) * (g * (phB x y).d) = g * ((n : Int) * (phB x y).d) := by rw [Int.mul_left_comm]
      rw [t1, t2, t3, t4, Int.mul_lt_mul_left (by decide), Int.mul_lt_mul_left (by omega)]
    have hz0 : qN (phB x y) 0 = 0 := (adv_zero H.hp).2
    have hK1 : 1 ≤ N + C0 := by
      rcases Nat.eq_zero_or_pos (N + C0) with h | h
      · have := key 0 (by omega)
        rw [show N + 0 = 0 by omega, hz0] at this
        omega
      · exact h
    have hlast : qN (phB x y) (N + C0 - 1) < n := by
      rcases Nat.eq_zero_or_pos C0 with h | h
      · have hs := ned_succ H.hp (n := N - 1) (by omega)
        rw [show N - 1 + 1 = N by omega] at hs
        rw [h, Nat.add_zero]
        omega
      · have := (key (C0 - 1) (by omega)).2 (by omega)
        rw [show N + (C0 - 1) = N + C0 - 1 by omega] at this
        exact this
    have hnext : ¬ qN (phB x y) (N + C0) < n := fun h => by
      have := (key C0 (by omega)).1 h
      omega
    have j1 := (hqd (N + C0 - 1) (by omega)).1 hlast
    have j2 := fun h => hnext ((hqd (N + C0) (by omega)).2 h)
    have ec : ((N + C0 - 1 : Nat) : Int) = ((N + C0 : Nat) : Int) - 1 := by omega
    rw [ec] at j1
    exact ⟨j1, Int.not_lt.1 j2, hK1, by omega⟩


/-- A format of the laws. -/
structure Fg (x : Fm) : Prop where
  k : 1 ≤ x.k ∧ x.k ≤ 7
  r : ∃ i, i < 4 ∧ x.r = rtL i
  m : chV x.m = true
theorem Fg.V {x : Fm} (h : Fg x) : fmV x = true := by
  obtain ⟨i, hi, hr⟩ := h.r
  have h3 := rtL_in hi
  have hk := h.k
  have h4 : 0 < szK x.k := by unfold szK; omega
  unfold fmV
  rw [h.m, Bool.and_eq_true, Bool.and_eq_true, Bool.and_eq_true]
  exact ⟨⟨⟨decide_eq_true h4, decide_eq_true (by omega)⟩, decide_eq_true (by omega)⟩, rfl⟩
theorem fg_fx (l : List UInt8) : Fg (fxF l) := ⟨fxF_k l, ⟨_, rate_i l, rfl⟩, map_ch _⟩
theorem fg_k {x : Fm} (h : Fg x) {k : Int} (hk : 1 ≤ k ∧ k ≤ 7) : Fg ⟨k, x.r, x.m⟩ := ⟨hk, h.r, h.m⟩
theorem fg_m {x : Fm} (h : Fg x) {k : Int} (hk : 1 ≤ k ∧ k ≤ 7) {m : List Int} (hm : chV m = true) : Fg ⟨k, x.r, m⟩ := ⟨hk, h.r, hm⟩
theorem ok_fg {x y : Fm} (hx : Fg x) (hy : Fg y) : Ok16 x y := by
  obtain ⟨i, hi, hr⟩ := hx.r
  obtain ⟨j, hj, hq⟩ := hy.r
  have h := rt_pair i hi j hj
  refine ⟨hx.V, hy.V, ?_, ?_, dfO_mx hx.m hy.m⟩
  · unfold phB; rw [hr, hq]; exact h.1
  · unfold phB; rw [hr, hq]; exact h.2.1
theorem fg_gcd {x y : Fm} (hx : Fg x) (hy : Fg y) : ∃ g : Int, 1 ≤ g ∧ x.r = g * (phB x y).n ∧ y.r = g * (phB x y).d := by
  obtain ⟨i, hi, hr⟩ := hx.r
  obtain ⟨j, hj, hq⟩ := hy.r
  have h := rt_pair i hi j hj
  refine ⟨gcdI (rtL i) (rtL j), h.2.2.1, ?_, ?_⟩
  · unfold phB; rw [hr, hq]; exact h.2.2.2.1
  · unfold phB; rw [hr, hq]; exact h.2.2.2.2
theorem fg_P1 {x y : Fm} (hx : Fg x) (h : y.r = x.r) : phB x y = P1 := by
  obtain ⟨i, hi, hr⟩ := hx.r
  have h2 := rt_same i hi
  unfold phB P1
  rw [h, hr, h2.1, h2.2]
theorem fg_rate {x : Fm} (h : Fg x) : 8000 ≤ x.r ∧ x.r ≤ 96000 := by
  obtain ⟨i, hi, hr⟩ := h.r
  rw [hr]; exact rtL_in hi
theorem cvS_small {x y : Fm} (H : Ok16 x y) {W : Nat} (hW : W ≤ 299) (b : List UInt8) : (cvS x y W b).f.m.length ≤ 1000000 ∧ (cvS x y W b).t.m.length ≤ 1000000 ∧ (cvS x y W b).mc.length ≤ 1000000 ∧ (cvS x y W b).r.l.length ≤ 1000000 := by
  obtain ⟨_, h1, h2⟩ := ok_ch H
  have h3 := stB_V H hW b
  have h4 : (dfO x.m y.m).length ≤ 64 := by
    rw [(mxV_in H.hm).2.2.1, Int.toNat_natCast, Int.toNat_natCast]
    exact Nat.mul_le_mul (show _ ≤ 8 by omega) (show _ ≤ 8 by omega)
  exact ⟨by show x.m.length ≤ _; omega, by show y.m.length ≤ _; omega, by show (dfO x.m y.m).length ≤ _; omega, by show (stB x y W b).l.length ≤ _; omega⟩
theorem cn_small {x y : Fm} (H : Ok16 x y) : (cnR x y).f.m.length ≤ 1000000 ∧ (cnR x y).t.m.length ≤ 1000000 ∧ (cnR x y).mc.length ≤ 1000000 ∧ (cnR x y).r.l.length ≤ 1000000 := by
  rw [(cn_ok H).2]
  exact cvS_small H (by decide) []
theorem ru_is {x y : Fm} (H : Ok16 x y) {F : Nat} (hF : F ≤ 299) {b : List UInt8} (hb : b.length = F * fz x) : ruE (cnR x y) b = 0 ∧ ruR (cnR x y) b = cvS x y F b ∧ ruO (cnR x y) b = ouB x y F b := by
  obtain ⟨r1, r2, r3⟩ := run_step H (W := 0) (V := F) (b := []) (c := b) (by omega) (by simp) hb
  rw [ouB_zero H, List.nil_append, List.nil_append, Nat.zero_add] at r3
  rw [List.nil_append, Nat.zero_add] at r2
  rw [(cn_ok H).2]
  exact ⟨r1, r2, r3⟩
theorem ru_small {x y : Fm} (H : Ok16 x y) {F : Nat} (hF : F ≤ 299) {b : List UInt8} (hb : b.length = F * fz x) : (ruR (cnR x y) b).f.m.length ≤ 1000000 ∧ (ruR (cnR x y) b).t.m.length ≤ 1000000 ∧ (ruR (cnR x y) b).mc.length ≤ 1000000 ∧ (ruR (cnR x y) b).r.l.length ≤ 1000000 := by
  rw [(ru_is H hF hb).2.1]
  exact cvS_small H hF b
theorem fz_mul {x : Fm} (h : fmV x = true) {w : Int} {F : Nat} (hw : w = (F : Int)) : (w * fmZ x).toNat = F * fz x := by
  rw [(fz_eq h).1, hw, ← Int.natCast_mul, Int.toNat_natCast]
theorem mod20 {w : Int} (hw : 0 ≤ w ∧ w ≤ 255) : IntKind.i64.wrap (w.tmod 20) = (((w.tmod 20).toNat : Nat) : Int) ∧ (w.tmod 20).toNat ≤ 19 := by
  have : 0 ≤ w.tmod 20 ∧ w.tmod 20 < 20 := by rw [Int.tmod_eq_emod_of_nonneg hw.1]; omega
  rw [IntWalk.i64_in _ (by omega)]
  omega
theorem fn_is {x y : Fm} (H : Ok16 x y) {F : Nat} (hF : F ≤ 299) {b : List UInt8} (hb : b.length = F * fz x) : (ruO (cnR x y) b).length ≤ 2097152 ∧ (fnO (ruR (cnR x y) b)).length ≤ 2097152 := by
  obtain ⟨r1, r2, r3⟩ := ru_is H hF hb
  obtain ⟨f1, f2, f3⟩ := fin_ok H hF b
  obtain ⟨_, _, h2⟩ := ok_ch H
  have hs := (fm_in H.hy).1
  have v := stB_V H hF b
  have hf := fi_enc v.1 (by omega) f2
  have hm := (mkB_in H hF).1
  rw [r2, r3, f3]
  constructor
  · unfold ouB
    rw [encL_lenF, ooL_len]
    have h1 : mkB x y F * (y.m.length : Int).toNat ≤ 65536 * 8 := Nat.mul_le_mul (by omega) (by omega)
    exact Nat.mul_le_mul (show _ ≤ 524288 from h1) (show (szK y.k).toNat ≤ 4 by omega)
  · rw [encL_lenF]
    exact Nat.mul_le_mul (show _ ≤ 524288 from hf.1) (show (szK y.k).toNat ≤ 4 by omega)
theorem fz_le {x : Fm} (h : fmV x = true) {F : Nat} (hF : F ≤ 60) : F * fz x ≤ 1920 := by
  have := Nat.mul_le_mul hF (fz_eq h).2.2
  omega
theorem szK5 {k : Int} (h : 1 ≤ k ∧ k ≤ 5) : szK k = 1 ∨ szK k = 2 ∨ szK k = 3 := by unfold szK; omega
theorem same_law {y : Fm} (g : Fg y) (hk : y.k ≤ 5) (hid : dfO y.m y.m = idL y.m.length) {F : Nat} (hF : F ≤ 19) (l : List UInt8) :
    ((F : Int) * fmZ y).toNat = F * fz y ∧ cnE y y = 0 ∧ ruE (cnR y y) (btO l (F * fz y)) = 0 ∧ fnE (ruR (cnR y y) (btO l (F * fz y))) = 0 ∧ ruO (cnR y y) (btO l (F * fz y)) ++ fnO (ruR (cnR y y) (btO l (F * fz y))) = btO l (F * fz y) ∧
    ((cnR y y).f.m.length ≤ 1000000 ∧ (cnR y y).t.m.length ≤ 1000000 ∧ (cnR y y).mc.length ≤ 1000000 ∧ (cnR y y).r.l.length ≤ 1000000) ∧
    ((ruR (cnR y y) (btO l (F * fz y))).f.m.length ≤ 1000000 ∧ (ruR (cnR y y) (btO l (F * fz y))).t.m.length ≤ 1000000 ∧ (ruR (cnR y y) (btO l (F * fz y))).mc.length ≤ 1000000 ∧ (ruR (cnR y y) (btO l (F * fz y))).r.l.length ≤ 1000000) ∧
    (btO l (F * fz y)).length ≤ 1000000 ∧ ((ruO (cnR y y) (btO l (F * fz y))).length ≤ 2097152 ∧ (fnO (ruR (cnR y y) (btO l (F * fz y)))).length ≤ 2097152) ∧ y.m.length ≤ 1000000 := by
  have H := ok_fg g g
  have hb : (btO l (F * fz y)).length = F * fz y := btO_len ..
  have hs := same_all H (fg_P1 g rfl) hid (szK5 ⟨g.k.1, hk⟩) (F := F) (by omega) hb
  have hz := fz_le g.V (F := F) (by omega)
  have hm := (chV_in g.m).2.1
  exact ⟨fz_mul g.V rfl, (cn_ok H).1, hs.1, hs.2.1, hs.2.2, cn_small H, ru_small H (by omega) hb, by omega, fn_is H (by omega) hb, by omega⟩
theorem sel_k {κ : Int} (h : 1 ≤ κ ∧ κ ≤ 5) {i : Nat} (hi : i < 4) : (1 ≤ (if κ < ([4, 5, κ, 7] : List Int)[i]?.getD 0 then ([4, 5, κ, 7] : List Int)[i]?.getD 0 else κ) ∧ (if κ < ([4, 5, κ, 7] : List Int)[i]?.getD 0 then ([4, 5, κ, 7] : List Int)[i]?.getD 0 else κ) ≤ 7) ∧
    (szK (if κ < ([4, 5, κ, 7] : List Int)[i]?.getD 0 then ([4, 5, κ, 7] : List Int)[i]?.getD 0 else κ) = 3 ∨ szK (if κ < ([4, 5, κ, 7] : List Int)[i]?.getD 0 then ([4, 5, κ, 7] : List Int)[i]?.getD 0 else κ) = 4 ∨ (if κ < ([4, 5, κ, 7] : List Int)[i]?.getD 0 then ([4, 5, κ, 7] : List Int)[i]?.getD 0 else κ) = κ) := by
  have key : ∀ v : Int, v = 4 ∨ v = 5 ∨ v = κ ∨ v = 7 → (1 ≤ (if κ < v then v else κ) ∧ (if κ < v then v else κ) ≤ 7) ∧ (szK (if κ < v then v else κ) = 3 ∨ szK (if κ < v then v else κ) = 4 ∨ (if κ < v then v else κ) = κ) := fun v hv => by
    split
    · rcases hv with rfl | rfl | rfl | rfl
      · exact ⟨by omega, .inl (by decide)⟩
      · exact ⟨by omega, .inl (by decide)⟩
      · omega
      · exact ⟨by omega, .inr (.inl (by decide))⟩
    · exact ⟨by omega, .inr (.inr rfl)⟩
  refine key _ ?_
  match i with
  | 0 => exact .inl rfl
  | 1 => exact .inr (.inl rfl)
  | 2 => exact .inr (.inr (.inl rfl))
  | 3 => exact .inr (.inr (.inr rfl))
  | i + 4 => omega
theorem there_law {x y : Fm} (g : Fg x) (g' : Fg y) (hk : x.k ≤ 5) (hr : y.r = x.r) (ho : ordF x.m y.m) (hk2 : szK y.k = 3 ∨ szK y.k = 4 ∨ y.k = x.k) {F : Nat} (hF : F ≤ 19) (l : List UInt8) :
    ((F : Int) * fmZ x).toNat = F * fz x ∧ (cnE x y = 0 ∧ cnE y x = 0) ∧ (ruE (cnR x y) (btO l (F * fz x)) = 0 ∧ fnE (ruR (cnR x y) (btO l (F * fz x))) = 0) ∧
    (ruE (cnR y x) (ruO (cnR x y) (btO l (F * fz x)) ++ fnO (ruR (cnR x y) (btO l (F * fz x)))) = 0 ∧ fnE (ruR (cnR y x) (ruO (cnR x y) (btO l (F * fz x)) ++ fnO (ruR (cnR x y) (btO l (F * fz x))))) = 0 ∧
    ruO (cnR y x) (ruO (cnR x y) (btO l (F * fz x)) ++ fnO (ruR (cnR x y) (btO l (F * fz x)))) ++ fnO (ruR (cnR y x) (ruO (cnR x y) (btO l (F * fz x)) ++ fnO (ruR (cnR x y) (btO l (F * fz x))))) = btO l (F * fz x)) ∧
    ((cnR x y).f.m.length ≤ 1000000 ∧ (cnR x y).t.m.length ≤ 1000000 ∧ (cnR x y).mc.length ≤ 1000000 ∧ (cnR x y).r.l.length ≤ 1000000) ∧
    ((cnR y x).f.m.length ≤ 1000000 ∧ (cnR y x).t.m.length ≤ 1000000 ∧ (cnR y x).mc.length ≤ 1000000 ∧ (cnR y x).r.l.length ≤ 1000000) ∧
    ((ruR (cnR x y) (btO l (F * fz x))).f.m.length ≤ 1000000 ∧ (ruR (cnR x y) (btO l (F * fz x))).t.m.length ≤ 1000000 ∧ (ruR (cnR x y) (btO l (F * fz x))).mc.length ≤ 1000000 ∧ (ruR (cnR x y) (btO l (F * fz x))).r.l.length ≤ 1000000) ∧
    (∀ b, b = ruO (cnR x y) (btO l (F * fz x)) ++ fnO (ruR (cnR x y) (btO l (F * fz x))) → b.length ≤ 1920 ∧ ((ruR (cnR y x) b).f.m.length ≤ 1000000 ∧ (ruR (cnR y x) b).t.m.length ≤ 1000000 ∧ (ruR (cnR y x) b).mc.length ≤ 1000000 ∧ (ruR (cnR y x) b).r.l.length ≤ 1000000)) ∧ (btO l (F * fz x)).length ≤ 1920 := by
  have H := ok_fg g g'
  have H' := ok_fg g' g
  have hb : (btO l (F * fz x)).length = F * fz x := btO_len ..
  have hs := szK5 ⟨g.k.1, hk⟩
  have ht := there H H' (fg_P1 g hr) (fg_P1 g' hr.symm) ho hs (by rcases hk2 with h | h | h; exact .inl h; exact .inr (.inl h); exact .inr (.inr ⟨h, hs⟩)) (F := F) (by omega) hb
  obtain ⟨t1, t2, t3, t4, t5⟩ := ht
  have hz := fz_le g.V (F := F) (by omega)
  have hz' := fz_le g'.V (F := F) (by omega)
  have ha := (run_all H (fg_P1 g hr) (F := F) (by omega) hb).2.2
  have hb2 : (ruO (cnR x y) (btO l (F * fz x)) ++ fnO (ruR (cnR x y) (btO l (F * fz x)))).length = F * fz y := by
    rw [ha, encL_lenF, apB_len]
    unfold fz
    rw [Nat.mul_assoc, Nat.mul_comm y.m.length]
  refine ⟨fz_mul g.V rfl, ⟨(cn_ok H).1, (cn_ok H').1⟩, ⟨t1, t2⟩, ⟨t3, t4, t5⟩, cn_small H, cn_small H', ru_small H (by omega) hb, ?_, by omega⟩
  intro b e
  subst e
  exact ⟨by omega, ru_small H' (F := F) (by omega) hb2⟩
theorem sil_law {x y : Fm} (g : Fg x) (g' : Fg y) {n : Nat} (h1 : 1 ≤ n) (h2 : n ≤ 20) :
    ((n : Int) * fmZ x).toNat = n * fz x ∧ cnE x y = 0 ∧ ruE (cnR x y) (ziO x.k (n * fz x)) = 0 ∧ fnE (ruR (cnR x y) (ziO x.k (n * fz x))) = 0 ∧
    (∃ K : Nat, ruO (cnR x y) (ziO x.k (n * fz x)) ++ fnO (ruR (cnR x y) (ziO x.k (n * fz x))) = ziO y.k (K * fz y) ∧ ((K : Int) - 1) * x.r < n * y.r ∧ (n : Int) * y.r ≤ K * x.r ∧ 1 ≤ K ∧ K ≤ 131072) ∧
    ((cnR x y).f.m.length ≤ 1000000 ∧ (cnR x y).t.m.length ≤ 1000000 ∧ (cnR x y).mc.length ≤ 1000000 ∧ (cnR x y).r.l.length ≤ 1000000) ∧
    ((ruR (cnR x y) (ziO x.k (n * fz x))).f.m.length ≤ 1000000 ∧ (ruR (cnR x y) (ziO x.k (n * fz x))).t.m.length ≤ 1000000 ∧ (ruR (cnR x y) (ziO x.k (n * fz x))).mc.length ≤ 1000000 ∧ (ruR (cnR x y) (ziO x.k (n * fz x))).r.l.length ≤ 1000000) ∧
    (ziO x.k (n * fz x)).length ≤ 1000000 ∧ ((ruO (cnR x y) (ziO x.k (n * fz x))).length ≤ 2097152 ∧ (fnO (ruR (cnR x y) (ziO x.k (n * fz x)))).length ≤ 2097152) ∧ fmZ y = ((fz y : Nat) : Int) ∧ 1 ≤ fz y ∧ fz y ≤ 32 := by
  have H := ok_fg g g'
  obtain ⟨gg, g1, g2, g3⟩ := fg_gcd g g'
  have hb : (ziO x.k (n * fz x)).length = n * fz x := by simp [ziO]
  have hs := sil_all H g1 g2 g3 (n := n) h1 (by omega)
  have hz := fz_le g.V (F := n) (by omega)
  exact ⟨fz_mul g.V rfl, (cn_ok H).1, hs.1, hs.2.1, hs.2.2, cn_small H, ru_small H (by omega) hb, by omega, fn_is H (by omega) hb, fz_eq g'.V⟩
theorem dfE_ch {a b : List Int} (e : dfE a b = 0) : chV a = true ∧ chV b = true := by
  unfold dfE at e
  split at e
  · cases e
  · rename_i h3; simpa using h3
/-- The frame at which a piece begins. -/
def pcQ (n : Nat) (p : List UInt8) : Nat → Nat
  | 0 => 0
  | i + 1 => if i < p.length then min n (pcQ n p i + (p[i]?.getD 0).toNat % 6) else n
theorem pcQ_le (n : Nat) (p : List UInt8) : ∀ i, pcQ n p i ≤ n
  | 0 => Nat.zero_le _
  | i + 1 => by unfold pcQ; split <;> omega
theorem pcQ_mono (n : Nat) (p : List UInt8) (i : Nat) : pcQ n p i ≤ pcQ n p (i + 1) := by
  have := pcQ_le n p i
  show _ ≤ if i < p.length then min n (pcQ n p i + (p[i]?.getD 0).toNat % 6) else n
  split <;> omega
theorem pcQ_end (n : Nat) (p : List UInt8) : pcQ n p (p.length + 1) = n := by
  show (if p.length < p.length then _ else n) = n
  rw [if_neg (Nat.lt_irrefl _)]
theorem take_cut {b : List UInt8} {q m : Nat} (h : q ≤ m) : b.take q ++ (b.drop q).take (m - q) = b.take m := by
  rw [show m = q + (m - q) by omega, List.take_add, Nat.add_sub_cancel_left]
theorem piece_law {x y : Fm} (g : Fg x) (g' : Fg y) {F : Nat} (hF : F ≤ 19) (l : List UInt8) :
    ((F : Int) * fmZ x).toNat = F * fz x ∧ cnE x y = 0 ∧ ruE (cnR x y) (btO l (F * fz x)) = 0 ∧ cnR x y = cvS x y 0 [] ∧
    ((cvS x y 0 []).f.m.length ≤ 1000000 ∧ (cvS x y 0 []).t.m.length ≤ 1000000 ∧ (cvS x y 0 []).mc.length ≤ 1000000 ∧ (cvS x y 0 []).r.l.length ≤ 1000000) ∧
    (btO l (F * fz x)).length ≤ 1000 ∧ fmZ x = ((fz x : Nat) : Int) ∧ 1 ≤ fz x ∧ fz x ≤ 32 ∧ ruR (cvS x y 0 []) (btO l (F * fz x)) = cvS x y F (btO l (F * fz x)) ∧ ruO (cvS x y 0 []) (btO l (F * fz x)) = ouB x y F (btO l (F * fz x)) := by
  have H := ok_fg g g'
  have hb : (btO l (F * fz x)).length = F * fz x := btO_len ..
  obtain ⟨r1, r2, r3⟩ := ru_is H (F := F) (by omega) hb
  have hz := fz_eq g.V
  have h2 := Nat.mul_le_mul hF hz.2.2
  have hc := (cn_ok H).2
  rw [hc] at r1 r2 r3 ⊢
  exact ⟨fz_mul g.V rfl, (cn_ok H).1, r1, rfl, cvS_small H (by decide) [], by omega, hz.1, hz.2.1, hz.2.2, r2, r3⟩
theorem piece_step {x y : Fm} (g : Fg x) (g' : Fg y) {q m F : Nat} (h1 : q ≤ m) (h2 : m ≤ F) (hF : F ≤ 19) {b : List UInt8} (hb : b.length = F * fz x) :
    ruE (cvS x y q (b.take (q * fz x))) ((b.drop (q * fz x)).take (m * fz x - q * fz x)) = 0 ∧ ruR (cvS x y q (b.take (q * fz x))) ((b.drop (q * fz x)).take (m * fz x - q * fz x)) = cvS x y m (b.take (m * fz x)) ∧
    ouB x y q (b.take (q * fz x)) ++ ruO (cvS x y q (b.take (q * fz x))) ((b.drop (q * fz x)).take (m * fz x - q * fz x)) = ouB x y m (b.take (m * fz x)) ∧ (ouB x y m (b.take (m * fz x))).length ≤ 2097152 ∧
    ((cvS x y q (b.take (q * fz x))).f.m.length ≤ 1000000 ∧ (cvS x y q (b.take (q * fz x))).t.m.length ≤ 1000000 ∧ (cvS x y q (b.take (q * fz x))).mc.length ≤ 1000000 ∧ (cvS x y q (b.take (q * fz x))).r.l.length ≤ 1000000) ∧ q * fz x ≤ m * fz x ∧ m * fz x ≤ b.length := by
  have H := ok_fg g g'
  have hqm : q * fz x ≤ m * fz x := Nat.mul_le_mul_right _ h1
  have hmF : m * fz x ≤ F * fz x := Nat.mul_le_mul_right _ h2
  have l1 : (b.take (q * fz x)).length = q * fz x := by rw [List.length_take]; omega
  have l2 : ((b.drop (q * fz x)).take (m * fz x - q * fz x)).length = (m - q) * fz x := by rw [List.length_take, List.length_drop, Nat.sub_mul]; omega
  obtain ⟨s1, s2, s3⟩ := run_step H (W := q) (V := m - q) (by omega) l1 l2
  rw [take_cut hqm, show q + (m - q) = m by omega] at s2 s3
  obtain ⟨_, _, hy⟩ := ok_ch H
  have hs := (fm_in H.hy).1
  have hm := (mkB_in H (W := m) (by omega)).1
  refine ⟨s1, s2, s3, ?_, cvS_small H (by omega) _, hqm, by omega⟩
  unfold ouB
  rw [encL_lenF, ooL_len]
  have h1 : mkB x y m * (y.m.length : Int).toNat ≤ 65536 * 8 := Nat.mul_le_mul (by omega) (by omega)
  exact Nat.mul_le_mul (show _ ≤ 524288 from h1) (show (szK y.k).toNat ≤ 4 by omega)
theorem piece_to {n z : Nat} (hz : 1 ≤ z ∧ z ≤ 32) (hn : n ≤ 19) {q k : Nat} (hk : k ≤ 255) (hq : q ≤ n) :
    (if IntKind.i64.wrap (((q * z : Nat) : Int) + IntKind.i64.wrap (IntKind.i64.wrap ((k : Int).tmod 6) * ((z : Nat) : Int))) < ((n * z : Nat) : Int) then IntKind.i64.wrap (((q * z : Nat) : Int) + IntKind.i64.wrap (IntKind.i64.wrap ((k : Int).tmod 6) * ((z : Nat) : Int))) else ((n * z : Nat) : Int)) = ((min n (q + k % 6) * z : Nat) : Int) := by
  have e : (k : Int).tmod 6 = ((k % 6 : Nat) : Int) := by rw [Int.tmod_eq_emod_of_nonneg (by omega)]; omega
  have hk6 : k % 6 < 6 := Nat.mod_lt _ (by decide)
  generalize k % 6 = r at *
  have h1 : r * z ≤ 6 * 32 := Nat.mul_le_mul (by omega) hz.2
  have h2 : q * z ≤ 19 * 32 := Nat.mul_le_mul (by omega) hz.2
  have h3 : ((r : Int) * ((z : Nat) : Int)) = ((r * z : Nat) : Int) := (Int.natCast_mul ..).symm
  rw [e, IntWalk.i64_in (r : Int) (by omega), h3, IntWalk.i64_in ((r * z : Nat) : Int) (by omega), IntWalk.i64_in _ (by omega)]
  have h4 : (q + r) * z = q * z + r * z := Nat.add_mul ..
  rcases Nat.le_total n (q + r) with h | h
  · have h5 := Nat.mul_le_mul_right z h
    rw [Nat.min_eq_left h]
    split <;> omega
  · have h5 := Nat.mul_le_mul_right z h
    rw [Nat.min_eq_right h]
    split <;> omega
theorem cn_le {x y : Fm} (hx : x.m.length ≤ 20) (hy : y.m.length ≤ 20) : (cnR x y).f.m.length ≤ 1000000 ∧ (cnR x y).t.m.length ≤ 1000000 ∧ (cnR x y).mc.length ≤ 1000000 ∧ (cnR x y).r.l.length ≤ 1000000 := by
  unfold cnR
  split
  · have h1 : (dfO x.m y.m).length ≤ 400 := by
      unfold dfO
      split
      · rw [dfM_len]
        exact Nat.mul_le_mul hx hy
      · exact Nat.zero_le _
    have h2 : ∀ a b c : Int, (nwR a b c).l = [] := fun a b c => by unfold nwR; split <;> rfl
    refine ⟨by show x.m.length ≤ _; omega, by show y.m.length ≤ _; omega, by show (dfO x.m y.m).length ≤ _; omega, ?_⟩
    show (nwR _ _ _).l.length ≤ _
    rw [h2]
    exact Nat.zero_le _
  · exact ⟨Nat.zero_le _, Nat.zero_le _, Nat.zero_le _, Nat.zero_le _⟩


end Go.Vam
