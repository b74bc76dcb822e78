/- A block that may be written; one input alone: plain. Conditions: none. -/
import Derived.Test.YtmliamkbpbdlbaaMixI
import Derived.Test.YtmliamkbpbdlbaaVamInp
import Derived.Test.YtmliamkbpbdlbaaVamThaw
set_option linter.unusedVariables false
set_option linter.defProp false
set_option linter.unusedSimpArgs false
set_option maxRecDepth 40000
set_option maxHeartbeats 4000000
namespace Go.Vam
open Go.Proofs

theorem spec_mblockO (l : List UInt8) (c n : Int) (hc : 0 ≤ c ∧ c ≤ 8) (hn : 0 ≤ n ∧ n ≤ 1000) : Spec Try.prog 0 17 [.c (.lp ⟨0, 0⟩ 0), vI .i64 c, vI .i64 n] [(⟨0, 0⟩, [.d (.list (LB l))])] [] (.agg [.d (.int .i64 c), .own ⟨0, 9⟩ (LI .i32 (bkO l (c * n).toNat))]) [(⟨0, 0⟩, [.d (.list (LB (bkR l (c * n).toNat)))])] [(⟨0, 9⟩, ⟨false, 1, (LI .i32 (bkO l (c * n).toNat))⟩)] := by
  refine spec_of_E_new (X := ⟨Try.prog, tt, Try.f17.ntmps, 1, fun _ => 0, (tab [(34, E_sample)])⟩) (M := []) (m := 33223) (r0 := .agg [.d (.int .i64 c), .own ⟨1, 99⟩ (LI .i32 (bkO l (c * n).toNat))]) (b0 := [(⟨0, 0⟩, [.d (.list (LB (bkR l (c * n).toNat)))])]) (k0 := [(⟨1, 99⟩, ⟨false, 1, (LI .i32 (bkO l (c * n).toNat))⟩)]) ⟨1, 99⟩ ⟨0, 9⟩ rfl rfl ⟨tt_ok, tab_ok (tabs_cons E_sample_ok tabs_nil) _ rfl rfl⟩ tt_mixed Try.func17 rfl (by decide) (by show (3 : Nat) ≤ _; exact Nat.le_of_ble_eq_true rfl) rfl rfl rfl ⟨by simp [V.has, C.has], by simp [C.has], by simp⟩ (by decide) (by simp [V.names, C.names, namesB, namesK]) (by simp [lk]) (by simp [lk]) (by simp [lk]) ?_
  simp only [↓gPre, gPost, gCore, gDef, Nat.reduceShiftRight, Nat.reduceMod, if_true, if_false, ↓reduceIte, reduceCtorEq, Nat.reduceEqDiff, Nat.reduceLT, Nat.reduceLeDiff, implies_true, forall_const, eq_self, ne_eq, not_true_eq_false, not_false_eq_true, imp_self, Nat.reduceAdd, Nat.reduceMul, Int.reduceLE, Int.reduceLT, Int.reduceNeg, Int.reduceAdd, Int.reduceToNat, E_sample_eq, LX_nil, LX_length, LX_getD, LX_append, LX_one, LX_cells, LX_inj, LX_nil_eq, LX_inps_LX, LX_take, LX_drop, inps_LX, Try.ntmps17, Try.results17, gTT]
  refine ELoop_nilB ⟨1, 7⟩ 1 1 ⟨1, 99⟩ rfl rfl (by simp only [↓gPre, gPost, gCore, gDef, Nat.reduceShiftRight, Nat.reduceMod, if_true, if_false, ↓reduceIte, reduceCtorEq, Nat.reduceEqDiff, Nat.reduceLT, Nat.reduceLeDiff, implies_true, forall_const, eq_self, ne_eq, not_true_eq_false, not_false_eq_true, imp_self, Nat.reduceAdd, Nat.reduceMul, Int.reduceLE, Int.reduceLT, Int.reduceNeg, Int.reduceAdd, Int.reduceToNat, E_sample_eq, LX_nil, LX_length, LX_getD, LX_append, LX_one, LX_cells, LX_inj, LX_nil_eq, LX_inps_LX, LX_take, LX_drop, inps_LX, Try.ntmps17, Try.results17, gTT]) (Nat.le_refl _) ?_
  simp only [↓gPre, gPost, gCore, gDef, Nat.reduceShiftRight, Nat.reduceMod, if_true, if_false, ↓reduceIte, reduceCtorEq, Nat.reduceEqDiff, Nat.reduceLT, Nat.reduceLeDiff, implies_true, forall_const, eq_self, ne_eq, not_true_eq_false, not_false_eq_true, imp_self, Nat.reduceAdd, Nat.reduceMul, Int.reduceLE, Int.reduceLT, Int.reduceNeg, Int.reduceAdd, Int.reduceToNat, E_sample_eq, LX_nil, LX_length, LX_getD, LX_append, LX_one, LX_cells, LX_inj, LX_nil_eq, LX_inps_LX, LX_take, LX_drop, inps_LX, Try.ntmps17, Try.results17, gTT]
  have hcn : 0 ≤ c * n ∧ c * n ≤ 8000 := by
    refine ⟨Int.mul_nonneg hc.1 hn.1, ?_⟩
    have := mul_bd (x := c) (y := n) (A := 8) (B := 1000) (by omega) (by omega) hn.1 hn.2 (by decide)
    omega
  refine ELoop_keep (fun i => ⟨[(8, vI .i64 (i : Nat))], [(⟨1, 7⟩, [.d (.int .i64 c), .own ⟨1, 99⟩ (LI .i32 (bkO l i))]), (⟨0, 0⟩, [.d (.list (LB (bkR l i)))])], [(⟨1, 99⟩, ⟨false, 1, LI .i32 (bkO l i)⟩)]⟩) (fun i => i ≤ (c * n).toNat) (fun i => (c * n).toNat - i) (· + 1) 0 (Nat.zero_le _) ?_ ?_
  · simp only [↓gPre, gPost, gCore, gDef, Nat.reduceShiftRight, Nat.reduceMod, if_true, if_false, ↓reduceIte, reduceCtorEq, Nat.reduceEqDiff, Nat.reduceLT, Nat.reduceLeDiff, implies_true, forall_const, eq_self, ne_eq, not_true_eq_false, not_false_eq_true, imp_self, Nat.reduceAdd, Nat.reduceMul, Int.reduceLE, Int.reduceLT, Int.reduceNeg, Int.reduceAdd, Int.reduceToNat, E_sample_eq, LX_nil, LX_length, LX_getD, LX_append, LX_one, LX_cells, LX_inj, LX_nil_eq, LX_inps_LX, LX_take, LX_drop, inps_LX, Try.ntmps17, Try.results17, gTT]
    exact ⟨rfl, ⟨rfl, rfl⟩, rfl⟩
  intro i hi
  simp only [↓gPre, gPost, gCore, gDef, Nat.reduceShiftRight, Nat.reduceMod, if_true, if_false, ↓reduceIte, reduceCtorEq, Nat.reduceEqDiff, Nat.reduceLT, Nat.reduceLeDiff, implies_true, forall_const, eq_self, ne_eq, not_true_eq_false, not_false_eq_true, imp_self, Nat.reduceAdd, Nat.reduceMul, Int.reduceLE, Int.reduceLT, Int.reduceNeg, Int.reduceAdd, Int.reduceToNat, E_sample_eq, LX_nil, LX_length, LX_getD, LX_append, LX_one, LX_cells, LX_inj, LX_nil_eq, LX_inps_LX, LX_take, LX_drop, inps_LX, Try.ntmps17, Try.results17, gTT]
  rw [IntWalk.i64_in (c * n) (by omega)]
  have hl : (bkO l i).length = i := by simp [bkO]
  refine ⟨fun h => ?_, fun h => ?_⟩
  · have h1 := of_decide_eq_true h
    have e2 : bkO l (i + 1) = bkO l i ++ [sV (bkR l i)] := by simp [bkO, List.range_succ]
    rw [e2]
    rw [← IntWalk.i64_in (c * n) (by omega)]
    exact ⟨by kernel_rfl, by unfold roomOK; omega, ⟨(wrapN _ (by omega)).symm, ⟨rfl, rfl⟩, rfl⟩, by rw [IntWalk.i64_in (c * n) (by omega)]; omega, by rw [IntWalk.i64_in (c * n) (by omega)]; omega⟩
  · have h1 := of_decide_eq_false h
    have : (c * n).toNat = i := by omega
    rw [this]
    exact ⟨rfl, rfl, rfl⟩

theorem spec_mblockA (l : List UInt8) (c n : Int) (hc : 0 ≤ c ∧ c ≤ 8) (hn : 0 ≤ n ∧ n ≤ 1000) (hp : 0 < c * n) : Spec Try.prog 0 17 [.c (.lp ⟨0, 0⟩ 0), vI .i64 c, vI .i64 n] [(⟨0, 0⟩, [.d (.list (LB l))])] [] (.agg [.d (.int .i64 c), .arr ⟨0, 9⟩ (c * n).toNat]) [(⟨0, 0⟩, [.d (.list (LB (bkR l (c * n).toNat)))])] [(⟨0, 9⟩, ⟨true, 1, (LI .i32 (bkO l (c * n).toNat))⟩)] := by
  have hl : (bkO l (c * n).toNat).length = (c * n).toNat := by simp [bkO]
  have h := (spec_mblockO l c n hc hn).thaw (fun e => by rw [e] at hl; simp at hl; omega) (by decide)
  rw [hl] at h
  exact h

def E_mblockA : List V → Boxes → Toks → Name → Option Ent
  | [.c (.lp n0 0), .c (.d (.int .i64 c)), .c (.d (.int .i64 n))], [(m0, [.d (.list q_l)])], [], nF => some ⟨(0 ≤ c ∧ c ≤ 8) ∧ (0 ≤ n ∧ n ≤ 1000) ∧ 0 < c * n ∧ n0.lv ≤ 1 ∧ m0 = n0 ∧ nF ≠ n0 ∧ q_l = LB (bys q_l), .agg [.d (.int .i64 c), .arr nF (c * n).toNat], [(n0, [.d (.list (LB (bkR (bys q_l) (c * n).toNat)))])], [(nF, ⟨true, 1, (LI .i32 (bkO (bys q_l) (c * n).toNat))⟩)]⟩
  | _, _, _, _ => none
def E_mblockA_eq := And.intro (@E_mblockA.eq_1) (@E_mblockA.eq_1)
theorem E_mblockA_ok : Snd Try.prog 17 E_mblockA := by
  intro vs b k n e h hn hp
  unfold E_mblockA at h
  split at h
  · cases h; obtain ⟨hp0, hp1, hp2, hl0, rfl, hd10, hq0⟩ := hp; obtain ⟨_, rfl⟩ := LB_ex hq0; simp only [ints_LI, bys_LB, blks_LK, lls_LL] at hp0 hp1 hp2 ⊢; exact Spec.ren2 (spec_mblockA _ _ _ hp0 hp1 hp2) 0 9 (by simp [supOK, V.names, C.names, namesB, namesK]) hl0 (Nat.le_of_eq hn) hd10
  · cases h

theorem blkV_bkO (l : List UInt8) {c n : Int} (hc : 1 ≤ c ∧ c ≤ 8) (hn : 0 ≤ n ∧ n ≤ 1000) : blkV c (bkO l (c * n).toNat) = true := by
  have hl : (bkO l (c * n).toNat).length = (c * n).toNat := by simp [bkO]
  have h0 : 0 ≤ c * n := Int.mul_nonneg (by omega) hn.1
  have h1 : c * n ≤ 8 * 1000 := Int.mul_le_mul hc.2 hn.2 hn.1 (by decide)
  unfold blkV
  rw [hl]
  have hch : chBk c (c * n).toNat = false := by
    unfold chBk
    have e : (((c * n).toNat : Nat) : Int) = c * n := by omega
    rw [e, Int.mul_tmod_right, Int.mul_tdiv_cancel_left _ (by omega), IntWalk.i64_in n (by omega)]
    simp only [Bool.or_eq_false_iff, decide_eq_false_iff_not, bne_self_eq_false, and_true]
    omega
  rw [hch]
  simp only [Bool.not_false, Bool.true_and, List.all_eq_true]
  intro x hx
  simp only [bkO, List.mem_map] at hx
  obtain ⟨i, _, rfl⟩ := hx
  have := sV_in (bkR l i)
  simp only [smpX, Bool.and_eq_true, decide_eq_true_eq]
  exact this
theorem mkC_in (l : List UInt8) : -131072 ≤ mkC l ∧ mkC l ≤ 131072 := by
  have h0 := dN_ge l 256
  have h1 := dN_lt l 256 (by decide)
  unfold mkC
  match (dN (dT l 256) 8).toNat with
  | 0 => exact ⟨by simp, by simp⟩
  | 1 => exact ⟨by simp, by simp⟩
  | 2 => exact ⟨by simp, by simp⟩
  | 3 => exact ⟨by simp, by simp⟩
  | 4 => exact ⟨by simp, by simp⟩
  | 5 => exact ⟨by simp, by simp⟩
  | 6 => exact ⟨by simp, by simp⟩
  | 7 => show -131072 ≤ dN l 256 * 128 ∧ dN l 256 * 128 ≤ 131072; omega
  | n + 8 => exact ⟨by simp, by simp⟩
theorem mkL_all (l : List UInt8) (n : Nat) : (mkL l n).all coefX = true := by
  rw [List.all_eq_true]
  intro x hx
  simp only [mkL, List.mem_map] at hx
  obtain ⟨i, _, rfl⟩ := hx
  simpa [coefX] using mkC_in (mkR l i)
theorem mxV_of {a b : Int} {l : List Int} (ha : 1 ≤ a ∧ a ≤ 8) (hb : 1 ≤ b ∧ b ≤ 8) (hl : l.length = (a * b).toNat) (hx : l.all coefX = true) : mxV a b l = true := by
  have hm := mul88 ha hb
  unfold mxV mxB
  rw [hl, hx, IntWalk.i64_in (a * b) (by omega), Bool.and_true, Bool.not_eq_true']
  simp only [Bool.or_eq_false_iff, decide_eq_false_iff_not, bne_eq_false_iff_eq]
  omega
theorem mkL_valid (l : List UInt8) {a b : Int} (ha : 1 ≤ a ∧ a ≤ 8) (hb : 1 ≤ b ∧ b ≤ 8) : mxV a b (mkL l (a * b).toNat) = true := mxV_of ha hb (mkL_len ..) (mkL_all ..)
theorem toNat_mul {a b : Int} (ha : 0 ≤ a) (hb : 0 ≤ b) : (a * b).toNat = a.toNat * b.toNat := by
  have : a * b = ((a.toNat * b.toNat : Nat) : Int) := by rw [Int.natCast_mul]; congr 1 <;> omega
  omega
theorem idL_all (n : Nat) : (idL n).all coefX = true := by
  rw [List.all_eq_true]
  intro x hx
  simp only [idL, List.mem_map] at hx
  obtain ⟨i, _, rfl⟩ := hx
  split <;> decide
theorem id_ok {n : Int} (h : 1 ≤ n ∧ n ≤ 8) : idE n = 0 ∧ idN n = n ∧ idO n = idL n.toNat ∧ mxV n n (idL n.toNat) = true := by
  have hB : idB n = false := by simp only [idB, Bool.or_eq_false_iff, decide_eq_false_iff_not]; omega
  refine ⟨by simp [idE, hB], by simp [idN, hB], by simp [idO, hB], mxV_of h h ?_ (idL_all _)⟩
  rw [toNat_mul (by omega) (by omega)]; simp [idL]

theorem validG_of {a b c d : Int} (ha : 0 ≤ a ∧ a ≤ 262144) (hb : 0 ≤ b ∧ b ≤ 262144) (hc : 0 ≤ c ∧ c ≤ 4194304) (hd : 0 ≤ d ∧ d ≤ c) : validG a b c d = true := by
  simp only [validG, isG, Bool.and_eq_true, decide_eq_true_eq]
  omega
def sumP (ch fr : Int) (xs : List Inp) (j : Nat) : Int := (xs.map fun x => (paO ch fr x)[j]?.getD 0).sum
theorem sumP_nil (ch fr : Int) (j : Nat) : sumP ch fr [] j = 0 := rfl
theorem sumP_cons (ch fr : Int) (x : Inp) (xs : List Inp) (j : Nat) : sumP ch fr (x :: xs) j = (paO ch fr x)[j]?.getD 0 + sumP ch fr xs j := by simp [sumP]
theorem sumP_app (ch fr : Int) (xs ys : List Inp) (j : Nat) : sumP ch fr (xs ++ ys) j = sumP ch fr xs j + sumP ch fr ys j := by
  induction xs with
  | nil => simp [sumP]
  | cons x xs ih => rw [List.cons_append, sumP_cons, sumP_cons, ih, Int.add_assoc]
theorem runS_ok {ch fr : Int} (hf : 0 ≤ fr) {xs : List Inp} : ∀ {z : List Int}, keptI xs → (∀ x ∈ xs, inE ch fr x = 0) → z.length = ch.toNat * fr.toNat →
    (runS ch fr xs z).2 = 0 ∧ ∀ j : Nat, (runS ch fr xs z).1[j]?.getD 0 = z[j]?.getD 0 + sumP ch fr xs j := by
  induction xs with
  | nil => intro z _ _ _; exact ⟨rfl, fun j => by rw [sumP_nil, Int.add_zero]; rfl⟩
  | cons x xs ih =>
    intro z hk he hz
    have h0 := he x List.mem_cons_self
    have hpl := paO_len (ch := ch) (x := x) hf (hk x List.mem_cons_self).1
    unfold runS
    rw [if_pos h0]
    obtain ⟨h1, h2⟩ := ih (z := addL z (paO ch fr x)) (fun y hy => hk y (List.mem_cons_of_mem _ hy)) (fun y hy => he y (List.mem_cons_of_mem _ hy)) (by rw [addL_len]; exact hz)
    refine ⟨h1, fun j => ?_⟩
    rw [h2, addL_get _ _ _ (by omega), sumP_cons, Int.add_assoc]
theorem ext_getD {l m : List Int} (h : l.length = m.length) (h2 : ∀ j : Nat, l[j]?.getD 0 = m[j]?.getD 0) : l = m := by
  apply List.ext_getElem h
  intro j h3 h4
  have := h2 j
  rw [List.getElem?_eq_getElem h3, List.getElem?_eq_getElem h4] at this
  exact this
theorem muS_ok {ch fr : Int} {xs : List Inp} (hB : muB ch fr = false) (hk : keptI xs) (he : ∀ x ∈ xs, inE ch fr x = 0) (hl : xs.length ≤ 32) :
    muE ch fr xs = 0 ∧ (muS ch fr xs).length = ch.toNat * fr.toNat ∧ ∀ j : Nat, (muS ch fr xs)[j]?.getD 0 = sumP ch fr xs j := by
  obtain ⟨hc, hf, hq, hcf⟩ := muB_in hB
  obtain ⟨h1, h2⟩ := runS_ok (z := zeroS ch fr) hf.1 hk he (zeroS_len ch fr)
  have hE : muE ch fr xs = 0 := by unfold muE; rw [if_neg (by rw [hB]; decide), if_neg (by omega)]; exact h1
  refine ⟨hE, muS_len hE, fun j => ?_⟩
  unfold muS
  rw [if_pos hE, h2, zeroS_zer ch fr j, Int.zero_add]
theorem inV_ok (l : List UInt8) {ch fr : Int} (hc : 1 ≤ ch ∧ ch ≤ 8) (hf : 0 ≤ fr ∧ fr ≤ 100) : inE ch fr (inV l ch fr) = 0 ∧ (inV l ch fr).l.length = (inK l fr).toNat * (inC l).toNat ∧ (1 ≤ inC l ∧ inC l ≤ 3) := by
  have a1 := dN_ge l 3
  have a2 := dN_lt l 3 (by decide)
  have a3 := dN_ge (dT l 3) (fr + 1)
  have a4 := dN_lt (dT l 3) (fr + 1) (by omega)
  have c1 : 1 ≤ inC l ∧ inC l ≤ 3 := by unfold inC; omega
  have k1 : 0 ≤ inK l fr ∧ inK l fr ≤ fr := by unfold inK; omega
  have hlen : (inV l ch fr).l.length = (inK l fr).toNat * (inC l).toNat := by
    show (bkO (inR2 l fr) (inC l * inK l fr).toNat).length = _
    simp only [bkO, List.length_map, List.length_range]
    rw [toNat_mul (by omega) (by omega), Nat.mul_comm]
  have hb : blkV (inV l ch fr).c (inV l ch fr).l = true := blkV_bkO (inR2 l fr) (c := inC l) (n := inK l fr) (by omega) (by omega)
  have hg : validG (inV l ch fr).f (inV l ch fr).t (inV l ch fr).n (inV l ch fr).i = true := by
    have b1 := rF_in (inR4 l ch fr)
    have b2 := rT_in (inR4 l ch fr)
    have b3 := rN_in (inR4 l ch fr)
    have b4 := rA_in (inR4 l ch fr)
    exact validG_of b1 b2 (by show 0 ≤ rN _ ∧ rN _ ≤ 4194304; omega) b4
  have hm : mxV (inV l ch fr).a (inV l ch fr).b (inV l ch fr).m = true ∧ (inV l ch fr).a = (inV l ch fr).c := by
    show mxV (if inId l ch fr = true then ch else inC l) ch (if inId l ch fr = true then idL ch.toNat else mkL (inR3 l fr) (inC l * ch).toNat) = true ∧ (if inId l ch fr = true then ch else inC l) = inC l
    by_cases h : inId l ch fr = true
    · rw [if_pos h, if_pos h]
      have : inC l = ch := by unfold inId at h; simp only [Bool.and_eq_true, beq_iff_eq] at h; exact h.1
      exact ⟨(id_ok hc).2.2.2, this.symm⟩
    · rw [if_neg h, if_neg h]
      exact ⟨mkL_valid _ (by omega) hc, rfl⟩
  refine ⟨?_, hlen, c1⟩
  have hfr : ¬ fr < (((inV l ch fr).l.length / (inV l ch fr).c.toNat : Nat) : Int) := by
    rw [hlen]
    show ¬ fr < (((inK l fr).toNat * (inC l).toNat / (inC l).toNat : Nat) : Int)
    rw [Nat.mul_div_cancel _ (by omega)]
    omega
  unfold inE
  rw [if_neg (by rw [hb, hm.1, hg]; decide), if_neg (by rw [hm.2, bne_self_eq_false]; show ¬ ((false || (ch != ch)) = true); simp), if_neg hfr]
theorem dotN_zero {f g : Nat → Int} : ∀ n, (∀ c, g c = 0) → dotN f g n = 0
  | 0, _ => rfl
  | n + 1, h => by show dotN f g n + f n * g n = 0; rw [dotN_zero n h, h n]; simp
theorem applyG_zero (g : Int) : applyG 0 g = 0 := by
  unfold applyG
  split
  · rfl
  · rw [Int.zero_mul]; rfl
theorem applyG_gain0 (s : Int) : applyG s 0 = 0 := by
  unfold applyG
  split
  · rfl
  · rw [Int.mul_zero]; rfl
/-- An input of silence, an input with the gain 0. -/
def quietI (x : Inp) : Inp := { x with l := List.replicate x.l.length 0 }
def zeroI (x : Inp) : Inp := { x with f := 0, t := 0, n := 0, i := 0 }
theorem quiet_paO (ch fr : Int) (x : Inp) (j : Nat) : (paO ch fr (quietI x))[j]?.getD 0 = 0 := by
  unfold paO
  split
  · have ha : ∀ k : Nat, (apO x.a x.b x.m x.c (List.replicate x.l.length 0))[k]?.getD 0 = 0 := fun k => by
      unfold apO
      split
      · unfold apL
        rw [List.getElem?_map]
        cases h : (List.range ((List.replicate x.l.length (0 : Int)).length / x.a.toNat * x.b.toNat))[k]? with
        | none => rfl
        | some y =>
          show apV x.a.toNat x.b.toNat x.m (List.replicate x.l.length 0) y = 0
          unfold apV
          rw [dotN_zero]
          · rfl
          · intro c
            unfold atL
            rw [List.getElem?_replicate]
            split <;> rfl
      · rfl
    show (grO x.f x.t x.n x.i x.b (apO x.a x.b x.m x.c (List.replicate x.l.length 0)))[j]?.getD 0 = 0
    unfold grO
    split
    · unfold gO
      rw [List.getElem?_map]
      cases h : (List.range (apO x.a x.b x.m x.c (List.replicate x.l.length 0)).length)[j]? with
      | none => rfl
      | some y =>
        show gV x.f x.t x.n x.i x.b (apO x.a x.b x.m x.c (List.replicate x.l.length 0)) y = 0
        unfold gV
        rw [ha, applyG_zero]
    · rfl
  · rfl
theorem zero_paO (ch fr : Int) (x : Inp) (j : Nat) : (paO ch fr (zeroI x))[j]?.getD 0 = 0 := by
  unfold paO
  split
  · show (grO 0 0 0 0 x.b (apO x.a x.b x.m x.c x.l))[j]?.getD 0 = 0
    unfold grO
    split
    · unfold gO
      rw [List.getElem?_map]
      cases h : (List.range (apO x.a x.b x.m x.c x.l).length)[j]? with
      | none => rfl
      | some y =>
        show gV 0 0 0 0 x.b (apO x.a x.b x.m x.c x.l) y = 0
        unfold gV
        have : gainG 0 0 0 0 ((y / x.b.toNat : Nat) : Int) = 0 := by
          unfold gainG
          simp
        rw [this, applyG_gain0]
    · rfl
  · rfl
theorem quiet_ok {ch fr : Int} {x : Inp} (h : inE ch fr x = 0) (hl : x.l.length ≤ 1000000) : inE ch fr (quietI x) = 0 := by
  obtain ⟨h1, h2, h3, h4, h5, h6⟩ := inE_ok h
  have hz := blkV_frames h1 hl
  obtain ⟨q1, q2⟩ := blkV_in h1
  obtain ⟨k1, k2, k3⟩ := chBk_in q1
  have hb : blkV x.c (List.replicate x.l.length (0 : Int)) = true := blkV_mk (z := x.l.length / x.c.toNat) ⟨k1, k2⟩ (by rw [List.length_replicate]; exact k3) hz (by
    rw [List.all_eq_true]; intro y hy; rw [(List.mem_replicate.1 hy).2]; decide)
  unfold inE
  rw [if_neg (by show ¬ ((!blkV x.c (List.replicate x.l.length 0) || !mxV x.a x.b x.m || !validG x.f x.t x.n x.i) = true); rw [hb, h2, h3]; decide), if_neg (by show ¬ ((x.a != x.c || x.b != ch) = true); rw [h4, h5]; simp), if_neg (by show ¬ fr < (((List.replicate x.l.length (0 : Int)).length / x.c.toNat : Nat) : Int); rw [List.length_replicate]; omega)]
theorem zero_ok {ch fr : Int} {x : Inp} (h : inE ch fr x = 0) : inE ch fr (zeroI x) = 0 := by
  obtain ⟨h1, h2, h3, h4, h5, h6⟩ := inE_ok h
  unfold inE
  rw [if_neg (by show ¬ ((!blkV x.c x.l || !mxV x.a x.b x.m || !validG 0 0 0 0) = true); rw [h1, h2]; decide), if_neg (by show ¬ ((x.a != x.c || x.b != ch) = true); rw [h4, h5]; simp), if_neg (by show ¬ fr < ((x.l.length / x.c.toNat : Nat) : Int); omega)]
theorem md_ok (l : List UInt8) {ch fr : Int} (hc : 1 ≤ ch ∧ ch ≤ 8) (hf : 0 ≤ fr ∧ fr ≤ 100) (n : Nat) : ∀ x ∈ mdL l ch fr n, inE ch fr x = 0 := fun x hx => by
  simp only [mdL, List.mem_map] at hx
  obtain ⟨i, _, rfl⟩ := hx
  exact (inV_ok _ hc hf).1
theorem lim_ok (l : List UInt8) : validL (newT (lmT l) (lmR l)) (newR (lmT l) (lmR l)) (newG (lmT l) (lmR l)) = true := by
  have h1 := dN_lt l 3 (by decide)
  have h2 := dN_lt (dT l 3) 3 (by decide)
  have h3 := dN_ge l 3
  have h4 := dN_ge (dT l 3) 3
  unfold lmT lmR
  have key : ∀ i, i < 3 → ∀ j, j < 3 → validL (newT (([8388607, 1000000, 5] : List Int)[i]?.getD 0) (([1, 300, 65536] : List Int)[j]?.getD 0)) (newR (([8388607, 1000000, 5] : List Int)[i]?.getD 0) (([1, 300, 65536] : List Int)[j]?.getD 0)) (newG (([8388607, 1000000, 5] : List Int)[i]?.getD 0) (([1, 300, 65536] : List Int)[j]?.getD 0)) = true := by decide +kernel
  exact key _ (by omega) _ (by omega)
theorem muS_run {ch fr : Int} {xs : List Inp} {t r g : Int} (hB : muB ch fr = false) (hk : keptI xs) (hl : xs.length ≤ 32) (hE : muE ch fr xs = 0) (hv : validL t r g = true) : runE t r g ch (muS ch fr xs) = 0 := by
  obtain ⟨hc, hf, hq, hcf⟩ := muB_in hB
  have hlen := muS_len hE
  refine runE_ok hv ?_ ?_
  · unfold chB
    have e : ((muS ch fr xs).length : Int) = fr * ch := by rw [hlen, ← hcf, Int.mul_comm]
    rw [e, Int.mul_tmod_left, Int.mul_tdiv_cancel _ (by omega), IntWalk.i64_in fr (by omega)]
    simp only [Bool.or_eq_false_iff, decide_eq_false_iff_not, bne_self_eq_false, and_true]
    omega
  · rw [List.all_eq_true]
    intro y hy
    obtain ⟨j, hj, rfl⟩ := List.mem_iff_getElem.1 hy
    have hb := runS_in (k := 0) hf.1 hk (zeroS_len ch fr) (fun j => by rw [zeroS_zer ch fr j]; simp) j
    have e : (muS ch fr xs)[j] = (runS ch fr xs (zeroS ch fr)).1[j]?.getD 0 := by
      have : (muS ch fr xs)[j]?.getD 0 = (runS ch fr xs (zeroS ch fr)).1[j]?.getD 0 := by unfold muS; rw [if_pos hE]
      rw [← this, List.getElem?_eq_getElem hj]; rfl
    rw [e]
    simp only [okX, Bool.and_eq_true, decide_eq_true_eq]
    omega
theorem kept_inV (r : List UInt8) {ch fr : Int} (hc : 1 ≤ ch ∧ ch ≤ 8) (hf : 0 ≤ fr ∧ fr ≤ 100) : (inV r ch fr).l.length ≤ 1000000 ∧ (inV r ch fr).m.length ≤ 1000000 := by
  obtain ⟨h1, h2, h3⟩ := inV_ok r hc hf
  have a3 := dN_ge (dT r 3) (fr + 1)
  have a4 := dN_lt (dT r 3) (fr + 1) (by omega)
  have b0 := Nat.mul_le_mul (show (inK r fr).toNat ≤ 100 by unfold inK; omega) (show (inC r).toNat ≤ 3 by omega)
  obtain ⟨h4, h5, _⟩ := inE_ok h1
  obtain ⟨m1, m2, m3, _⟩ := mxV_in h5
  have b3 := Nat.mul_le_mul (show (inV r ch fr).a.toNat ≤ 8 by omega) (show (inV r ch fr).b.toNat ≤ 8 by omega)
  omega

theorem cell_lt {A B i g : Nat} (hg : g < A) (hi : i < B) : i * A + g < A * B := by
  have : (i + 1) * A ≤ B * A := Nat.mul_le_mul_right _ hi
  rw [Nat.add_mul, Nat.one_mul, Nat.mul_comm B] at this
  omega

theorem dotN_pick {f g : Nat → Int} {r : Nat} {v : Int} : ∀ n, (∀ c, c < n → f c = if c = r then v else 0) → dotN f g n = if r < n then v * g r else 0
  | 0, _ => rfl
  | n + 1, h => by
    have ih := dotN_pick (f := f) (g := g) n (fun c hc => h c (by omega))
    show dotN f g n + f n * g n = _
    rw [ih, h n (by omega)]
    by_cases e : n = r
    · subst e; simp
    · rw [if_neg e, Int.zero_mul, Int.add_zero]
      by_cases h1 : r < n
      · rw [if_pos h1, if_pos (by omega)]
      · rw [if_neg h1, if_neg (by omega)]
theorem dotN_congr {f f' g g' : Nat → Int} : ∀ n, (∀ c, c < n → f c = f' c ∧ g c = g' c) → dotN f g n = dotN f' g' n
  | 0, _ => rfl
  | n + 1, h => by
    show dotN f g n + f n * g n = dotN f' g' n + f' n * g' n
    rw [dotN_congr n (fun c hc => h c (by omega)), (h n (by omega)).1, (h n (by omega)).2]
theorem atL_idL {n i j : Nat} (hi : i < n) (hj : j < n) : atL (idL n) (i * n + j) = if i = j then 32768 else 0 := by
  have hb : i * n + j < n * n := cell_lt hj hi
  unfold atL idL
  have e1 : (i * n + j) % n = j := by rw [Nat.add_comm, Nat.add_mul_mod_self_right, Nat.mod_eq_of_lt hj]
  have e2 : (i * n + j) / n = i := by rw [Nat.add_comm, Nat.add_mul_div_right _ _ (by omega), Nat.div_eq_of_lt hj, Nat.zero_add]
  rw [List.getElem?_map, List.getElem?_range hb]
  show (if (i * n + j) / n = (i * n + j) % n then (32768 : Int) else 0) = _
  rw [e1, e2]
theorem rnd (x : Int) : (32768 * x + 16384) / 32768 = x := by omega
theorem satG_self {x : Int} (h : -8388608 ≤ x ∧ x ≤ 8388607) : satG x = x := by unfold satG; omega
theorem atL_map {f : Nat → Int} {n j : Nat} (h : j < n) : atL ((List.range n).map f) j = f j := by
  unfold atL
  rw [List.getElem?_map, List.getElem?_range h]; rfl

def turnI (k : Nat) (x : Inp) : Inp := { x with m := x.m.drop (k * x.a.toNat) ++ x.m.take (k * x.a.toNat) }
theorem turn_mod {B k r : Nat} (hk : k < B) (hr : r < B) : (r + k) % B = if r < B - k then r + k else r + k - B := by
  split
  · exact Nat.mod_eq_of_lt (by omega)
  · rw [Nat.mod_eq_sub_mod (by omega), Nat.mod_eq_of_lt (by omega)]
theorem turn_get {m : List Int} {A B k r c : Nat} (hm : m.length = A * B) (hk : k < B) (hr : r < B) (hc : c < A) : atL (m.drop (k * A) ++ m.take (k * A)) (r * A + c) = atL m ((r + k) % B * A + c) := by
  have hl : m.length = (B - k) * A + k * A := by rw [hm, ← Nat.add_mul, Nat.mul_comm A B]; congr 1; omega
  have hd : (m.drop (k * A)).length = (B - k) * A := by rw [List.length_drop, hl]; omega
  unfold atL
  rw [turn_mod hk hr]
  by_cases h : r < B - k
  · have := cell_lt hc h
    rw [if_pos h, List.getElem?_append_left (by rw [hd, Nat.mul_comm (B - k)]; exact this), List.getElem?_drop, Nat.add_mul]
    congr 2
    omega
  · have h1 : (B - k) * A ≤ r * A := Nat.mul_le_mul_right _ (by omega)
    have h2 : r * A = (B - k) * A + (r + k - B) * A := by rw [← Nat.add_mul]; congr 1; omega
    have h3 := cell_lt (i := r + k - B) (B := k) hc (by omega)
    rw [if_neg h, List.getElem?_append_right (by rw [hd]; omega), hd, h2]
    rw [show (B - k) * A + (r + k - B) * A + c - (B - k) * A = (r + k - B) * A + c by omega, List.getElem?_take_of_lt (by rw [Nat.mul_comm k]; exact h3)]
theorem turn_ok {ch fr : Int} {x : Inp} {k : Nat} (h : inE ch fr x = 0) (hk : k < ch.toNat) : inE ch fr (turnI k x) = 0 := by
  obtain ⟨h1, h2, h3, h4, h5, h6⟩ := inE_ok h
  obtain ⟨m1, m2, m3, m4⟩ := mxV_in h2
  have hle : k * x.a.toNat ≤ x.m.length := by rw [m3, Nat.mul_comm x.a.toNat]; exact Nat.mul_le_mul_right _ (by omega)
  have hm : mxV x.a x.b (x.m.drop (k * x.a.toNat) ++ x.m.take (k * x.a.toNat)) = true := by
    refine mxV_of m1 m2 ?_ ?_
    · rw [List.length_append, List.length_drop, List.length_take, toNat_mul (by omega) (by omega), ← m3]; omega
    · rw [List.all_eq_true] at m4 ⊢
      intro y hy
      rcases List.mem_append.1 hy with hy | hy
      · exact m4 y (List.mem_of_mem_drop hy)
      · exact m4 y (List.mem_of_mem_take hy)
  unfold inE
  rw [if_neg (by show ¬ ((!blkV x.c x.l || !mxV x.a x.b (x.m.drop (k * x.a.toNat) ++ x.m.take (k * x.a.toNat)) || !validG x.f x.t x.n x.i) = true); rw [h1, hm, h3]; decide), if_neg (by show ¬ ((x.a != x.c || x.b != ch) = true); rw [h4, h5]; simp), if_neg (by show ¬ fr < ((x.l.length / x.c.toNat : Nat) : Int); omega)]
/-- What passes, cell by cell. -/
theorem paO_at {ch fr : Int} {x : Inp} (h : inE ch fr x = 0) (hl : x.l.length ≤ 1000000) {z r : Nat} (hr : r < ch.toNat) : (paO ch fr x)[z * ch.toNat + r]?.getD 0 = if z < x.l.length / x.c.toNat then applyG (satG ((dotN (fun c => atL x.m (r * x.a.toNat + c)) (fun c => atL x.l (z * x.a.toNat + c)) x.a.toNat + 16384) / 32768)) (gainG x.f x.t x.n x.i (z : Int)) else 0 := by
  obtain ⟨h1, h2, h3, h4, h5, h6⟩ := inE_ok h
  obtain ⟨q1, q2, q3, q4, q5, q6⟩ := ap_blk h1 h2 h4 hl
  have hE : grE x.f x.t x.n x.i x.b (apO x.a x.b x.m x.c x.l) = 0 := by simp [grE, h3, q4]
  have hP : paO ch fr x = gO x.f x.t x.n x.i x.b (apO x.a x.b x.m x.c x.l) (apO x.a x.b x.m x.c x.l).length := by unfold paO; rw [if_pos h]; simp [grO, hE]
  have hb : x.b.toNat = ch.toNat := by rw [h5]
  rw [hP]
  unfold gO
  rw [List.getElem?_map, q5, hb]
  by_cases hz : z < x.l.length / x.c.toNat
  · have hj : z * ch.toNat + r < x.l.length / x.c.toNat * ch.toNat := by
      have := cell_lt hr hz
      rw [Nat.mul_comm ch.toNat] at this
      exact this
    rw [if_pos hz, List.getElem?_range hj]
    show gV x.f x.t x.n x.i x.b (apO x.a x.b x.m x.c x.l) (z * ch.toNat + r) = _
    unfold gV
    have e1 : (z * ch.toNat + r) / x.b.toNat = z := by rw [hb, Nat.add_comm, Nat.add_mul_div_right _ _ (by omega), Nat.div_eq_of_lt hr, Nat.zero_add]
    have e2 : (apO x.a x.b x.m x.c x.l)[z * ch.toNat + r]?.getD 0 = satG ((dotN (fun c => atL x.m (r * x.a.toNat + c)) (fun c => atL x.l (z * x.a.toNat + c)) x.a.toNat + 16384) / 32768) := by
      rw [q3, hb, h4]
      have := atL_map (f := apV x.c.toNat ch.toNat x.m x.l) hj
      unfold apL
      refine Eq.trans this ?_
      exact apV_at hr
    rw [e1, e2]
  · have hj : ¬ z * ch.toNat + r < x.l.length / x.c.toNat * ch.toNat := by
      have := Nat.mul_le_mul_right ch.toNat (Nat.le_of_not_lt hz)
      omega
    rw [if_neg hz, List.getElem?_eq_none (by rw [List.length_range]; omega)]
    rfl
theorem paO_turn {ch fr : Int} {x : Inp} {k : Nat} (h : inE ch fr x = 0) (hl : x.l.length ≤ 1000000) (hk : k < ch.toNat) {z r : Nat} (hr : r < ch.toNat) : (paO ch fr (turnI k x))[z * ch.toNat + r]?.getD 0 = (paO ch fr x)[z * ch.toNat + (r + k) % ch.toNat]?.getD 0 := by
  rw [paO_at (turn_ok h hk) hl hr, paO_at h hl (Nat.mod_lt _ (by omega))]
  obtain ⟨h1, h2, h3, h4, h5, h6⟩ := inE_ok h
  obtain ⟨m1, m2, m3, m4⟩ := mxV_in h2
  rw [h5] at m3
  show (if z < x.l.length / x.c.toNat then _ else _) = _
  split
  · have e : dotN (fun c => atL (turnI k x).m (r * (turnI k x).a.toNat + c)) (fun c => atL (turnI k x).l (z * (turnI k x).a.toNat + c)) (turnI k x).a.toNat = dotN (fun c => atL x.m ((r + k) % ch.toNat * x.a.toNat + c)) (fun c => atL x.l (z * x.a.toNat + c)) x.a.toNat := dotN_congr _ fun c hc => ⟨turn_get m3 hk hr hc, rfl⟩
    rw [e]; rfl
  · rfl
theorem sumP_turn {ch fr : Int} {k : Nat} (hk : k < ch.toNat) {z r : Nat} (hr : r < ch.toNat) : ∀ {A : List Inp}, keptI A → (∀ x ∈ A, inE ch fr x = 0) → sumP ch fr (A.map (turnI k)) (z * ch.toNat + r) = sumP ch fr A (z * ch.toNat + (r + k) % ch.toNat)
  | [], _, _ => rfl
  | x :: A, hA, hE => by
    rw [List.map_cons, sumP_cons, sumP_cons, paO_turn (hE x List.mem_cons_self) (hA x List.mem_cons_self).1 hk hr, sumP_turn hk hr (fun y hy => hA y (List.mem_cons_of_mem _ hy)) (fun y hy => hE y (List.mem_cons_of_mem _ hy))]
theorem peak_le {v : Int} : ∀ (f : List Int) (p : Int), f.foldl pstep p ≤ v ↔ p ≤ v ∧ ∀ x ∈ f, -v ≤ x ∧ x ≤ v
  | [], p => by simp
  | x :: f, p => by
    rw [List.foldl_cons, peak_le f, List.forall_mem_cons]
    have : pstep p x ≤ v ↔ p ≤ v ∧ -v ≤ x ∧ x ≤ v := by unfold pstep; omega
    rw [this, and_assoc]
theorem peak_sub {f g : List Int} (h : ∀ x, x ∈ f → x ∈ g) : peakL f ≤ peakL g := by
  have h1 := (peak_le g 0 (v := peakL g)).1 (Int.le_refl _)
  exact (peak_le f 0).2 ⟨h1.1, fun x hx => h1.2 x (h x hx)⟩
theorem gainL_eq {t r g : Int} {f f' : List Int} (h : ∀ x, x ∈ f ↔ x ∈ f') : gainL t r g f = gainL t r g f' := by
  have : peakL f = peakL f' := Int.le_antisymm (peak_sub fun x hx => (h x).1 hx) (peak_sub fun x hx => (h x).2 hx)
  unfold gainL; rw [this]
theorem gAt_eq {t r g c : Int} {s s' : List Int} {n : Nat} (h : ∀ i, i < n → ∀ x, x ∈ frL c s' i ↔ x ∈ frL c s i) : ∀ i, i ≤ n → gAt t r g c s' i = gAt t r g c s i
  | 0, _ => rfl
  | i + 1, hi => by
    show gainL t r (gAt t r g c s' i) (frL c s' i) = gainL t r (gAt t r g c s i) (frL c s i)
    rw [gAt_eq h i (by omega), gainL_eq (h i (by omega))]
theorem mem_frL {c : Int} {s : List Int} {i : Nat} (hl : (i + 1) * c.toNat ≤ s.length) {x : Int} : x ∈ frL c s i ↔ ∃ r, r < c.toNat ∧ atL s (i * c.toNat + r) = x := by
  rw [Nat.add_mul, Nat.one_mul] at hl
  unfold frL
  rw [List.mem_iff_getElem?]
  constructor
  · rintro ⟨j, hj⟩
    by_cases hjc : j < c.toNat
    · rw [List.getElem?_take_of_lt hjc, List.getElem?_drop] at hj
      exact ⟨j, hjc, by unfold atL; rw [hj]; rfl⟩
    · rw [List.getElem?_eq_none (by rw [List.length_take]; omega)] at hj; cases hj
  · rintro ⟨r, hr, rfl⟩
    refine ⟨r, ?_⟩
    rw [List.getElem?_take_of_lt hr, List.getElem?_drop, List.getElem?_eq_getElem (by omega)]
    unfold atL
    rw [List.getElem?_eq_getElem (by omega)]; rfl
theorem mem_turn {c : Int} {s s' : List Int} {i k : Nat} (hk : k < c.toNat) (hl : (i + 1) * c.toNat ≤ s.length) (hl' : s'.length = s.length) (h : ∀ r, r < c.toNat → atL s' (i * c.toNat + r) = atL s (i * c.toNat + (r + k) % c.toNat)) (x : Int) : x ∈ frL c s' i ↔ x ∈ frL c s i := by
  rw [mem_frL (by rw [hl']; exact hl), mem_frL hl]
  constructor
  · rintro ⟨r, hr, rfl⟩
    exact ⟨(r + k) % c.toNat, Nat.mod_lt _ (by omega), (h r hr).symm⟩
  · rintro ⟨r, hr, rfl⟩
    have hr2 : (r + (c.toNat - k)) % c.toNat < c.toNat := Nat.mod_lt _ (by omega)
    refine ⟨(r + (c.toNat - k)) % c.toNat, hr2, ?_⟩
    rw [h _ hr2]
    congr 2
    by_cases h0 : r < k
    · rw [Nat.mod_eq_of_lt (show r + (c.toNat - k) < c.toNat by omega), show r + (c.toNat - k) + k = r + c.toNat by omega, Nat.add_mod_right, Nat.mod_eq_of_lt hr]
    · rw [Nat.mod_eq_sub_mod (show c.toNat ≤ r + (c.toNat - k) by omega), Nat.mod_eq_of_lt (show r + (c.toNat - k) - c.toNat < c.toNat by omega), show r + (c.toNat - k) - c.toNat + k = r by omega, Nat.mod_eq_of_lt hr]
theorem oAt_at {t r g c : Int} {s : List Int} (hc : chB c s = false) : ∀ n, n ≤ s.length / c.toNat → ∀ z j, z < n → j < c.toNat → (oAt t r g c s n)[z * c.toNat + j]?.getD 0 = ampL (gAt t r g c s (z + 1)) (atL s (z * c.toNat + j))
  | 0, _, z, j, hz, _ => absurd hz (Nat.not_lt_zero _)
  | n + 1, hn, z, j, hz, hj => by
    have hlen := oAt_len (t := t) (r := r) (g := g) hc n (by omega)
    have hfl := frL_len hc (show n < s.length / c.toNat by omega)
    show (oAt t r g c s n ++ (frL c s n).map (ampL (gAt t r g c s (n + 1))))[z * c.toNat + j]?.getD 0 = _
    by_cases h : z < n
    · have hcl := cell_lt hj h
      rw [Nat.mul_comm c.toNat] at hcl
      rw [List.getElem?_append_left (by rw [hlen]; exact hcl)]
      exact oAt_at hc n (by omega) z j h hj
    · have : z = n := by omega
      subst this
      rw [List.getElem?_append_right (by rw [hlen]; omega), hlen, Nat.add_sub_cancel_left, List.getElem?_map]
      unfold frL at hfl ⊢
      rw [List.getElem?_take_of_lt hj, List.getElem?_drop]
      rw [List.length_take, List.length_drop] at hfl
      rw [List.getElem?_eq_getElem (by omega)]
      unfold atL
      rw [List.getElem?_eq_getElem (by omega)]; rfl

theorem chB_of {c : Int} {s : List Int} (h1 : 1 ≤ c) (h2 : c ≤ 8) (h3 : s.length % c.toNat = 0) (h4 : s.length ≤ 65536) : chB c s = false := by
  have e : c = (c.toNat : Int) := by omega
  have t1 : (s.length : Int).tmod c = 0 := by
    rw [e, Int.tmod_eq_emod_of_nonneg (by omega)]
    exact_mod_cast h3
  have t2 : 0 ≤ (s.length : Int).tdiv c ∧ (s.length : Int).tdiv c ≤ 65536 := by
    rw [Int.tdiv_eq_ediv_of_nonneg (by omega)]
    exact ⟨Int.ediv_nonneg (by omega) (by omega), Int.le_trans (Int.ediv_le_self _ (by omega)) (by omega)⟩
  simp only [chB, t1, Bool.or_eq_false_iff, decide_eq_false_iff_not, bne_self_eq_false, and_true]
  rw [IntWalk.i64_in _ (by omega)]
  omega
/-- What comes out of a run, number for number. -/
theorem oAt_all {t r g c : Int} {s : List Int} (hc : chB c s = false) (Q : Int → Int → Prop) (k : Nat) (hk : k ≤ s.length / c.toNat) (hQ : ∀ i, i < k → ∀ x ∈ frL c s i, Q x (ampL (gAt t r g c s (i + 1)) x)) :
    ∀ i, i ≤ k → ∀ (j : Nat) x y, s[j]? = some x → (oAt t r g c s i)[j]? = some y → Q x y
  | 0, _, j, x, y, _, hy => by simp [oAt] at hy
  | i + 1, hi, j, x, y, hx, hy => by
    have hl := oAt_len (t := t) (r := r) (g := g) hc i (by omega)
    rw [oAt] at hy
    by_cases hj : j < i * c.toNat
    · rw [List.getElem?_append_left (by omega)] at hy
      exact oAt_all hc Q k hk hQ i (by omega) j x y hx hy
    · rw [List.getElem?_append_right (by omega), hl, List.getElem?_map, Option.map_eq_some_iff] at hy
      obtain ⟨x', hx', rfl⟩ := hy
      have hm := List.mem_of_getElem? hx'
      have e : x' = x := by
        unfold frL at hx'
        rw [List.getElem?_take] at hx'
        split at hx'
        · rw [List.getElem?_drop, show i * c.toNat + (j - i * c.toNat) = j by omega, hx] at hx'
          exact (Option.some.inj hx').symm
        · cases hx'
      subst e
      exact hQ i (by omega) x' hm
/-- A run that succeeds. -/
theorem run_ok {t r g c : Int} {s : List Int} (hv : validL t r g = true) (hc : chB c s = false) (ha : s.all okX = true) :
    runE t r g c s = 0 ∧ runO t r g c s = oAt t r g c s (s.length / c.toNat) ∧ runG t r g c s = gAt t r g c s (s.length / c.toNat) ∧ runT t r g c s = t ∧ runR t r g c s = r ∧ runC t r g c s = c := by
  have e := runE_ok hv hc ha
  simp [runO, runG, runT, runR, runC, e]
theorem run_len {t r g c : Int} {s : List Int} (hv : validL t r g = true) (hc : chB c s = false) (ha : s.all okX = true) : (runO t r g c s).length = s.length := by
  rw [(run_ok hv hc ha).2.1, oAt_len hc _ (Nat.le_refl _)]
  exact (chB_in hc).2.2.symm
theorem run_all {t r g c : Int} {s : List Int} (hv : validL t r g = true) (hc : chB c s = false) (ha : s.all okX = true) (Q : Int → Int → Prop) (hQ : ∀ i, i < s.length / c.toNat → ∀ x ∈ frL c s i, Q x (ampL (gAt t r g c s (i + 1)) x)) :
    ∀ (j : Nat) x y, s[j]? = some x → (runO t r g c s)[j]? = some y → Q x y := by
  rw [(run_ok hv hc ha).2.1]
  exact oAt_all hc Q _ (Nat.le_refl _) hQ _ (Nat.le_refl _)
theorem frL_ok {c : Int} {s : List Int} (ha : s.all okX = true) (i : Nat) : ∀ x ∈ frL c s i, -1099511627776 ≤ x ∧ x ≤ 1099511627776 := fun x hx => okX_in (List.all_eq_true.1 ha x (List.mem_of_mem_drop (List.mem_of_mem_take hx)))
/-- No louder than the threshold nor than what came in, and on the same side. -/
def HoldsL (t x y : Int) : Prop := (y ≤ t ∧ -y ≤ t) ∧ (0 < y → y ≤ x) ∧ (y < 0 → x ≤ y)
theorem run_holds {t r g c : Int} {s : List Int} (hv : validL t r g = true) (hc : chB c s = false) (ha : s.all okX = true) : ∀ (j : Nat) x y, s[j]? = some x → (runO t r g c s)[j]? = some y → HoldsL t x y := by
  refine run_all hv hc ha _ (fun i hi x hx => ?_)
  have hvi := gAt_in (c := c) (s := s) hv i
  have h1 := amp_thr hvi (frL_ok ha i) hx
  have h2 := amp_ref hvi (frL_ok ha i) hx
  have h3 := gainL_in hvi (frL c s i)
  have hm : magL x * gainL t r (gAt t r g c s i) (frL c s i) / 65536 ≤ magL x := by
    refine Int.ediv_le_of_le_mul (by decide) ?_
    have h0 : 0 ≤ magL x := by unfold magL; omega
    exact Int.mul_le_mul_of_nonneg_left h3.2 h0
  show HoldsL t x (ampL (gainL t r (gAt t r g c s i) (frL c s i)) x)
  unfold HoldsL
  by_cases hn : x < 0
  · rw [h2.1 hn]
    unfold magL at *
    rw [if_pos hn] at *
    omega
  · rw [h2.2 hn]
    unfold magL at *
    rw [if_neg hn] at *
    omega

theorem kept_mdL (l : List UInt8) {ch fr : Int} (hc : 1 ≤ ch ∧ ch ≤ 8) (hf : 0 ≤ fr ∧ fr ≤ 100) (n : Nat) : keptI (mdL l ch fr n) := fun x hx => by
  simp only [mdL, List.mem_map] at hx
  obtain ⟨i, _, rfl⟩ := hx
  generalize mdR l ch fr i = r
  have a1 := dN_ge r 3
  have a2 := dN_lt r 3 (by decide)
  have a3 := dN_ge (dT r 3) (fr + 1)
  have a4 := dN_lt (dT r 3) (fr + 1) (by omega)
  have b1 : inC r * inK r fr ≤ 3 * 100 := Int.mul_le_mul (show 1 + dN r 3 ≤ 3 by omega) (show dN (dT r 3) (fr + 1) ≤ 100 by omega) a3 (by decide)
  have b2 : inC r * ch ≤ 3 * 8 := Int.mul_le_mul (show 1 + dN r 3 ≤ 3 by omega) hc.2 (by omega) (by decide)
  have b3 : ch.toNat * ch.toNat ≤ 8 * 8 := Nat.mul_le_mul (by omega) (by omega)
  refine ⟨?_, ?_⟩
  · show (bkO _ (inC r * inK r fr).toNat).length ≤ 1000000
    simp only [bkO, List.length_map, List.length_range]
    omega
  · show (if inId r ch fr = true then idL ch.toNat else mkL (inR3 r fr) (inC r * ch).toNat).length ≤ 1000000
    split
    · simp only [idL, List.length_map, List.length_range]; omega
    · rw [mkL_len]; omega
theorem keptI_app {xs ys : List Inp} (h1 : keptI xs) (h2 : keptI ys) : keptI (xs ++ ys) := fun x hx => by
  rcases List.mem_append.1 hx with h | h
  · exact h1 x h
  · exact h2 x h
theorem mxO_len (ch fr : Int) (xs : List Inp) (t r g : Int) : (mxO ch fr xs t r g).length ≤ 1000000000 := by
  unfold mxO
  split
  · unfold runO
    split
    · rename_i h
      have hc : chB ch (muS ch fr xs) = false := by
        unfold runE at h
        split at h
        · cases h
        · split at h
          · cases h
          · rename_i h2; simpa using h2
      rw [oAt_len hc _ (Nat.le_refl _)]
      have := muS_le ch fr xs
      have h3 : (muS ch fr xs).length / ch.toNat * ch.toNat ≤ (muS ch fr xs).length := Nat.div_mul_le_self ..
      omega
    · exact Nat.zero_le _
  · exact Nat.zero_le _

theorem idL_at {n i j : Nat} (hi : i < n) (hj : j < n) : atL (idL n) (i * n + j) = if i = j then 32768 else 0 := atL_idL hi hj
/-- One input with the identity and the gain 1. -/
def aloneI (ch : Int) (l : List Int) : Inp := ⟨ch, l, ch, ch, idL ch.toNat, 65536, 65536, 0, 0⟩
theorem applyG_unit {s : Int} (h : -8388608 ≤ s ∧ s ≤ 8388607) : applyG s 65536 = s := by
  have hg : isG 65536 = true := by decide
  unfold applyG
  rw [if_neg (by rw [hg]; simp only [Bool.not_true, Bool.or_false, Bool.or_eq_true, decide_eq_true_eq]; omega)]
  have e : (s * 65536 + 32768) / 65536 = s := by omega
  rw [e]
  unfold satG
  omega
theorem satG_id2 {s : Int} (h : -8388608 ≤ s ∧ s ≤ 8388607) : satG s = s := by unfold satG; omega
theorem alone_ok {ch fr : Int} {l : List Int} (hc : 1 ≤ ch ∧ ch ≤ 8) (hf : 0 ≤ fr ∧ fr ≤ 100) (hl : l.length = fr.toNat * ch.toNat) (ha : l.all smpX = true) : inE ch fr (aloneI ch l) = 0 ∧ paO ch fr (aloneI ch l) = l := by
  have hd : l.length / ch.toNat = fr.toNat := by rw [hl, Nat.mul_div_cancel _ (by omega)]
  have hl8 : l.length ≤ 1000000 := by
    have := Nat.mul_le_mul (show fr.toNat ≤ 100 by omega) (show ch.toNat ≤ 8 by omega)
    omega
  have hb : blkV ch l = true := blkV_mk hc hl (by omega) ha
  have hm : mxV ch ch (idL ch.toNat) = true := (id_ok hc).2.2.2
  have hv : validG 65536 65536 0 0 = true := by decide
  have h : inE ch fr (aloneI ch l) = 0 := by
    unfold inE
    rw [if_neg (by show ¬ ((!blkV ch l || !mxV ch ch (idL ch.toNat) || !validG 65536 65536 0 0) = true); rw [hb, hm, hv]; decide), if_neg (by show ¬ ((ch != ch || ch != ch) = true); simp), if_neg (by show ¬ fr < ((l.length / ch.toNat : Nat) : Int); rw [hd]; omega)]
  refine ⟨h, ?_⟩
  have hle := paO_len (ch := ch) (fr := fr) (x := aloneI ch l) hf.1 hl8
  have hat : ∀ z r : Nat, r < ch.toNat → (paO ch fr (aloneI ch l))[z * ch.toNat + r]?.getD 0 = l[z * ch.toNat + r]?.getD 0 := fun z r hr => by
    rw [paO_at h hl8 hr]
    show (if z < l.length / ch.toNat then applyG (satG ((dotN (fun c => atL (idL ch.toNat) (r * ch.toNat + c)) (fun c => atL l (z * ch.toNat + c)) ch.toNat + 16384) / 32768)) (gainG 65536 65536 0 0 (z : Int)) else 0) = _
    rw [hd]
    by_cases hz : z < fr.toNat
    · have hgg : gainG 65536 65536 0 0 (z : Int) = 65536 := by unfold gainG; rw [if_pos (by omega)]
      have hs := getS ha (z * ch.toNat + r)
      rw [if_pos hz, hgg, dotN_pick (r := r) (v := 32768) ch.toNat (fun c hc => by rw [idL_at hr hc]; by_cases e : r = c; rw [if_pos e, if_pos e.symm]; rw [if_neg e, if_neg (fun h => e h.symm)]), if_pos hr, rnd]
      unfold atL
      rw [satG_id2 hs, applyG_unit hs]
    · have := Nat.mul_le_mul_right ch.toNat (Nat.le_of_not_lt hz)
      rw [if_neg hz, List.getElem?_eq_none (by omega)]
      rfl
  have hplen : (paO ch fr (aloneI ch l)).length = l.length := by
    obtain ⟨h1, h2, h3, h4, h5, h6⟩ := inE_ok h
    obtain ⟨q1, q2, q3, q4, q5, q6⟩ := ap_blk h1 h2 h4 hl8
    have hE : grE 65536 65536 0 0 ch (apO ch ch (idL ch.toNat) ch l) = 0 := by
      have q4' : blkV ch (apO ch ch (idL ch.toNat) ch l) = true := q4
      simp [grE, hv, q4']
    have hP : paO ch fr (aloneI ch l) = gO 65536 65536 0 0 ch (apO ch ch (idL ch.toNat) ch l) (apO ch ch (idL ch.toNat) ch l).length := by unfold paO; rw [if_pos h]; show grO 65536 65536 0 0 ch (apO ch ch (idL ch.toNat) ch l) = _; simp [grO, hE]
    rw [hP]
    unfold gO
    rw [List.length_map, List.length_range]
    have q5' : (apO ch ch (idL ch.toNat) ch l).length = l.length / ch.toNat * ch.toNat := q5
    rw [q5', hd, hl]
  refine ext_getD hplen fun j => ?_
  have e : j / ch.toNat * ch.toNat + j % ch.toNat = j := by rw [Nat.mul_comm]; exact Nat.div_add_mod j ch.toNat
  have := hat (j / ch.toNat) (j % ch.toNat) (Nat.mod_lt _ (by omega))
  rw [e] at this
  exact this
theorem muB_of {ch fr : Int} (hc : 1 ≤ ch ∧ ch ≤ 8) (hf : 0 ≤ fr ∧ fr ≤ 100) : muB ch fr = false := by
  unfold muB
  simp only [Bool.or_eq_false_iff, decide_eq_false_iff_not]
  omega
theorem alone_sum {ch fr : Int} {l : List Int} (hc : 1 ≤ ch ∧ ch ≤ 8) (hf : 0 ≤ fr ∧ fr ≤ 100) (hl : l.length = fr.toNat * ch.toNat) (ha : l.all smpX = true) : keptI [aloneI ch l] ∧ muE ch fr [aloneI ch l] = 0 ∧ muS ch fr [aloneI ch l] = l := by
  obtain ⟨h1, h2⟩ := alone_ok hc hf hl ha
  have hk : keptI [aloneI ch l] := fun x hx => by
    rw [List.mem_singleton] at hx
    subst hx
    have := Nat.mul_le_mul (show fr.toNat ≤ 100 by omega) (show ch.toNat ≤ 8 by omega)
    have h8 := Nat.mul_le_mul (show ch.toNat ≤ 8 by omega) (show ch.toNat ≤ 8 by omega)
    exact ⟨by show l.length ≤ _; omega, by show (idL ch.toNat).length ≤ _; rw [show (idL ch.toNat).length = ch.toNat * ch.toNat from by simp [idL]]; omega⟩
  obtain ⟨m1, m2, m3⟩ := muS_ok (muB_of hc hf) hk (fun x hx => by rw [List.mem_singleton] at hx; subst hx; exact h1) (show 1 ≤ 32 by decide)
  refine ⟨hk, m1, ext_getD (by rw [m2, hl, Nat.mul_comm]) fun j => ?_⟩
  rw [m3, sumP_cons, sumP_nil, h2]
  omega
theorem quietN {t r c : Int} {s : List Int} (hv : validL t r 65536 = true) (hs : ∀ x ∈ s, -t ≤ x ∧ x ≤ t) : ∀ i, gAt t r 65536 c s i = 65536
  | 0 => rfl
  | i + 1 => by
    have hvi := validL_in hv
    show gainL t r (gAt t r 65536 c s i) (frL c s i) = 65536
    rw [quietN hv hs i]
    have hf : ∀ x ∈ frL c s i, -t ≤ x ∧ x ≤ t := fun x hx => hs x (List.mem_of_mem_drop (List.mem_of_mem_take hx))
    have hp0 : 0 ≤ peakL (frL c s i) := (foldl_pstep (frL c s i) 0 (Int.le_refl _) (fun x hx => by have := hf x hx; omega)).1
    have hp1 : peakL (frL c s i) ≤ t := (peak_le (frL c s i) 0).2 ⟨by omega, hf⟩
    have hn : neededL t (peakL (frL c s i)) = 65536 := by
      unfold neededL
      rw [if_neg, if_pos hp1]
      simp only [Bool.or_eq_true, decide_eq_true_eq, not_or]
      omega
    unfold gainL minI
    rw [hn]
    omega
theorem run_quietN {t r c : Int} {s : List Int} (hv : validL t r 65536 = true) (hc : chB c s = false) (hs : ∀ x ∈ s, -t ≤ x ∧ x ≤ t) : runE t r 65536 c s = 0 ∧ runO t r 65536 c s = s := by
  have hvi := validL_in hv
  have ha : s.all okX = true := by
    rw [List.all_eq_true]
    intro x hx
    have := hs x hx
    simp [okX]
    omega
  refine ⟨runE_ok hv hc ha, ?_⟩
  have hl := run_len hv hc ha
  have hq := run_all hv hc ha (fun x y => y = x) (fun i hi x hx => by
    rw [quietN hv hs]
    have := hs x (List.mem_of_mem_drop (List.mem_of_mem_take hx))
    unfold ampL
    rw [Int.mul_tdiv_cancel _ (by decide)]
    exact satG_id2 (by omega))
  apply List.ext_getElem?
  intro j
  by_cases hj : j < s.length
  · have hj2 : j < (runO t r 65536 c s).length := by omega
    rw [List.getElem?_eq_getElem hj2, List.getElem?_eq_getElem hj]
    congr 1
    exact hq j s[j] _ (List.getElem?_eq_getElem hj) (List.getElem?_eq_getElem hj2)
  · rw [List.getElem?_eq_none (by omega), List.getElem?_eq_none (by omega)]
theorem sumP_in {ch fr : Int} {xs : List Inp} (j : Nat) : -((xs.length : Int) * 8388608) ≤ sumP ch fr xs j ∧ sumP ch fr xs j ≤ (xs.length : Int) * 8388608 := by
  induction xs with
  | nil => simp [sumP_nil]
  | cons x xs ih =>
    have h := paO_in ch fr x j
    rw [sumP_cons, List.length_cons]
    omega
def clampL (l : List Int) : List Int := l.map fun x => if x < -8388607 then -8388607 else x
def clampP (l : List Int) (g : Nat) : List Int := (List.range l.length).map fun i => if i < g then (if l[i]?.getD 0 < -8388607 then -8388607 else l[i]?.getD 0) else l[i]?.getD 0
theorem clampP_len (l : List Int) (g : Nat) : (clampP l g).length = l.length := by simp [clampP]
theorem clampP_zero (l : List Int) : clampP l 0 = l := by
  apply List.ext_getElem
  · simp [clampP]
  · intro i h1 h2
    simp [clampP, List.getElem?_eq_getElem h2]
theorem clampP_all (l : List Int) : clampP l l.length = clampL l := by
  apply List.ext_getElem
  · simp [clampP, clampL]
  · intro i h1 h2
    rw [clampP_len] at h1
    simp [clampP, clampL, h1]
theorem clampP_get {l : List Int} {g : Nat} (h : g < l.length) : (clampP l g)[g]?.getD 0 = l[g]?.getD 0 := by
  simp [clampP, h]
theorem clampP_succ {l : List Int} {g : Nat} (h : g < l.length) : clampP l (g + 1) = (clampP l g).set g (if l[g]?.getD 0 < -8388607 then -8388607 else l[g]?.getD 0) := by
  apply List.ext_getElem
  · simp [clampP]
  · intro i h1 h2
    rw [List.getElem_set]
    simp only [clampP, List.getElem_map, List.getElem_range]
    by_cases e : g = i
    · subst e; simp
    · rw [if_neg e]
      by_cases h : i < g
      · rw [if_pos h, if_pos (by omega)]
      · rw [if_neg h, if_neg (by omega)]
theorem clampL_in {l : List Int} (h : l.all smpX = true) : (clampL l).all smpX = true ∧ (∀ x ∈ clampL l, -8388607 ≤ x ∧ x ≤ 8388607) ∧ (clampL l).length = l.length := by
  have key : ∀ x ∈ clampL l, -8388607 ≤ x ∧ x ≤ 8388607 := fun x hx => by
    simp only [clampL, List.mem_map] at hx
    obtain ⟨y, hy, rfl⟩ := hx
    have := smpX_in (List.all_eq_true.1 h y hy)
    split <;> omega
  refine ⟨?_, key, by simp [clampL]⟩
  rw [List.all_eq_true]
  intro x hx
  have := key x hx
  simp only [smpX, Bool.and_eq_true, decide_eq_true_eq]
  omega


end Go.Vam
