/- Sum, program and reference: the same. Conditions: none. -/
import Derived.Test.YtmliamkbpbdlbaaMixE
set_option linter.unusedVariables false
set_option linter.defProp false
set_option linter.unusedSimpArgs false
set_option maxRecDepth 40000
set_option maxHeartbeats 4000000
namespace Go.Vam
open Go.Proofs

def muB (ch fr : Int) : Bool := decide (ch < 1) || decide (8 < ch) || decide (fr < 0) || decide (65536 < fr)
def zeroS (ch fr : Int) : List Int := List.replicate (ch.toNat * fr.toNat) 0
def muE (ch fr : Int) (xs : List Inp) : Int := if muB ch fr = true then 2 else if 32 < xs.length then 3 else (runS ch fr xs (zeroS ch fr)).2
def muS (ch fr : Int) (xs : List Inp) : List Int := if muE ch fr xs = 0 then (runS ch fr xs (zeroS ch fr)).1 else []
theorem zeroS_zer (ch fr : Int) : zerZ (zeroS ch fr) := fun j => by
  unfold zeroS
  rw [List.getElem?_replicate]
  split <;> rfl
theorem zeroS_len (ch fr : Int) : (zeroS ch fr).length = ch.toNat * fr.toNat := by simp [zeroS]
theorem muB_in {ch fr : Int} (h : muB ch fr = false) : (1 ≤ ch ∧ ch ≤ 8) ∧ (0 ≤ fr ∧ fr ≤ 65536) ∧ ch.toNat * fr.toNat ≤ 524288 ∧ ch * fr = ((ch.toNat * fr.toNat : Nat) : Int) := by
  simp only [muB, Bool.or_eq_false_iff, decide_eq_false_iff_not] at h
  have h8 := Nat.mul_le_mul (show ch.toNat ≤ 8 by omega) (show fr.toNat ≤ 65536 by omega)
  have e1 : ((ch.toNat : Nat) : Int) = ch := by omega
  have e2 : ((fr.toNat : Nat) : Int) = fr := by omega
  have h9 : ch.toNat * fr.toNat ≤ 524288 := by omega
  have h10 : ch * fr = ((ch.toNat * fr.toNat : Nat) : Int) := by rw [Int.natCast_mul, e1, e2]
  exact ⟨⟨by omega, by omega⟩, ⟨by omega, by omega⟩, h9, h10⟩
def bndZ (k : Nat) (z : List Int) : Prop := ∀ j : Nat, -((k : Int) * 8388608) ≤ z[j]?.getD 0 ∧ z[j]?.getD 0 ≤ (k : Int) * 8388608
theorem bndZ_up {k n : Nat} {z : List Int} (h : bndZ k z) (hn : k ≤ n) : bndZ n z := fun j => by have := h j; omega
theorem bndZ_add {k : Nat} {z y : List Int} (h : bndZ k z) (hl : y.length ≤ z.length) (hy : ∀ j : Nat, -8388608 ≤ y[j]?.getD 0 ∧ y[j]?.getD 0 ≤ 8388607) : bndZ (k + 1) (addL z y) := fun j => by
  rw [addL_get _ _ _ hl]
  have h3 := h j
  have h4 := hy j
  omega
theorem runS_in {ch fr : Int} (hf : 0 ≤ fr) {xs : List Inp} : ∀ {z : List Int} {k : Nat}, keptI xs → z.length = ch.toNat * fr.toNat → bndZ k z → bndZ (k + xs.length) (runS ch fr xs z).1 := by
  induction xs with
  | nil => intro z k _ _ hb; exact hb
  | cons x xs ih =>
    intro z k hk hz hb
    have hk2 := hk x List.mem_cons_self
    have hpl := paO_len (ch := ch) (x := x) hf hk2.1
    have hstep := bndZ_add hb (by rw [hz]; exact hpl) (paO_in ch fr x)
    unfold runS
    rw [List.length_cons]
    split
    · have := ih (fun y hy => hk y (List.mem_cons_of_mem _ hy)) (by rw [addL_len]; exact hz) hstep
      rw [show k + (xs.length + 1) = k + 1 + xs.length by omega]
      exact this
    · exact bndZ_up hstep (by omega)
theorem muS_len {ch fr : Int} {xs : List Inp} (h : muE ch fr xs = 0) : (muS ch fr xs).length = ch.toNat * fr.toNat := by
  unfold muS
  rw [if_pos h, runS_len, zeroS_len]

theorem spec_psum (ch fr : Int) (xs : List Inp) (hk : keptI xs) : Spec Try.prog 0 19 [vI .i64 ch, vI .i64 fr, vL (LX xs)] [] [] (.tup [.list (LI .i64 (muS ch fr xs)), .int .i64 (muE ch fr xs)]) [] [] := by
  refine spec_of_E (X := ⟨Try.prog, tt, Try.f19.ntmps, 1, fun s => if s = 30 then 2 else 0, (tab [(36, E_fold)])⟩) (M := [(1, [0, 0, 0, 0, 0, 34443592671, 0, 0, 0, 0, 0, 34442576863, 0, 0]), (1000009, [6])]) (m := 34435236831) rfl rfl ⟨tt_ok, tab_ok (tabs_cons E_fold_ok tabs_nil) _ rfl rfl⟩ tt_mixed Try.func19 rfl (by decide) (by show (3 : Nat) ≤ _; exact Nat.le_of_ble_eq_true rfl) ⟨fun m hm => (V.bare_has rfl m hm).elim, by simp, by simp⟩ ?_
  simp only [↓gPre, gPost, gCore, gDef, Nat.reduceShiftRight, Nat.reduceMod, if_true, if_false, ↓reduceIte, reduceCtorEq, Nat.reduceEqDiff, Nat.reduceLT, Nat.reduceLeDiff, implies_true, forall_const, eq_self, ne_eq, not_true_eq_false, not_false_eq_true, imp_self, Nat.reduceAdd, Nat.reduceMul, Int.reduceLE, Int.reduceLT, Int.reduceNeg, Int.reduceAdd, Int.reduceToNat, E_fold_eq, LX_nil, LX_length, LX_getD, LX_append, LX_one, LX_cells, LX_inj, LX_nil_eq, LX_inps_LX, LX_take, LX_drop, inps_LX, Try.ntmps19, Try.results19, gTT]
  refine ⟨fun h => ?_, fun h => ⟨fun h2 => ?_, fun h2 => ?_⟩⟩
  · have e : muE ch fr xs = 2 := by unfold muE; rw [if_pos (show muB ch fr = true from h)]
    simp [muS, e, LI_nil]
  · have e : muE ch fr xs = 3 := by unfold muE; rw [if_neg (by rw [show muB ch fr = false from h]; decide), if_pos (by have := of_decide_eq_true h2; omega)]
    simp [muS, e, LI_nil]
  have hB : muB ch fr = false := h
  obtain ⟨hc, hf, hq, hcf⟩ := muB_in hB
  have hx : xs.length ≤ 32 := by have := of_decide_eq_false h2; omega
  have hw : IntKind.i64.wrap (ch * fr) = ((ch.toNat * fr.toNat : Nat) : Int) := by rw [hcf, IntWalk.i64_in _ (by omega)]
  have e3 : List.replicate (ch.toNat * fr.toNat) (0 : Int) = zeroS ch fr := rfl
  rw [hw, Int.toNat_natCast, e3]
  have hzl := zeroS_len ch fr
  have hzz := zeroS_zer ch fr
  have hE : muE ch fr xs = (runS ch fr xs (zeroS ch fr)).2 := by unfold muE; rw [if_neg (by rw [hB]; decide), if_neg (by omega)]
  refine ⟨by omega, ⟨hf.1, hzl, hzl.symm, by omega, hzz, hk, hx⟩, fun h3 => ?_, fun h3 => ?_⟩
  · have hne : (runS ch fr xs (zeroS ch fr)).2 ≠ 0 := by simpa using h3
    unfold muS
    rw [if_neg (by rw [hE]; exact hne), hE, LI_nil]
  · have he : (runS ch fr xs (zeroS ch fr)).2 = 0 := by simpa using h3
    refine ⟨by rw [runS_len, hzl], ?_⟩
    unfold muS
    rw [if_pos (by rw [hE]; exact he), hE, he]
def E_psum : List V → Boxes → Toks → Name → Option Ent
  | [.c (.d (.int .i64 ch)), .c (.d (.int .i64 fr)), .c (.d (.list q_xs))], [], [], _ => some ⟨keptI (inps q_xs) ∧ q_xs = LX (inps q_xs), .tup [.list (LI .i64 (muS ch fr (inps q_xs))), .int .i64 (muE ch fr (inps q_xs))], [], []⟩
  | _, _, _, _ => none
def E_psum_eq := And.intro (@E_psum.eq_1) (@E_psum.eq_1)
theorem E_psum_ok : Snd Try.prog 19 E_psum := by
  intro vs b k n e h hn hp
  unfold E_psum at h
  split at h
  · cases h; obtain ⟨hp0, hq0⟩ := hp; obtain ⟨_, rfl⟩ := LX_ex hq0; simp only [ints_LI, bys_LB, blks_LK, lls_LL, inps_LX] at hp0 ⊢; exact (spec_psum _ _ _ hp0).lift rfl _
  · cases h

theorem spec_rsum (ch fr : Int) (xs : List Inp) (hk : keptI xs) : Spec Try.prog 0 21 [vI .i64 ch, vI .i64 fr, vL (LX xs)] [] [] (.tup [.list (LI .i64 (muS ch fr xs)), .int .i64 (muE ch fr xs)]) [] [] := by
  refine spec_of_E (X := ⟨Try.prog, tt, Try.f21.ntmps, 1, fun s => if s = 36 then 2 else 0, (tab [(39, E_check), (40, E_rmapply), (41, E_rgrun)])⟩) (M := [(1, [0, 0, 0, 0, 0, 2213609572387073875399, 0, 0, 0, 0, 0, 2213609572387008863687, 0, 0]), (1000020, [6])]) (m := 2213609572386539101639) rfl rfl ⟨tt_ok, tab_ok (tabs_cons E_check_ok (tabs_cons E_rmapply_ok (tabs_cons E_rgrun_ok tabs_nil))) _ rfl rfl⟩ tt_mixed Try.func21 rfl (by decide) (by show (3 : Nat) ≤ _; exact Nat.le_of_ble_eq_true rfl) ⟨fun m hm => (V.bare_has rfl m hm).elim, by simp, by simp⟩ ?_
  simp only [↓gPre, gPost, gCore, gDef, Nat.reduceShiftRight, Nat.reduceMod, if_true, if_false, ↓reduceIte, reduceCtorEq, Nat.reduceEqDiff, Nat.reduceLT, Nat.reduceLeDiff, implies_true, forall_const, eq_self, ne_eq, not_true_eq_false, not_false_eq_true, imp_self, Nat.reduceAdd, Nat.reduceMul, Int.reduceLE, Int.reduceLT, Int.reduceNeg, Int.reduceAdd, Int.reduceToNat, E_check_eq, E_rmapply_eq, E_rgrun_eq, LX_nil, LX_length, LX_getD, LX_append, LX_one, LX_cells, LX_inj, LX_nil_eq, LX_inps_LX, LX_take, LX_drop, inps_LX, Try.ntmps21, Try.results21, gTT]
  refine ⟨fun h => ?_, fun h => ⟨fun h2 => ?_, fun h2 => ?_⟩⟩
  · have e : muE ch fr xs = 2 := by unfold muE; rw [if_pos (show muB ch fr = true from h)]
    simp [muS, e, LI_nil]
  · have e : muE ch fr xs = 3 := by unfold muE; rw [if_neg (by rw [show muB ch fr = false from h]; decide), if_pos (by have := of_decide_eq_true h2; omega)]
    simp [muS, e, LI_nil]
  have hB : muB ch fr = false := h
  obtain ⟨hc, hf, hq, hcf⟩ := muB_in hB
  have hx : xs.length ≤ 32 := by have := of_decide_eq_false h2; omega
  have hw : IntKind.i64.wrap (ch * fr) = ((ch.toNat * fr.toNat : Nat) : Int) := by rw [hcf, IntWalk.i64_in _ (by omega)]
  have e3 : List.replicate (ch.toNat * fr.toNat) (0 : Int) = zeroS ch fr := rfl
  rw [hw, Int.toNat_natCast, e3]
  have hzl := zeroS_len ch fr
  have hzz := zeroS_zer ch fr
  have hE : muE ch fr xs = (runS ch fr xs (zeroS ch fr)).2 := by unfold muE; rw [if_neg (by rw [hB]; decide), if_neg (by omega)]
  refine ⟨by omega, ?_⟩
  refine ELoop_keep (fun g : Nat × List Int => ⟨[(39, vI .i64 (g.1 : Nat))], [], [(⟨1, 36⟩, ⟨true, 1, LI .i64 g.2⟩)]⟩) (fun g => g.1 ≤ xs.length ∧ runS ch fr (xs.drop g.1) g.2 = runS ch fr xs (zeroS ch fr) ∧ g.2.length = ch.toNat * fr.toNat ∧ ∀ j : Nat, -((g.1 : Int) * 8388608) ≤ g.2[j]?.getD 0 ∧ g.2[j]?.getD 0 ≤ (g.1 : Int) * 8388608) (fun g => xs.length - g.1) (fun g => (g.1 + 1, addL g.2 (paO ch fr (xs[g.1]?.getD inp0)))) (0, zeroS ch fr) ⟨Nat.zero_le _, rfl, hzl, fun j => by rw [hzz j]; omega⟩ ?_ ?_
  · simp only [↓gPre, gPost, gCore, gDef, Nat.reduceShiftRight, Nat.reduceMod, if_true, if_false, ↓reduceIte, reduceCtorEq, Nat.reduceEqDiff, Nat.reduceLT, Nat.reduceLeDiff, implies_true, forall_const, eq_self, ne_eq, not_true_eq_false, not_false_eq_true, imp_self, Nat.reduceAdd, Nat.reduceMul, Int.reduceLE, Int.reduceLT, Int.reduceNeg, Int.reduceAdd, Int.reduceToNat, E_check_eq, E_rmapply_eq, E_rgrun_eq, LX_nil, LX_length, LX_getD, LX_append, LX_one, LX_cells, LX_inj, LX_nil_eq, LX_inps_LX, LX_take, LX_drop, inps_LX, Try.ntmps21, Try.results21, gTT]
    rfl
  rintro ⟨g, z⟩ ⟨hg, hr, hzl2, hb⟩
  simp only [↓gPre, gPost, gCore, gDef, Nat.reduceShiftRight, Nat.reduceMod, if_true, if_false, ↓reduceIte, reduceCtorEq, Nat.reduceEqDiff, Nat.reduceLT, Nat.reduceLeDiff, implies_true, forall_const, eq_self, ne_eq, not_true_eq_false, not_false_eq_true, imp_self, Nat.reduceAdd, Nat.reduceMul, Int.reduceLE, Int.reduceLT, Int.reduceNeg, Int.reduceAdd, Int.reduceToNat, E_check_eq, E_rmapply_eq, E_rgrun_eq, LX_nil, LX_length, LX_getD, LX_append, LX_one, LX_cells, LX_inj, LX_nil_eq, LX_inps_LX, LX_take, LX_drop, inps_LX, Try.ntmps21, Try.results21, gTT]
  replace hg : g ≤ xs.length := hg
  replace hr : runS ch fr (xs.drop g) z = runS ch fr xs (zeroS ch fr) := hr
  replace hzl2 : z.length = ch.toNat * fr.toNat := hzl2
  replace hb : ∀ j : Nat, -((g : Int) * 8388608) ≤ z[j]?.getD 0 ∧ z[j]?.getD 0 ≤ (g : Int) * 8388608 := hb
  refine ⟨fun h1 => ?_, fun h1 => ?_⟩
  · have hgl : g < xs.length := by have := of_decide_eq_true h1; omega
    have hgx : xs[g]?.getD inp0 = xs[g] := by rw [List.getElem?_eq_getElem hgl]; rfl
    rw [hgx]
    have hk2 := hk _ (List.getElem_mem hgl)
    rw [List.drop_eq_getElem_cons hgl] at hr
    generalize hX : xs[g] = x at *
    have hpl := paO_len (ch := ch) (x := x) hf.1 hk2.1
    have hpi := paO_in ch fr x
    have hrun : runS ch fr (x :: xs.drop (g + 1)) z = if inE ch fr x = 0 then runS ch fr (xs.drop (g + 1)) (addL z (paO ch fr x)) else (addL z (paO ch fr x), inE ch fr x) := rfl
    rw [hrun] at hr
    rw [show Inp.mk x.c x.l x.a x.b x.m x.f x.t x.n x.i = x from rfl]
    have hap : (apO x.a x.b x.m x.c x.l).length ≤ 1000000 := by
      by_cases hv : (!mxV x.a x.b x.m || !blkV x.c x.l) = true
      · have : apO x.a x.b x.m x.c x.l = [] := by unfold apO; rw [apE_one hv]; rfl
        rw [this]; exact Nat.zero_le _
      · by_cases hca : x.c = x.a
        · have hv2 : mxV x.a x.b x.m = true ∧ blkV x.c x.l = true := by simpa using hv
          have := (ap_blk hv2.2 hv2.1 hca.symm hk2.1).2.2.2.2.2
          omega
        · have hv' : (!mxV x.a x.b x.m || !blkV x.c x.l) = false := by simpa using hv
          have : apO x.a x.b x.m x.c x.l = [] := by unfold apO; rw [apE_eleven hv' hca]; rfl
          rw [this]; exact Nat.zero_le _
    refine ⟨by omega, hk2, fun h3 => ?_, fun h3 => ⟨⟨hk2.2, hk2.1⟩, hap, ?_⟩⟩
    · have hne : inE ch fr x ≠ 0 := by simpa using h3
      rw [if_neg hne] at hr
      rw [← hr] at hE
      unfold muS
      rw [hE, if_neg hne, LI_nil]
    have he : inE ch fr x = 0 := by simpa using h3
    rw [if_pos he] at hr
    obtain ⟨i1, i2, i3, i4, i5, i6⟩ := inE_ok he
    obtain ⟨q1, q2, q3, q4, q5, q6⟩ := ap_blk i1 i2 i4 hk2.1
    have hpa : grO x.f x.t x.n x.i (apC x.a x.b x.m x.c x.l) (apO x.a x.b x.m x.c x.l) = paO ch fr x := by unfold paO; rw [if_pos he, q2]
    rw [hpa]
    generalize paO ch fr x = y at *
    rw [← hzl2] at hpl
    refine ELoop_keep (fun i => ⟨[(69, vI .i64 (i : Nat))], [], [(⟨1, 36⟩, ⟨true, 1, LI .i64 (addP z y i)⟩)]⟩) (fun i => i ≤ y.length) (fun i => y.length - i) (· + 1) 0 (Nat.zero_le _) ?_ ?_
    · simp only [↓gPre, gPost, gCore, gDef, Nat.reduceShiftRight, Nat.reduceMod, if_true, if_false, ↓reduceIte, reduceCtorEq, Nat.reduceEqDiff, Nat.reduceLT, Nat.reduceLeDiff, implies_true, forall_const, eq_self, ne_eq, not_true_eq_false, not_false_eq_true, imp_self, Nat.reduceAdd, Nat.reduceMul, Int.reduceLE, Int.reduceLT, Int.reduceNeg, Int.reduceAdd, Int.reduceToNat, E_check_eq, E_rmapply_eq, E_rgrun_eq, LX_nil, LX_length, LX_getD, LX_append, LX_one, LX_cells, LX_inj, LX_nil_eq, LX_inps_LX, LX_take, LX_drop, inps_LX, Try.ntmps21, Try.results21, gTT]
      rw [addP_zero]
      exact ⟨rfl, rfl⟩
    intro i hi
    simp only [↓gPre, gPost, gCore, gDef, Nat.reduceShiftRight, Nat.reduceMod, if_true, if_false, ↓reduceIte, reduceCtorEq, Nat.reduceEqDiff, Nat.reduceLT, Nat.reduceLeDiff, implies_true, forall_const, eq_self, ne_eq, not_true_eq_false, not_false_eq_true, imp_self, Nat.reduceAdd, Nat.reduceMul, Int.reduceLE, Int.reduceLT, Int.reduceNeg, Int.reduceAdd, Int.reduceToNat, E_check_eq, E_rmapply_eq, E_rgrun_eq, LX_nil, LX_length, LX_getD, LX_append, LX_one, LX_cells, LX_inj, LX_nil_eq, LX_inps_LX, LX_take, LX_drop, inps_LX, Try.ntmps21, Try.results21, gTT]
    have hal := addP_len z y i
    refine ⟨fun h4 => ?_, fun h4 => ?_⟩
    · have hiy : i < y.length := by have := of_decide_eq_true h4; omega
      have b1 := hb i
      have b2 := hpi i
      rw [addP_get (by omega), IntWalk.i64_in (y[i]?.getD 0) (by omega), IntWalk.i64_in (z[i]?.getD 0 + y[i]?.getD 0) (by omega), addP_succ (by omega)]
      exact ⟨by omega, by omega, by omega, by omega, by omega, ⟨(wrapN _ (by omega)).symm, rfl⟩, by omega, by omega⟩
    · have : i = y.length := by have := of_decide_eq_false h4; omega
      rw [this, addP_all]
      refine ⟨⟨(wrapN _ (by omega)).symm, rfl⟩, ⟨by omega, hr, by rw [addL_len]; exact hzl2, fun j => ?_⟩, by omega⟩
      rw [addL_get _ _ _ hpl]
      have h5 := hb j
      have h6 := hpi j
      omega
  · have : g = xs.length := by have := of_decide_eq_false h1; omega
    rw [this, List.drop_length] at hr
    have hr2 : runS ch fr xs (zeroS ch fr) = (z, 0) := hr.symm
    rw [hr2] at hE
    refine ⟨hzl2.symm, ?_⟩
    unfold muS
    rw [hE, if_pos rfl, hr2]
def E_rsum : List V → Boxes → Toks → Name → Option Ent
  | [.c (.d (.int .i64 ch)), .c (.d (.int .i64 fr)), .c (.d (.list q_xs))], [], [], _ => some ⟨keptI (inps q_xs) ∧ q_xs = LX (inps q_xs), .tup [.list (LI .i64 (muS ch fr (inps q_xs))), .int .i64 (muE ch fr (inps q_xs))], [], []⟩
  | _, _, _, _ => none
def E_rsum_eq := And.intro (@E_rsum.eq_1) (@E_rsum.eq_1)
theorem E_rsum_ok : Snd Try.prog 21 E_rsum := by
  intro vs b k n e h hn hp
  unfold E_rsum at h
  split at h
  · cases h; obtain ⟨hp0, hq0⟩ := hp; obtain ⟨_, rfl⟩ := LX_ex hq0; simp only [ints_LI, bys_LB, blks_LK, lls_LL, inps_LX] at hp0 ⊢; exact (spec_rsum _ _ _ hp0).lift rfl _
  · cases h

end Go.Vam
