/- What passes of an input. Conditions: none. -/
import Derived.Test.YtmliamkbpbdlbaaMixC
import Derived.Test.YtmliamkbpbdlbaaVamInp
set_option linter.unusedVariables false
set_option linter.defProp false
set_option linter.unusedSimpArgs false
set_option maxRecDepth 40000
set_option maxHeartbeats 4000000
namespace Go.Vam
open Go.Proofs

def inE (ch fr : Int) (x : Inp) : Int := if (!blkV x.c x.l || !mxV x.a x.b x.m || !validG x.f x.t x.n x.i) = true then 1 else if (x.a != x.c || x.b != ch) = true then 11 else if fr < ((x.l.length / x.c.toNat : Nat) : Int) then 2 else 0
def paC (ch fr : Int) (x : Inp) : Int := if inE ch fr x = 0 then x.b else 0
def paO (ch fr : Int) (x : Inp) : List Int := if inE ch fr x = 0 then grO x.f x.t x.n x.i x.b (apO x.a x.b x.m x.c x.l) else []
theorem inE_ok {ch fr : Int} {x : Inp} (h : inE ch fr x = 0) : blkV x.c x.l = true ∧ mxV x.a x.b x.m = true ∧ validG x.f x.t x.n x.i = true ∧ x.a = x.c ∧ x.b = ch ∧ ((x.l.length / x.c.toNat : Nat) : Int) ≤ fr := by
  unfold inE at h
  split at h
  · cases h
  · rename_i h1
    split at h
    · cases h
    · rename_i h2
      split at h
      · cases h
      · simp only [Bool.or_eq_true, Bool.not_eq_true', not_or, Bool.not_eq_false, bne_iff_ne, ne_eq, Decidable.not_not] at h1 h2
        exact ⟨h1.1.1, h1.1.2, h1.2, h2.1, h2.2, by omega⟩

theorem blkV_frames {c : Int} {l : List Int} (h : blkV c l = true) (hl : l.length ≤ 1000000) : l.length / c.toNat ≤ 65536 := by
  have hc := (blkV_in h).1
  obtain ⟨h1, h2, h3⟩ := chBk_in hc
  have hz : l.length / c.toNat ≤ l.length := Nat.div_le_self ..
  unfold chBk at hc
  simp only [Bool.or_eq_false_iff, decide_eq_false_iff_not] at hc
  have e : (l.length : Int).tdiv c = ((l.length / c.toNat : Nat) : Int) := tdivN _ (by omega)
  rw [e] at hc
  generalize l.length / c.toNat = z at *
  rw [IntWalk.i64_in (z : Int) (by omega)] at hc
  omega
theorem apL_all (a b : Nat) (m l : List Int) (n : Nat) : (apL a b m l n).all smpX = true := by
  rw [List.all_eq_true]
  intro x hx
  simp only [apL, List.mem_map] at hx
  obtain ⟨i, _, rfl⟩ := hx
  have := satG_in ((dotN (fun c => atL m (i % b * a + c)) (fun c => atL l (i / b * a + c)) a + 16384) / 32768)
  simp only [smpX, apV, Bool.and_eq_true]
  exact ⟨decide_eq_true this.1, decide_eq_true this.2⟩
theorem blkV_mk {c : Int} {l : List Int} {z : Nat} (hc : 1 ≤ c ∧ c ≤ 8) (hd : l.length = z * c.toNat) (hz : z ≤ 65536) (hs : l.all smpX = true) : blkV c l = true := by
  unfold blkV
  have hch : chBk c l.length = false := by
    have e : c = (c.toNat : Int) := by omega
    unfold chBk
    have e2 : ((l.length : Nat) : Int) = (z : Int) * c := by rw [hd, Int.natCast_mul, ← e]
    rw [e2, Int.mul_tmod_left, Int.mul_tdiv_cancel _ (by omega), IntWalk.i64_in _ (by omega)]
    simp only [Bool.or_eq_false_iff, decide_eq_false_iff_not, bne_self_eq_false, and_true]
    omega
  rw [hch, hs]; rfl
/-- What passes: the block in full. -/
theorem ap_blk {a b c : Int} {m l : List Int} (hb : blkV c l = true) (hm : mxV a b m = true) (hca : a = c) (hl : l.length ≤ 1000000) :
    apE a b m c l = 0 ∧ apC a b m c l = b ∧ apO a b m c l = apL a.toNat b.toNat m l (l.length / a.toNat * b.toNat) ∧ blkV b (apO a b m c l) = true ∧ (apO a b m c l).length = l.length / c.toNat * b.toNat ∧ (apO a b m c l).length ≤ 524288 := by
  have hE := apE_ok hm hb hca.symm
  have hO : apO a b m c l = apL a.toNat b.toNat m l (l.length / a.toNat * b.toNat) := by simp [apO, hE]
  have hz := blkV_frames hb hl
  have hB := (mxV_in hm).2.1
  have hlen : (apO a b m c l).length = l.length / c.toNat * b.toNat := by rw [hO, apL_len, hca]
  refine ⟨hE, by simp [apC, hE], hO, blkV_mk hB hlen hz (by rw [hO]; exact apL_all ..), hlen, ?_⟩
  rw [hlen]
  exact Nat.le_trans (Nat.mul_le_mul hz (show b.toNat ≤ 8 by omega)) (by decide)

theorem spec_pframes (c : Int) (l : List Int) (hl : l.length ≤ 1000000) : Spec Try.prog 0 54 [.agg [.d (.int .i64 c), .d (.list (LI .i32 l))]] [] [] (vI .i64 (if blkV c l = true then ((l.length / c.toNat : Nat) : Int) else 0)) [] [] := by
  refine spec_of_E (X := ⟨Try.prog, tt, Try.f54.ntmps, 1, fun _ => 0, (tab [(52, E_bvalid)])⟩) (M := []) (m := 39) rfl rfl ⟨tt_ok, tab_ok (tabs_cons E_bvalid_ok tabs_nil) _ rfl rfl⟩ tt_mixed Try.func54 rfl (by decide) (by show (1 : Nat) ≤ _; exact Nat.le_of_ble_eq_true rfl) ⟨by simp [V.has, C.has], by simp [C.has], by simp⟩ ?_
  simp only [↓gPre, gPost, gCore, gDef, Nat.reduceShiftRight, Nat.reduceMod, if_true, if_false, ↓reduceIte, reduceCtorEq, Nat.reduceEqDiff, Nat.reduceLT, Nat.reduceLeDiff, implies_true, forall_const, eq_self, ne_eq, not_true_eq_false, not_false_eq_true, imp_self, Nat.reduceAdd, Nat.reduceMul, Int.reduceLE, Int.reduceLT, Int.reduceNeg, Int.reduceAdd, Int.reduceToNat, E_bvalid_eq, LX_nil, LX_length, LX_getD, LX_append, LX_one, LX_cells, LX_inj, LX_nil_eq, LX_inps_LX, LX_take, LX_drop, inps_LX, Try.ntmps54, Try.results54, gTT]
  refine ⟨hl, fun h => ?_, fun h => ?_⟩
  · simp [h]
  have h1 : blkV c l = true := by simpa using h
  have h2 : chBk c l.length = false := by
    unfold blkV at h1
    simp only [Bool.and_eq_true, Bool.not_eq_true'] at h1
    exact h1.1
  obtain ⟨c1, c2, _⟩ := chBk_in h2
  rw [if_pos h1, Int.tdiv_eq_ediv_of_nonneg (by omega)]
  have e : (l.length : Int) / c = ((l.length / c.toNat : Nat) : Int) := by
    have : c = (c.toNat : Int) := by omega
    rw [this]
    exact (Int.natCast_ediv ..).symm
  have hle : l.length / c.toNat ≤ l.length := Nat.div_le_self ..
  rw [e]
  have c0 : ¬ c = 0 := by omega
  generalize l.length / c.toNat = z at *
  rw [IntWalk.i64_in (z : Int) (by omega)]
  exact ⟨c0, rfl⟩
def E_pframes : List V → Boxes → Toks → Name → Option Ent
  | [.agg [.d (.int .i64 c), .d (.list q_l)]], [], [], _ => some ⟨(ints q_l).length ≤ 1000000 ∧ q_l = LI .i32 (ints q_l), vI .i64 (if blkV c (ints q_l) = true then (((ints q_l).length / c.toNat : Nat) : Int) else 0), [], []⟩
  | _, _, _, _ => none
def E_pframes_eq := And.intro (@E_pframes.eq_1) (@E_pframes.eq_1)
theorem E_pframes_ok : Snd Try.prog 54 E_pframes := by
  intro vs b k n e h hn hp
  unfold E_pframes at h
  split at h
  · cases h; obtain ⟨hp0, hq0⟩ := hp; obtain ⟨_, rfl⟩ := LI_ex hq0; simp only [ints_LI, bys_LB, blks_LK, lls_LL] at hp0 ⊢; exact (spec_pframes _ _ hp0).lift rfl _
  · cases h

theorem spec_check (c : Int) (l : List Int) (a b : Int) (m : List Int) (f t n i : Int) (ch fr : Int) (hl : l.length ≤ 1000000) (hm : m.length ≤ 1000000) : Spec Try.prog 0 39 [.agg [.d (.int .i64 c), .d (.list (LI .i32 l)), .d (.int .i64 a), .d (.int .i64 b), .d (.list (LI .i64 m)), .d (.int .i64 f), .d (.int .i64 t), .d (.int .i64 n), .d (.int .i64 i)], vI .i64 ch, vI .i64 fr] [] [] (vI .i64 (inE ch fr ⟨c, l, a, b, m, f, t, n, i⟩)) [] [] := by
  refine spec_of_E (X := ⟨Try.prog, tt, Try.f39.ntmps, 1, fun _ => 0, (tab [(47, E_rbvalid), (56, E_rmvalid), (46, E_refvalid), (26, E_frames)])⟩) (M := [(1, [0, 0, 0, 0, 0, 549789364431, 0, 0, 0, 0, 0, 549789106383, 0, 0, 0, 0, 0]), (3, [0, 0, 0, 0, 0, 1098588881103, 0, 0, 0, 0, 0, 1069463634127, 0, 0, 0])]) (m := 549772591311) rfl rfl ⟨tt_ok, tab_ok (tabs_cons E_rbvalid_ok (tabs_cons E_rmvalid_ok (tabs_cons E_refvalid_ok (tabs_cons E_frames_ok tabs_nil)))) _ rfl rfl⟩ tt_mixed Try.func39 rfl (by decide) (by show (3 : Nat) ≤ _; exact Nat.le_of_ble_eq_true rfl) ⟨fun m hm => (V.bare_has rfl m hm).elim, by simp, by simp⟩ ?_
  simp only [↓gPre, gPost, gCore, gDef, Nat.reduceShiftRight, Nat.reduceMod, if_true, if_false, ↓reduceIte, reduceCtorEq, Nat.reduceEqDiff, Nat.reduceLT, Nat.reduceLeDiff, implies_true, forall_const, eq_self, ne_eq, not_true_eq_false, not_false_eq_true, imp_self, Nat.reduceAdd, Nat.reduceMul, Int.reduceLE, Int.reduceLT, Int.reduceNeg, Int.reduceAdd, Int.reduceToNat, E_rbvalid_eq, E_rmvalid_eq, E_refvalid_eq, E_frames_eq, LX_nil, LX_length, LX_getD, LX_append, LX_one, LX_cells, LX_inj, LX_nil_eq, LX_inps_LX, LX_take, LX_drop, inps_LX, Try.ntmps39, Try.results39, gTT]
  refine ⟨hl, fun _ => hm, fun h => ?_, fun h => ⟨fun h2 => ?_, fun h2 => ⟨hl, fun h3 => ?_, fun h3 => ?_⟩⟩⟩
  · unfold inE; rw [if_pos h]
  · unfold inE; rw [if_neg (by simp only; rw [h]; decide), if_pos h2]
  · have hb : blkV c l = true := by simp at h; exact h.1.1
    rw [if_pos hb] at h3
    unfold inE; rw [if_neg (by simp only; rw [h]; decide), if_neg (by simp only; rw [h2]; decide), if_pos (of_decide_eq_true h3)]
  · have hb : blkV c l = true := by simp at h; exact h.1.1
    rw [if_pos hb] at h3
    unfold inE; rw [if_neg (by simp only; rw [h]; decide), if_neg (by simp only; rw [h2]; decide), if_neg (of_decide_eq_false h3)]
def E_check : List V → Boxes → Toks → Name → Option Ent
  | [.agg [.d (.int .i64 c), .d (.list q_l), .d (.int .i64 a), .d (.int .i64 b), .d (.list q_m), .d (.int .i64 f), .d (.int .i64 t), .d (.int .i64 n), .d (.int .i64 i)], .c (.d (.int .i64 ch)), .c (.d (.int .i64 fr))], [], [], _ => some ⟨(ints q_l).length ≤ 1000000 ∧ (ints q_m).length ≤ 1000000 ∧ q_l = LI .i32 (ints q_l) ∧ q_m = LI .i64 (ints q_m), vI .i64 (inE ch fr ⟨c, (ints q_l), a, b, (ints q_m), f, t, n, i⟩), [], []⟩
  | _, _, _, _ => none
def E_check_eq := And.intro (@E_check.eq_1) (@E_check.eq_1)
theorem E_check_ok : Snd Try.prog 39 E_check := by
  intro vs b k n e h hn hp
  unfold E_check at h
  split at h
  · cases h; obtain ⟨hp0, hp1, hq0, hq1⟩ := hp; obtain ⟨_, rfl⟩ := LI_ex hq0; obtain ⟨_, rfl⟩ := LI_ex hq1; simp only [ints_LI, bys_LB, blks_LK, lls_LL] at hp0 hp1 ⊢; exact (spec_check _ _ _ _ _ _ _ _ _ _ _ hp0 hp1).lift rfl _
  · cases h

theorem spec_pass (c : Int) (l : List Int) (a b : Int) (m : List Int) (f t n i : Int) (ch fr : Int) (hl : l.length ≤ 1000000) (hm : m.length ≤ 1000000) : Spec Try.prog 0 38 [.agg [.d (.int .i64 c), .d (.list (LI .i32 l)), .d (.int .i64 a), .d (.int .i64 b), .d (.list (LI .i64 m)), .d (.int .i64 f), .d (.int .i64 t), .d (.int .i64 n), .d (.int .i64 i)], vI .i64 ch, vI .i64 fr] [] [] (.tup [.agg [.int .i64 (paC ch fr ⟨c, l, a, b, m, f, t, n, i⟩), .list (LI .i32 (paO ch fr ⟨c, l, a, b, m, f, t, n, i⟩))], .int .i64 (inE ch fr ⟨c, l, a, b, m, f, t, n, i⟩)]) [] [] := by
  refine spec_of_E (X := ⟨Try.prog, tt, Try.f38.ntmps, 1, fun _ => 0, (tab [(52, E_bvalid), (53, E_mvalid), (43, E_gvalid), (54, E_pframes), (55, E_mapply), (45, E_grun)])⟩) (M := [(1, [0, 0, 0, 0, 0, 70370354665935, 0, 0, 0, 0, 0, 70370346408399, 0, 0, 0, 0, 0]), (3, [0, 0, 0, 0, 0, 105494060472783, 0, 0, 0, 0, 0, 103630044666319, 0, 0, 0]), (8, [0, 0, 0, 0, 0, 518814747442899066319, 0, 0, 0, 0, 0, 0])]) (m := 70369817926095) rfl rfl ⟨tt_ok, tab_ok (tabs_cons E_bvalid_ok (tabs_cons E_mvalid_ok (tabs_cons E_gvalid_ok (tabs_cons E_pframes_ok (tabs_cons E_mapply_ok (tabs_cons E_grun_ok tabs_nil)))))) _ rfl rfl⟩ tt_mixed Try.func38 rfl (by decide) (by show (3 : Nat) ≤ _; exact Nat.le_of_ble_eq_true rfl) ⟨fun m hm => (V.bare_has rfl m hm).elim, by simp, by simp⟩ ?_
  simp only [↓gPre, gPost, gCore, gDef, Nat.reduceShiftRight, Nat.reduceMod, if_true, if_false, ↓reduceIte, reduceCtorEq, Nat.reduceEqDiff, Nat.reduceLT, Nat.reduceLeDiff, implies_true, forall_const, eq_self, ne_eq, not_true_eq_false, not_false_eq_true, imp_self, Nat.reduceAdd, Nat.reduceMul, Int.reduceLE, Int.reduceLT, Int.reduceNeg, Int.reduceAdd, Int.reduceToNat, E_bvalid_eq, E_mvalid_eq, E_gvalid_eq, E_pframes_eq, E_mapply_eq, E_grun_eq, LX_nil, LX_length, LX_getD, LX_append, LX_one, LX_cells, LX_inj, LX_nil_eq, LX_inps_LX, LX_take, LX_drop, inps_LX, Try.ntmps38, Try.results38, gTT]
  refine ⟨hl, fun _ => hm, fun h => ?_, fun h => ⟨fun h2 => ?_, fun h2 => ⟨hl, fun h3 => ?_, fun h3 => ?_⟩⟩⟩
  · have e : inE ch fr ⟨c, l, a, b, m, f, t, n, i⟩ = 1 := by unfold inE; rw [if_pos h]
    simp [paC, paO, e, LI_nil]
  · have e : inE ch fr ⟨c, l, a, b, m, f, t, n, i⟩ = 11 := by unfold inE; rw [if_neg (by simp only; rw [h]; decide), if_pos h2]
    simp [paC, paO, e, LI_nil]
  · have hb : blkV c l = true := by simp at h; exact h.1.1
    rw [if_pos hb] at h3
    have e : inE ch fr ⟨c, l, a, b, m, f, t, n, i⟩ = 2 := by unfold inE; rw [if_neg (by simp only; rw [h]; decide), if_neg (by simp only; rw [h2]; decide), if_pos (of_decide_eq_true h3)]
    simp [paC, paO, e, LI_nil]
  · have hb : blkV c l = true := by simp at h; exact h.1.1
    have hx : mxV a b m = true := by simp at h; exact h.1.2
    have hv : validG f t n i = true := by simp at h; exact h.2
    have hac : a = c := by simp at h2; exact h2.1
    rw [if_pos hb] at h3
    have e : inE ch fr ⟨c, l, a, b, m, f, t, n, i⟩ = 0 := by unfold inE; rw [if_neg (by simp only; rw [h]; decide), if_neg (by simp only; rw [h2]; decide), if_neg (of_decide_eq_false h3)]
    obtain ⟨q1, q2, q3, q4, q5, q6⟩ := ap_blk hb hx hac hl
    have hE : grE f t n i b (apO a b m c l) = 0 := by simp [grE, hv, q4]
    refine ⟨⟨hm, hl⟩, by omega, ?_⟩
    rw [q2, hE, e]
    simp [paC, paO, e, grC, hE]
def E_pass : List V → Boxes → Toks → Name → Option Ent
  | [.agg [.d (.int .i64 c), .d (.list q_l), .d (.int .i64 a), .d (.int .i64 b), .d (.list q_m), .d (.int .i64 f), .d (.int .i64 t), .d (.int .i64 n), .d (.int .i64 i)], .c (.d (.int .i64 ch)), .c (.d (.int .i64 fr))], [], [], _ => some ⟨(ints q_l).length ≤ 1000000 ∧ (ints q_m).length ≤ 1000000 ∧ q_l = LI .i32 (ints q_l) ∧ q_m = LI .i64 (ints q_m), .tup [.agg [.int .i64 (paC ch fr ⟨c, (ints q_l), a, b, (ints q_m), f, t, n, i⟩), .list (LI .i32 (paO ch fr ⟨c, (ints q_l), a, b, (ints q_m), f, t, n, i⟩))], .int .i64 (inE ch fr ⟨c, (ints q_l), a, b, (ints q_m), f, t, n, i⟩)], [], []⟩
  | _, _, _, _ => none
def E_pass_eq := And.intro (@E_pass.eq_1) (@E_pass.eq_1)
theorem E_pass_ok : Snd Try.prog 38 E_pass := by
  intro vs b k n e h hn hp
  unfold E_pass at h
  split at h
  · cases h; obtain ⟨hp0, hp1, hq0, hq1⟩ := hp; obtain ⟨_, rfl⟩ := LI_ex hq0; obtain ⟨_, rfl⟩ := LI_ex hq1; simp only [ints_LI, bys_LB, blks_LK, lls_LL] at hp0 hp1 ⊢; exact (spec_pass _ _ _ _ _ _ _ _ _ _ _ hp0 hp1).lift rfl _
  · cases h

end Go.Vam
