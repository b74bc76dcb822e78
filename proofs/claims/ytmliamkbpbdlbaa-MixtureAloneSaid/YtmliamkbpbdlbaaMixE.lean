/- The closure that adds an input, and the fold over inputs. Conditions: none. -/
import Derived.Test.YtmliamkbpbdlbaaMixD
set_option linter.unusedVariables false
set_option linter.defProp false
set_option linter.unusedSimpArgs false
set_option maxRecDepth 40000
set_option maxHeartbeats 4000000
namespace Go.Vam
open Go.Proofs

def okZ (z : List Int) : Prop := ∀ j : Nat, -1099511627776 ≤ z[j]?.getD 0 ∧ z[j]?.getD 0 ≤ 1099511627776
def addL (acc ys : List Int) : List Int := (List.range acc.length).map fun j => acc[j]?.getD 0 + ys[j]?.getD 0
def addP (acc ys : List Int) (n : Nat) : List Int := (List.range acc.length).map fun j => if j < n then acc[j]?.getD 0 + ys[j]?.getD 0 else acc[j]?.getD 0
theorem addL_len (acc ys : List Int) : (addL acc ys).length = acc.length := by simp [addL]
theorem addP_len (acc ys : List Int) (n : Nat) : (addP acc ys n).length = acc.length := by simp [addP]
theorem addP_zero (acc ys : List Int) : addP acc ys 0 = acc := by
  apply List.ext_getElem
  · simp [addP]
  · intro i h1 h2; simp [addP, List.getElem?_eq_getElem h2]
theorem addP_all (acc ys : List Int) : addP acc ys ys.length = addL acc ys := by
  apply List.map_congr_left
  intro j hj
  by_cases h : j < ys.length
  · rw [if_pos h]
  · rw [if_neg h, List.getElem?_eq_none (Nat.le_of_not_lt h)]; simp
theorem addP_get {acc ys : List Int} {n : Nat} (h : n < acc.length) : (addP acc ys n)[n]?.getD 0 = acc[n]?.getD 0 := by
  simp [addP, h]
theorem addP_succ {acc ys : List Int} {n : Nat} (h : n < acc.length) : addP acc ys (n + 1) = (addP acc ys n).set n (acc[n]?.getD 0 + ys[n]?.getD 0) := by
  apply List.ext_getElem
  · simp [addP]
  · intro i h1 h2
    simp only [addP, List.getElem_map, List.getElem_range, List.getElem_set]
    by_cases e : n = i
    · subst e; simp
    · rw [if_neg e]
      by_cases h : i < n
      · rw [if_pos h, if_pos (by omega)]
      · rw [if_neg h, if_neg (by omega)]
theorem addL_get (acc ys : List Int) (j : Nat) (h : ys.length ≤ acc.length) : (addL acc ys)[j]?.getD 0 = acc[j]?.getD 0 + ys[j]?.getD 0 := by
  unfold addL
  by_cases hj : j < acc.length
  · rw [List.getElem?_map, List.getElem?_range hj]; rfl
  · rw [List.getElem?_eq_none (by simp; omega), List.getElem?_eq_none (by omega : acc.length ≤ j), List.getElem?_eq_none (by omega : ys.length ≤ j)]; rfl
theorem gV_in (a b c d k : Int) (l : List Int) (j : Nat) : -8388608 ≤ gV a b c d k l j ∧ gV a b c d k l j ≤ 8388607 := by
  unfold gV applyG
  split
  · decide
  · exact satG_in _
theorem paO_in (ch fr : Int) (x : Inp) (j : Nat) : -8388608 ≤ (paO ch fr x)[j]?.getD 0 ∧ (paO ch fr x)[j]?.getD 0 ≤ 8388607 := by
  unfold paO grO
  split
  · split
    · unfold gO
      rw [List.getElem?_map]
      cases h : (List.range (apO x.a x.b x.m x.c x.l).length)[j]? with
      | none => simp
      | some y => exact gV_in ..
    · simp
  · simp
theorem paO_len {ch fr : Int} {x : Inp} (hf : 0 ≤ fr) (hl : x.l.length ≤ 1000000) : (paO ch fr x).length ≤ ch.toNat * fr.toNat := by
  unfold paO
  split
  · rename_i h
    obtain ⟨h1, h2, h3, h4, h5, h6⟩ := inE_ok h
    obtain ⟨q1, q2, q3, q4, q5, q6⟩ := ap_blk h1 h2 h4 hl
    unfold grO
    split
    · rw [gO_len, q5, ← h5, Nat.mul_comm]
      exact Nat.mul_le_mul_left _ (by omega)
    · exact Nat.zero_le _
  · exact Nat.zero_le _
def runS (ch fr : Int) : List Inp → List Int → List Int × Int
  | [], acc => (acc, 0)
  | x :: xs, acc => if inE ch fr x = 0 then runS ch fr xs (addL acc (paO ch fr x)) else (addL acc (paO ch fr x), inE ch fr x)

theorem spec_sum1 (c : Int) (l : List Int) (a b : Int) (m : List Int) (f t n i : Int) (ch fr : Int) (q : Nat) (z : List Int) (hl : l.length ≤ 1000000) (hm : m.length ≤ 1000000) (hf : 0 ≤ fr) (hq : z.length = ch.toNat * fr.toNat) (hq2 : q = z.length) (hzl : z.length ≤ 1000000) (hz : okZ z) : Spec Try.prog 0 37 [.agg [.d (.int .i64 c), .d (.list (LI .i32 l)), .d (.int .i64 a), .d (.int .i64 b), .d (.list (LI .i64 m)), .d (.int .i64 f), .d (.int .i64 t), .d (.int .i64 n), .d (.int .i64 i)], .c (.lp ⟨0, 0⟩ 0), .c (.lp ⟨0, 1⟩ 0), .c (.lp ⟨0, 2⟩ 0)] [(⟨0, 0⟩, [.d (.int .i64 ch)]), (⟨0, 1⟩, [.d (.int .i64 fr)]), (⟨0, 2⟩, [.arr ⟨0, 3⟩ q])] [(⟨0, 3⟩, ⟨true, 1, (LI .i64 z)⟩)] (vI .i64 (inE ch fr ⟨c, l, a, b, m, f, t, n, i⟩)) [(⟨0, 0⟩, [.d (.int .i64 ch)]), (⟨0, 1⟩, [.d (.int .i64 fr)]), (⟨0, 2⟩, [.arr ⟨0, 3⟩ q])] [(⟨0, 3⟩, ⟨true, 1, (LI .i64 (addL z (paO ch fr ⟨c, l, a, b, m, f, t, n, i⟩)))⟩)] := by
  refine spec_of_E (X := ⟨Try.prog, tt, Try.f37.ntmps, 1, fun _ => 0, (tab [(38, E_pass)])⟩) (M := []) (m := 3933183) rfl rfl ⟨tt_ok, tab_ok (tabs_cons E_pass_ok tabs_nil) _ rfl rfl⟩ tt_mixed Try.func37 rfl (by decide) (by show (4 : Nat) ≤ _; exact Nat.le_of_ble_eq_true rfl) ⟨by simp [V.has, C.has], by simp [C.has], by simp⟩ ?_
  simp only [↓gPre, gPost, gCore, gDef, Nat.reduceShiftRight, Nat.reduceMod, if_true, if_false, ↓reduceIte, reduceCtorEq, Nat.reduceEqDiff, Nat.reduceLT, Nat.reduceLeDiff, implies_true, forall_const, eq_self, ne_eq, not_true_eq_false, not_false_eq_true, imp_self, Nat.reduceAdd, Nat.reduceMul, Int.reduceLE, Int.reduceLT, Int.reduceNeg, Int.reduceAdd, Int.reduceToNat, E_pass_eq, LX_nil, LX_length, LX_getD, LX_append, LX_one, LX_cells, LX_inj, LX_nil_eq, LX_inps_LX, LX_take, LX_drop, inps_LX, Try.ntmps37, Try.results37, gTT]
  refine ⟨⟨hl, hm⟩, ?_⟩
  have hpl := paO_len (ch := ch) (x := ⟨c, l, a, b, m, f, t, n, i⟩) hf hl
  have hpi := paO_in ch fr ⟨c, l, a, b, m, f, t, n, i⟩
  generalize paO ch fr ⟨c, l, a, b, m, f, t, n, i⟩ = y at *
  rw [← hq] at hpl
  refine ELoop_keep (fun g => ⟨[(20, vI .i64 (g : Nat))], [], [(⟨0, 3⟩, ⟨true, 1, LI .i64 (addP z y g)⟩)]⟩) (fun g => g ≤ y.length) (fun g => y.length - g) (· + 1) 0 (Nat.zero_le _) ?_ ?_
  · simp only [↓gPre, gPost, gCore, gDef, Nat.reduceShiftRight, Nat.reduceMod, if_true, if_false, ↓reduceIte, reduceCtorEq, Nat.reduceEqDiff, Nat.reduceLT, Nat.reduceLeDiff, implies_true, forall_const, eq_self, ne_eq, not_true_eq_false, not_false_eq_true, imp_self, Nat.reduceAdd, Nat.reduceMul, Int.reduceLE, Int.reduceLT, Int.reduceNeg, Int.reduceAdd, Int.reduceToNat, E_pass_eq, LX_nil, LX_length, LX_getD, LX_append, LX_one, LX_cells, LX_inj, LX_nil_eq, LX_inps_LX, LX_take, LX_drop, inps_LX, Try.ntmps37, Try.results37, gTT]
    rw [addP_zero]
    exact ⟨rfl, rfl⟩
  intro g hg
  simp only [↓gPre, gPost, gCore, gDef, Nat.reduceShiftRight, Nat.reduceMod, if_true, if_false, ↓reduceIte, reduceCtorEq, Nat.reduceEqDiff, Nat.reduceLT, Nat.reduceLeDiff, implies_true, forall_const, eq_self, ne_eq, not_true_eq_false, not_false_eq_true, imp_self, Nat.reduceAdd, Nat.reduceMul, Int.reduceLE, Int.reduceLT, Int.reduceNeg, Int.reduceAdd, Int.reduceToNat, E_pass_eq, LX_nil, LX_length, LX_getD, LX_append, LX_one, LX_cells, LX_inj, LX_nil_eq, LX_inps_LX, LX_take, LX_drop, inps_LX, Try.ntmps37, Try.results37, gTT]
  have hal := addP_len z y g
  refine ⟨fun h1 => ?_, fun h1 => ?_⟩
  · have hgy : g < y.length := by have := of_decide_eq_true h1; omega
    have b1 := hz g
    have b2 := hpi g
    rw [addP_get (by omega), IntWalk.i64_in (y[g]?.getD 0) (by omega), IntWalk.i64_in (z[g]?.getD 0 + y[g]?.getD 0) (by omega), addP_succ (by omega)]
    exact ⟨by omega, by omega, by omega, by omega, by omega, ⟨(wrapN _ (by omega)).symm, rfl⟩, by omega, by omega⟩
  · have : g = y.length := by have := of_decide_eq_false h1; omega
    rw [this, addP_all]
def E_sum1 : List V → Boxes → Toks → Name → Option Ent
  | [.agg [.d (.int .i64 c), .d (.list q_l), .d (.int .i64 a), .d (.int .i64 b), .d (.list q_m), .d (.int .i64 f), .d (.int .i64 t), .d (.int .i64 n), .d (.int .i64 i)], .c (.lp n0 0), .c (.lp n1 0), .c (.lp n2 0)], [(m0, [.d (.int .i64 ch)]), (m1, [.d (.int .i64 fr)]), (m2, [.arr n3 q])], [(j0, ⟨true, 1, q_z⟩)], _ => some ⟨(ints q_l).length ≤ 1000000 ∧ (ints q_m).length ≤ 1000000 ∧ 0 ≤ fr ∧ (ints q_z).length = ch.toNat * fr.toNat ∧ q = (ints q_z).length ∧ (ints q_z).length ≤ 1000000 ∧ okZ (ints q_z) ∧ n0.lv ≤ 1 ∧ n1.lv ≤ 1 ∧ n2.lv ≤ 1 ∧ n3.lv ≤ 1 ∧ m0 = n0 ∧ m1 = n1 ∧ m2 = n2 ∧ j0 = n3 ∧ n1 ≠ n0 ∧ n2 ≠ n0 ∧ n2 ≠ n1 ∧ n3 ≠ n0 ∧ n3 ≠ n1 ∧ n3 ≠ n2 ∧ q_l = LI .i32 (ints q_l) ∧ q_m = LI .i64 (ints q_m) ∧ q_z = LI .i64 (ints q_z), vI .i64 (inE ch fr ⟨c, (ints q_l), a, b, (ints q_m), f, t, n, i⟩), [(n0, [.d (.int .i64 ch)]), (n1, [.d (.int .i64 fr)]), (n2, [.arr n3 q])], [(n3, ⟨true, 1, (LI .i64 (addL (ints q_z) (paO ch fr ⟨c, (ints q_l), a, b, (ints q_m), f, t, n, i⟩)))⟩)]⟩
  | _, _, _, _ => none
def E_sum1_eq := And.intro (@E_sum1.eq_1) (@E_sum1.eq_1)
theorem E_sum1_ok : Snd Try.prog 37 E_sum1 := by
  intro vs b k n e h hn hp
  unfold E_sum1 at h
  split at h
  · cases h; obtain ⟨hp0, hp1, hp2, hp3, hp4, hp5, hp6, hl0, hl1, hl2, hl3, rfl, rfl, rfl, rfl, hd10, hd20, hd21, hd30, hd31, hd32, hq0, hq1, hq2⟩ := hp; obtain ⟨_, rfl⟩ := LI_ex hq0; obtain ⟨_, rfl⟩ := LI_ex hq1; obtain ⟨_, rfl⟩ := LI_ex hq2; simp only [ints_LI, bys_LB, blks_LK, lls_LL] at hp0 hp1 hp2 hp3 hp4 hp5 hp6 ⊢; exact Spec.ren4 (spec_sum1 _ _ _ _ _ _ _ _ _ _ _ _ _ hp0 hp1 hp2 hp3 hp4 hp5 hp6) 0 1 2 3 (by simp [supOK, V.names, C.names, namesB, namesK]) hl0 hl1 hl2 hl3 hd10 hd20 hd21 hd30 hd31 hd32
  · cases h

theorem runS_len (ch fr : Int) : ∀ (xs : List Inp) (z : List Int), (runS ch fr xs z).1.length = z.length
  | [], z => rfl
  | x :: xs, z => by
    unfold runS
    split
    · rw [runS_len ch fr xs, addL_len]
    · exact addL_len ..
def zerZ (z : List Int) : Prop := ∀ j : Nat, z[j]?.getD 0 = 0
def keptI (xs : List Inp) : Prop := ∀ x ∈ xs, x.l.length ≤ 1000000 ∧ x.m.length ≤ 1000000
/-- The inputs so far. -/
def accS (ch fr : Int) (xs : List Inp) (z : List Int) (k : Nat) : List Int := (xs.take k).foldl (fun z x => addL z (paO ch fr x)) z
def errS (ch fr : Int) (xs : List Inp) : Int := ((xs.map (inE ch fr)).find? (· ≠ 0)).getD 0

theorem spec_fold (xs : List Inp) (ch fr : Int) (q : Nat) (z : List Int) (hf : 0 ≤ fr) (hq : z.length = ch.toNat * fr.toNat) (hq2 : q = z.length) (hzl : z.length ≤ 1000000) (hz : zerZ z) (hk : keptI xs) (hx : xs.length ≤ 32) : Spec Try.prog 0 36 [.c (.fn 37 [(⟨0, 0⟩, 0), (⟨0, 1⟩, 0), (⟨0, 2⟩, 0)]), vL (LX xs)] [(⟨0, 0⟩, [.d (.int .i64 ch)]), (⟨0, 1⟩, [.d (.int .i64 fr)]), (⟨0, 2⟩, [.arr ⟨0, 3⟩ q])] [(⟨0, 3⟩, ⟨true, 1, (LI .i64 z)⟩)] (vI .i64 (runS ch fr xs z).2) [(⟨0, 0⟩, [.d (.int .i64 ch)]), (⟨0, 1⟩, [.d (.int .i64 fr)]), (⟨0, 2⟩, [.arr ⟨0, 3⟩ q])] [(⟨0, 3⟩, ⟨true, 1, (LI .i64 (runS ch fr xs z).1)⟩)] := by
  refine spec_of_E (X := ⟨Try.prog, tt, Try.f36.ntmps, 1, fun _ => 0, (tab [(37, E_sum1)])⟩) (M := []) (m := 266195) rfl rfl ⟨tt_ok, tab_ok (tabs_cons E_sum1_ok tabs_nil) _ rfl rfl⟩ tt_mixed Try.func36 rfl (by decide) (by show (2 : Nat) ≤ _; exact Nat.le_of_ble_eq_true rfl) ⟨by simp [V.has, C.has], by simp [C.has], by simp⟩ ?_
  simp only [↓gPre, gPost, gCore, gDef, Nat.reduceShiftRight, Nat.reduceMod, if_true, if_false, ↓reduceIte, reduceCtorEq, Nat.reduceEqDiff, Nat.reduceLT, Nat.reduceLeDiff, implies_true, forall_const, eq_self, ne_eq, not_true_eq_false, not_false_eq_true, imp_self, Nat.reduceAdd, Nat.reduceMul, Int.reduceLE, Int.reduceLT, Int.reduceNeg, Int.reduceAdd, Int.reduceToNat, E_sum1_eq, LX_nil, LX_length, LX_getD, LX_append, LX_one, LX_cells, LX_inj, LX_nil_eq, LX_inps_LX, LX_take, LX_drop, inps_LX, Try.ntmps36, Try.results36, gTT]
  refine ELoop_keep (fun g : Nat × List Int => ⟨[(10, vI .i64 (g.1 : Nat))], [], [(⟨0, 3⟩, ⟨true, 1, LI .i64 g.2⟩)]⟩) (fun g => g.1 ≤ xs.length ∧ runS ch fr (xs.drop g.1) g.2 = runS ch fr xs z ∧ g.2.length = z.length ∧ ∀ j : Nat, -((g.1 : Int) * 8388608) ≤ g.2[j]?.getD 0 ∧ g.2[j]?.getD 0 ≤ (g.1 : Int) * 8388608) (fun g => xs.length - g.1) (fun g => (g.1 + 1, addL g.2 (paO ch fr (xs[g.1]?.getD inp0)))) (0, z) ⟨Nat.zero_le _, rfl, rfl, fun j => by rw [hz j]; omega⟩ ?_ ?_
  · simp only [↓gPre, gPost, gCore, gDef, Nat.reduceShiftRight, Nat.reduceMod, if_true, if_false, ↓reduceIte, reduceCtorEq, Nat.reduceEqDiff, Nat.reduceLT, Nat.reduceLeDiff, implies_true, forall_const, eq_self, ne_eq, not_true_eq_false, not_false_eq_true, imp_self, Nat.reduceAdd, Nat.reduceMul, Int.reduceLE, Int.reduceLT, Int.reduceNeg, Int.reduceAdd, Int.reduceToNat, E_sum1_eq, LX_nil, LX_length, LX_getD, LX_append, LX_one, LX_cells, LX_inj, LX_nil_eq, LX_inps_LX, LX_take, LX_drop, inps_LX, Try.ntmps36, Try.results36, gTT]
    rfl
  rintro ⟨g, w⟩ ⟨hg, hr, hw, hb⟩
  simp only [↓gPre, gPost, gCore, gDef, Nat.reduceShiftRight, Nat.reduceMod, if_true, if_false, ↓reduceIte, reduceCtorEq, Nat.reduceEqDiff, Nat.reduceLT, Nat.reduceLeDiff, implies_true, forall_const, eq_self, ne_eq, not_true_eq_false, not_false_eq_true, imp_self, Nat.reduceAdd, Nat.reduceMul, Int.reduceLE, Int.reduceLT, Int.reduceNeg, Int.reduceAdd, Int.reduceToNat, E_sum1_eq, LX_nil, LX_length, LX_getD, LX_append, LX_one, LX_cells, LX_inj, LX_nil_eq, LX_inps_LX, LX_take, LX_drop, inps_LX, Try.ntmps36, Try.results36, gTT]
  replace hg : g ≤ xs.length := hg
  replace hr : runS ch fr (xs.drop g) w = runS ch fr xs z := hr
  replace hw : w.length = z.length := hw
  replace hb : ∀ j : Nat, -((g : Int) * 8388608) ≤ w[j]?.getD 0 ∧ w[j]?.getD 0 ≤ (g : Int) * 8388608 := hb
  refine ⟨fun h1 => ?_, fun h1 => ?_⟩
  · have hgl : g < xs.length := by have := of_decide_eq_true h1; omega
    have hgx : xs[g]?.getD inp0 = xs[g] := by rw [List.getElem?_eq_getElem hgl]; rfl
    rw [hgx]
    have hk2 := hk _ (List.getElem_mem hgl)
    rw [List.drop_eq_getElem_cons hgl] at hr
    generalize hX : xs[g] = x at *
    have hpl := paO_len (ch := ch) (x := x) hf hk2.1
    have hpi := paO_in ch fr x
    have hrun : runS ch fr (x :: xs.drop (g + 1)) w = if inE ch fr x = 0 then runS ch fr (xs.drop (g + 1)) (addL w (paO ch fr x)) else (addL w (paO ch fr x), inE ch fr x) := rfl
    rw [hrun] at hr
    rw [show Inp.mk x.c x.l x.a x.b x.m x.f x.t x.n x.i = x from rfl]
    refine ⟨by omega, ⟨hk2.1, hk2.2, hf, by omega, by omega, by omega, fun j => ?_⟩, fun h2 => ?_, fun h2 => ?_⟩
    · have := hb j; omega
    · have hne : inE ch fr x ≠ 0 := by simpa using h2
      rw [if_neg hne] at hr
      rw [← hr]
      exact ⟨rfl, rfl⟩
    · have he : inE ch fr x = 0 := by simpa using h2
      rw [if_pos he] at hr
      refine ⟨(wrapN _ (by omega)).symm, ⟨by omega, hr, by rw [addL_len]; exact hw, fun j => ?_⟩, by omega⟩
      rw [addL_get _ _ _ (by omega)]
      have h3 := hb j
      have h4 := hpi j
      omega
  · have : g = xs.length := by have := of_decide_eq_false h1; omega
    rw [this, List.drop_length] at hr
    rw [← hr]
    exact ⟨rfl, rfl⟩
def E_fold : List V → Boxes → Toks → Name → Option Ent
  | [.c (.fn 37 [(n0, 0), (n1, 0), (n2, 0)]), .c (.d (.list q_xs))], [(m0, [.d (.int .i64 ch)]), (m1, [.d (.int .i64 fr)]), (m2, [.arr n3 q])], [(j0, ⟨true, 1, q_z⟩)], _ => some ⟨0 ≤ fr ∧ (ints q_z).length = ch.toNat * fr.toNat ∧ q = (ints q_z).length ∧ (ints q_z).length ≤ 1000000 ∧ zerZ (ints q_z) ∧ keptI (inps q_xs) ∧ (inps q_xs).length ≤ 32 ∧ n0.lv ≤ 1 ∧ n1.lv ≤ 1 ∧ n2.lv ≤ 1 ∧ n3.lv ≤ 1 ∧ m0 = n0 ∧ m1 = n1 ∧ m2 = n2 ∧ j0 = n3 ∧ n1 ≠ n0 ∧ n2 ≠ n0 ∧ n2 ≠ n1 ∧ n3 ≠ n0 ∧ n3 ≠ n1 ∧ n3 ≠ n2 ∧ q_xs = LX (inps q_xs) ∧ q_z = LI .i64 (ints q_z), vI .i64 (runS ch fr (inps q_xs) (ints q_z)).2, [(n0, [.d (.int .i64 ch)]), (n1, [.d (.int .i64 fr)]), (n2, [.arr n3 q])], [(n3, ⟨true, 1, (LI .i64 (runS ch fr (inps q_xs) (ints q_z)).1)⟩)]⟩
  | _, _, _, _ => none
def E_fold_eq := And.intro (@E_fold.eq_1) (@E_fold.eq_1)
theorem E_fold_ok : Snd Try.prog 36 E_fold := by
  intro vs b k n e h hn hp
  unfold E_fold at h
  split at h
  · cases h; obtain ⟨hp0, hp1, hp2, hp3, hp4, hp5, hp6, hl0, hl1, hl2, hl3, rfl, rfl, rfl, rfl, hd10, hd20, hd21, hd30, hd31, hd32, hq0, hq1⟩ := hp; obtain ⟨_, rfl⟩ := LX_ex hq0; obtain ⟨_, rfl⟩ := LI_ex hq1; simp only [ints_LI, bys_LB, blks_LK, lls_LL, inps_LX] at hp0 hp1 hp2 hp3 hp4 hp5 hp6 ⊢; exact Spec.ren4 (spec_fold _ _ _ _ _ hp0 hp1 hp2 hp3 hp4 hp5 hp6) 0 1 2 3 (by simp [supOK, V.names, C.names, namesB, namesK]) hl0 hl1 hl2 hl3 hd10 hd20 hd21 hd30 hd31 hd32
  · cases h

end Go.Vam
