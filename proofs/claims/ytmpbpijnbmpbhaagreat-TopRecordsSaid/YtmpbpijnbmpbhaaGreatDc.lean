/- A part of the proof. Conditions: none. -/
import Derived.Test.YtmpbpijnbmpbhaaGreatDb
set_option linter.unusedVariables false
set_option linter.defProp false
set_option linter.unusedSimpArgs false
set_option maxRecDepth 40000
set_option maxHeartbeats 4000000
namespace Go.Vam
open Go.Proofs
def idxL (l : List Int) (v : Int) : Int := if v ∈ l then (l.idxOf v : Int) else -1
theorem idxL_at {l : List Int} {v : Int} {n : Nat} (hn : n < l.length) (h1 : v ∉ l.take n) (h2 : l[n] = v) : idxL l v = n := by
  have hm : v ∈ l := h2 ▸ List.getElem_mem hn
  unfold idxL
  rw [if_pos hm]
  have e : l = l.take n ++ l.drop n := (List.take_append_drop n l).symm
  have hd : l.drop n = v :: l.drop (n + 1) := by rw [List.drop_eq_getElem_cons hn, h2]
  have : l.idxOf v = n := by
    conv => lhs; rw [e, hd]
    rw [List.idxOf_append, if_neg h1, List.idxOf_cons_self, List.length_take]
    omega
  rw [this]
theorem idx_none {l : List Int} {v : Int} (h : v ∉ l) : idxL l v = -1 := by unfold idxL; rw [if_neg h]
theorem idx_in {l : List Int} {v : Int} (h : v ∈ l) : 0 ≤ idxL l v ∧ (idxL l v).toNat < l.length ∧ l[(idxL l v).toNat]? = some v := by
  unfold idxL
  rw [if_pos h]
  have h1 := List.idxOf_lt_length_of_mem h
  refine ⟨by omega, by omega, ?_⟩
  rw [Int.toNat_natCast, List.getElem?_eq_getElem h1, List.getElem_idxOf h1]
theorem idx_iff {l : List Int} {v : Int} : (decide (0 ≤ idxL l v) : Bool) = decide (v ∈ l) := by
  by_cases h : v ∈ l
  · rw [decide_eq_true (idx_in h).1, decide_eq_true h]
  · rw [idx_none h, decide_eq_false h]; rfl
theorem notin_take_succ {l : List Int} {v : Int} {n : Nat} (h : n < l.length) (h1 : v ∉ l.take n) (h2 : l[n] ≠ v) : v ∉ l.take (n + 1) := by
  rw [List.take_add_one, List.getElem?_eq_getElem h]
  simp only [Option.toList_some, List.mem_append, List.mem_singleton, not_or]
  exact ⟨h1, fun e => h2 e.symm⟩
def okC (m : List Int) (i : Nat) : Bool := !(decide (m[i]?.getD 0 < 1) || decide (8 < m[i]?.getD 0) || decide (m[i]?.getD 0 ∈ m.take i))
def chU (m : List Int) : Bool := (List.range m.length).all (okC m)
def chV (m : List Int) : Bool := decide (1 ≤ m.length) && decide (m.length ≤ 8) && chU m
def chP (m : List Int) (n : Nat) : Bool := (List.range n).all (okC m)
theorem chP_succ {m : List Int} {n : Nat} (h : chP m n = true) (h2 : okC m n = true) : chP m (n + 1) = true := by
  unfold chP at h ⊢
  rw [List.range_succ, List.all_append, h]
  simpa using h2
theorem chU_bad {m : List Int} {n : Nat} (h : n < m.length) (h2 : okC m n = false) : chU m = false := by
  unfold chU
  rw [List.all_eq_false]
  exact ⟨n, List.mem_range.2 h, by simp [h2]⟩
theorem chV_in {m : List Int} (h : chV m = true) : 1 ≤ m.length ∧ m.length ≤ 8 ∧ ∀ i, i < m.length → (1 ≤ m[i]?.getD 0 ∧ m[i]?.getD 0 ≤ 8) ∧ m[i]?.getD 0 ∉ m.take i := by
  simp only [chV, chU, Bool.and_eq_true, decide_eq_true_eq, List.all_eq_true, List.mem_range] at h
  refine ⟨h.1.1, h.1.2, fun i hi => ?_⟩
  have := h.2 i hi
  simp only [okC, Bool.not_eq_true', Bool.or_eq_false_iff, decide_eq_false_iff_not] at this
  exact ⟨by omega, this.2⟩
def heirsL (p : Int) : List (List Int) := if p = 3 then [[1, 2]] else if p = 1 then [[3]] else if p = 2 then [[3]] else if p = 5 then [[7], [1], [3]] else if p = 6 then [[8], [2], [3]] else if p = 7 then [[5], [1], [3]] else if p = 8 then [[6], [2], [3]] else []
def common (a b : List Int) : List Int := a.filter fun p => decide (p ∈ b)
def qual (to l : List Int) : Bool := l.all fun p => decide (p ∈ to)
theorem common_lt (l to : List Int) : decide (((common l to).length : Int) < l.length) = !qual to l := by
  unfold common qual
  by_cases h : l.all (fun p => decide (p ∈ to)) = true
  · rw [h]
    have : l.filter (fun p => decide (p ∈ to)) = l := List.filter_eq_self.2 (List.all_eq_true.1 h)
    rw [this]; simp
  · have h' : l.all (fun p => decide (p ∈ to)) = false := by simpa using h
    rw [h']
    have h1 := List.length_filter_le (fun p => decide (p ∈ to)) l
    have h2 : (l.filter fun p => decide (p ∈ to)).length ≠ l.length := by
      intro e
      have := List.length_filter_eq_length_iff.1 e
      rw [← List.all_eq_true] at this
      exact h this
    simp only [Bool.not_false, decide_eq_true_eq]
    omega
def setC (A : Nat) (to : List Int) (c : Nat) (v : Int) (M : List Int) (q : Int) : List Int := M.set ((idxL to q).toNat * A + c) v
def colM (A : Nat) (to : List Int) (c : Nat) (p : Int) (M : List Int) : List Int :=
  if p ∈ to then setC A to c 32768 M p else match (heirsL p).find? (qual to) with
    | some l => l.foldl (setC A to c 23170) M
    | none => M
def dfM (A : Nat) (fr to : List Int) : Nat → List Int
  | 0 => List.replicate (A * to.length) 0
  | n + 1 => colM A to n (fr[n]?.getD 0) (dfM A fr to n)
theorem fold_len (A : Nat) (to : List Int) (c : Nat) (v : Int) : ∀ (l M : List Int), (l.foldl (setC A to c v) M).length = M.length
  | [], M => rfl
  | q :: l, M => by rw [List.foldl_cons, fold_len A to c v l]; simp [setC]
theorem colM_len (A : Nat) (to : List Int) (c : Nat) (p : Int) (M : List Int) : (colM A to c p M).length = M.length := by
  unfold colM
  split
  · simp [setC]
  · split
    · exact fold_len ..
    · rfl
theorem dfM_len (A : Nat) (fr to : List Int) : ∀ n, (dfM A fr to n).length = A * to.length
  | 0 => by simp [dfM]
  | n + 1 => by show (colM _ _ _ _ _).length = _; rw [colM_len, dfM_len A fr to n]
theorem colM_in {A : Nat} {to : List Int} {c : Nat} {p : Int} {M : List Int} (h : p ∈ to) : colM A to c p M = setC A to c 32768 M p := by unfold colM; rw [if_pos h]
theorem colM_some {A : Nat} {to : List Int} {c : Nat} {p : Int} {M l : List Int} (h : p ∉ to) (hf : (heirsL p).find? (qual to) = some l) : colM A to c p M = l.foldl (setC A to c 23170) M := by unfold colM; rw [if_neg h, hf]
theorem colM_none {A : Nat} {to : List Int} {c : Nat} {p : Int} {M : List Int} (h : p ∉ to) (hf : (heirsL p).find? (qual to) = none) : colM A to c p M = M := by unfold colM; rw [if_neg h, hf]
theorem find_at {l : List (List Int)} {f : List Int → Bool} {n : Nat} (hn : n < l.length) (h1 : ∀ i, i < n → f (l[i]?.getD []) = false) (h2 : f l[n] = true) : l.find? f = some l[n] := by
  have e : l = l.take n ++ l.drop n := (List.take_append_drop n l).symm
  have hd : l.drop n = l[n] :: l.drop (n + 1) := List.drop_eq_getElem_cons hn
  have hnone : (l.take n).find? f = none := by
    rw [List.find?_eq_none]
    intro x hx
    obtain ⟨i, hi, rfl⟩ := List.mem_iff_getElem.1 hx
    rw [List.length_take] at hi
    have := h1 i (by omega)
    rw [List.getElem?_eq_getElem (by omega)] at this
    rw [List.getElem_take]
    simpa using this
  conv => lhs; rw [e, hd]
  rw [List.find?_append, hnone, List.find?_cons_of_pos h2]
  rfl
theorem find_no {l : List (List Int)} {f : List Int → Bool} (h1 : ∀ i, i < l.length → f (l[i]?.getD []) = false) : l.find? f = none := by
  rw [List.find?_eq_none]
  intro x hx
  obtain ⟨i, hi, rfl⟩ := List.mem_iff_getElem.1 hx
  have := h1 i hi
  rw [List.getElem?_eq_getElem hi] at this
  simpa using this
def dfE (fr to : List Int) : Int := if (!chV fr || !chV to) = true then 1 else 0
def dfN (fr to l : List Int) : Int := if dfE fr to = 0 then (l.length : Int) else 0
def dfO (fr to : List Int) : List Int := if dfE fr to = 0 then dfM fr.length fr to fr.length else []
theorem cell_lt {A B i g : Nat} (hg : g < A) (hi : i < B) : i * A + g < A * B := by
  have : (i + 1) * A ≤ B * A := Nat.mul_le_mul_right _ hi
  rw [Nat.add_mul, Nat.one_mul, Nat.mul_comm B] at this
  omega
theorem heirs_len (p : Int) : (heirsL p).length ≤ 3 := by
  unfold heirsL
  repeat' split
  all_goals decide
theorem heirs_each (p : Int) : ∀ l ∈ heirsL p, l.length ≤ 2 := by
  unfold heirsL
  repeat' split
  all_goals decide
theorem spec_sidx (l : List Int) (v : Int) (hl : l.length ≤ 1000000) : Spec Tryz.prog 0 129 [vL (LI .i64 l), vI .i64 v] [] [] (vI .i64 (idxL l v)) [] [] := by
  refine sE (md := fun _ => 0) (L := []) [] 66483 tabs_nil Tryz.func129 rfl rfl rfl ?_
  simp (maxSteps := 1000000) only [↓gPre, gPost, gCore, gDef, gSt, gS0, Nat.reduceShiftRight, Nat.reduceMod, ↓reduceIte, reduceCtorEq, Nat.reduceEqDiff, Nat.reduceLT, Nat.reduceLeDiff, Nat.reduceAdd, Nat.reduceMul, Int.reduceLE, Int.reduceLT, Int.reduceNeg, Int.reduceAdd, Int.reduceToNat, gE1, Tryz.ntmps129, Tryz.results129, gTT]
  refine ELoop_keep (fun n => ⟨[(8, vI .i64 (n : Nat))], [], []⟩) (fun n => n ≤ l.length ∧ v ∉ l.take n) (fun n => l.length - n) (· + 1) 0 ⟨Nat.zero_le _, by simp⟩ ?_ ?_
  · simp (maxSteps := 1000000) only [↓gPre, gPost, gCore, gDef, gSt, gS0, Nat.reduceShiftRight, Nat.reduceMod, ↓reduceIte, reduceCtorEq, Nat.reduceEqDiff, Nat.reduceLT, Nat.reduceLeDiff, Nat.reduceAdd, Nat.reduceMul, Int.reduceLE, Int.reduceLT, Int.reduceNeg, Int.reduceAdd, Int.reduceToNat, gE1, Tryz.ntmps129, Tryz.results129, gTT]
    rfl
  rintro n ⟨hn, hnot⟩
  simp (maxSteps := 1000000) only [↓gPre, gPost, gCore, gDef, gSt, gS0, Nat.reduceShiftRight, Nat.reduceMod, ↓reduceIte, reduceCtorEq, Nat.reduceEqDiff, Nat.reduceLT, Nat.reduceLeDiff, Nat.reduceAdd, Nat.reduceMul, Int.reduceLE, Int.reduceLT, Int.reduceNeg, Int.reduceAdd, Int.reduceToNat, gE1, Tryz.ntmps129, Tryz.results129, gTT]
  refine ⟨fun h1 => ?_, fun h1 => ?_⟩
  · have hlt : n < l.length := by have := of_decide_eq_true h1; omega
    have hg : l[n]?.getD 0 = l[n] := by rw [List.getElem?_eq_getElem hlt]; rfl
    rw [hg]
    refine ⟨by omega, fun h2 => ?_, fun h2 => ?_⟩
    · rw [idxL_at hlt hnot (beq_iff_eq.1 h2).symm]
    · exact ⟨(wrapN _ (by omega)).symm, ⟨by omega, notin_take_succ hlt hnot (fun e => (beq_eq_false_iff_ne.1 h2) e.symm)⟩, by omega⟩
  · have : n = l.length := by have := of_decide_eq_false h1; omega
    rw [this, List.take_length] at hnot
    rw [idx_none hnot]
def E_sidx : List V → Boxes → Toks → Name → Option Ent
  | [.c (.d (.list q_l)), .c (.d (.int .i64 v))], [], [], _ => some ⟨(ints q_l).length ≤ 1000000 ∧ q_l = LI .i64 (ints q_l), vI .i64 (idxL (ints q_l) v), [], []⟩
  | _, _, _, _ => none
def E_sidx_eq := And.intro (@E_sidx.eq_1) (@E_sidx.eq_1)
theorem E_sidx_ok : Snd Tryz.prog 129 E_sidx := by
  intro vs b k n e h hn hp
  unfold E_sidx at h
  split at h
  · cases h; obtain ⟨hp0, hq0⟩ := hp; obtain ⟨_, rfl⟩ := LI_ex hq0; simp only [ints_LI, bys_LB, blks_LK, lls_LL] at hp0 ⊢; exact (spec_sidx _ _ hp0).lift rfl _
  · cases h
theorem spec_contains (l : List Int) (v : Int) (hl : l.length ≤ 1000000) : Spec Tryz.prog 0 51 [vL (LI .i64 l), vI .i64 v] [] [] (vB (decide (v ∈ l))) [] [] := by
  refine sE (md := fun _ => 0) (L := [(129, E_sidx)]) [] 19 (tabs_cons E_sidx_ok tabs_nil) Tryz.func51 rfl rfl rfl ?_
  simp (maxSteps := 1000000) only [↓gPre, gPost, gCore, gDef, gSt, gS0, Nat.reduceShiftRight, Nat.reduceMod, ↓reduceIte, reduceCtorEq, Nat.reduceEqDiff, Nat.reduceLT, Nat.reduceLeDiff, Nat.reduceAdd, Nat.reduceMul, Int.reduceLE, Int.reduceLT, Int.reduceNeg, Int.reduceAdd, Int.reduceToNat, E_sidx_eq, gE1, Tryz.ntmps51, Tryz.results51, gTT]
  exact ⟨hl, idx_iff.symm⟩
def E_contains : List V → Boxes → Toks → Name → Option Ent
  | [.c (.d (.list q_l)), .c (.d (.int .i64 v))], [], [], _ => some ⟨(ints q_l).length ≤ 1000000 ∧ q_l = LI .i64 (ints q_l), vB (decide (v ∈ (ints q_l))), [], []⟩
  | _, _, _, _ => none
def E_contains_eq := And.intro (@E_contains.eq_1) (@E_contains.eq_1)
theorem E_contains_ok : Snd Tryz.prog 51 E_contains := by
  intro vs b k n e h hn hp
  unfold E_contains at h
  split at h
  · cases h; obtain ⟨hp0, hq0⟩ := hp; obtain ⟨_, rfl⟩ := LI_ex hq0; simp only [ints_LI, bys_LB, blks_LK, lls_LL] at hp0 ⊢; exact (spec_contains _ _ hp0).lift rfl _
  · cases h
theorem spec_cidx (l : List Int) (v : Int) (hl : l.length ≤ 1000000) : Spec Tryz.prog 0 83 [vL (LI .i64 l), vI .i64 v] [] [] (vI .i64 (idxL l v)) [] [] := by
  refine sE (md := fun _ => 0) (L := [(129, E_sidx)]) [] 19 (tabs_cons E_sidx_ok tabs_nil) Tryz.func83 rfl rfl rfl ?_
  simp (maxSteps := 1000000) only [↓gPre, gPost, gCore, gDef, gSt, gS0, Nat.reduceShiftRight, Nat.reduceMod, ↓reduceIte, reduceCtorEq, Nat.reduceEqDiff, Nat.reduceLT, Nat.reduceLeDiff, Nat.reduceAdd, Nat.reduceMul, Int.reduceLE, Int.reduceLT, Int.reduceNeg, Int.reduceAdd, Int.reduceToNat, E_sidx_eq, gE1, Tryz.ntmps83, Tryz.results83, gTT]
  exact hl
def E_cidx : List V → Boxes → Toks → Name → Option Ent
  | [.c (.d (.list q_l)), .c (.d (.int .i64 v))], [], [], _ => some ⟨(ints q_l).length ≤ 1000000 ∧ q_l = LI .i64 (ints q_l), vI .i64 (idxL (ints q_l) v), [], []⟩
  | _, _, _, _ => none
def E_cidx_eq := And.intro (@E_cidx.eq_1) (@E_cidx.eq_1)
theorem E_cidx_ok : Snd Tryz.prog 83 E_cidx := by
  intro vs b k n e h hn hp
  unfold E_cidx at h
  split at h
  · cases h; obtain ⟨hp0, hq0⟩ := hp; obtain ⟨_, rfl⟩ := LI_ex hq0; simp only [ints_LI, bys_LB, blks_LK, lls_LL] at hp0 ⊢; exact (spec_cidx _ _ hp0).lift rfl _
  · cases h
theorem spec_cvalid (m : List Int) (hl : m.length ≤ 1000000) : Spec Tryz.prog 0 80 [vL (LI .i64 m)] [] [] (vB (chV m)) [] [] := by
  refine sE (md := fun _ => 0) (L := [(51, E_contains)]) [(6, [0, 0, 0, 0, 0, 8556507165, 0, 0, 0, 0, 0, 6509686813, 0])] 4295094301 (tabs_cons E_contains_ok tabs_nil) Tryz.func80 rfl rfl rfl ?_
  simp (maxSteps := 1000000) only [↓gPre, gPost, gCore, gDef, gSt, gS0, Nat.reduceShiftRight, Nat.reduceMod, ↓reduceIte, reduceCtorEq, Nat.reduceEqDiff, Nat.reduceLT, Nat.reduceLeDiff, Nat.reduceAdd, Nat.reduceMul, Int.reduceLE, Int.reduceLT, Int.reduceNeg, Int.reduceAdd, Int.reduceToNat, E_contains_eq, gE1, Tryz.ntmps80, Tryz.results80, gTT]
  refine ⟨fun h => ?_, fun h => ?_⟩
  · have : (decide (1 ≤ m.length) && decide (m.length ≤ 8)) = false := by
      simp only [Bool.or_eq_true, decide_eq_true_eq] at h
      simp only [Bool.and_eq_false_iff, decide_eq_false_iff_not]
      omega
    simp [chV, this]
  have hlen : 1 ≤ m.length ∧ m.length ≤ 8 := by
    simp only [Bool.or_eq_false_iff, decide_eq_false_iff_not] at h
    omega
  refine ELoop_keep (fun n => ⟨[(15, vI .i64 (n : Nat))], [], []⟩) (fun n => n ≤ m.length ∧ chP m n = true) (fun n => m.length - n) (· + 1) 0 ⟨Nat.zero_le _, rfl⟩ ?_ ?_
  · simp (maxSteps := 1000000) only [↓gPre, gPost, gCore, gDef, gSt, gS0, Nat.reduceShiftRight, Nat.reduceMod, ↓reduceIte, reduceCtorEq, Nat.reduceEqDiff, Nat.reduceLT, Nat.reduceLeDiff, Nat.reduceAdd, Nat.reduceMul, Int.reduceLE, Int.reduceLT, Int.reduceNeg, Int.reduceAdd, Int.reduceToNat, E_contains_eq, gE1, Tryz.ntmps80, Tryz.results80, gTT]
    rfl
  rintro n ⟨hn, hok⟩
  simp (maxSteps := 1000000) only [↓gPre, gPost, gCore, gDef, gSt, gS0, Nat.reduceShiftRight, Nat.reduceMod, ↓reduceIte, reduceCtorEq, Nat.reduceEqDiff, Nat.reduceLT, Nat.reduceLeDiff, Nat.reduceAdd, Nat.reduceMul, Int.reduceLE, Int.reduceLT, Int.reduceNeg, Int.reduceAdd, Int.reduceToNat, E_contains_eq, gE1, Tryz.ntmps80, Tryz.results80, gTT]
  refine ⟨fun h1 => ?_, fun h1 => ?_⟩
  · have hlt : n < m.length := by have := of_decide_eq_true h1; omega
    have hg : m[n]?.getD 0 = m[n] := by rw [List.getElem?_eq_getElem hlt]; rfl
    have hn0 : n - 0 = n := rfl
    simp only [hg, hn0]
    refine ⟨by omega, fun _ => by omega, fun _ => by simp only [List.length_take]; omega, fun h2 => ?_, fun h2 => ?_⟩
    · have : chU m = false := chU_bad hlt (by unfold okC; rw [hg, h2]; rfl)
      simp [chV, this]
    · exact ⟨(wrapN _ (by omega)).symm, ⟨by omega, chP_succ hok (by unfold okC; rw [hg, h2]; rfl)⟩, by omega⟩
  · have : n = m.length := by have := of_decide_eq_false h1; omega
    rw [this] at hok
    have hu : chU m = true := hok
    simp [chV, hlen.1, hlen.2, hu]
def E_cvalid : List V → Boxes → Toks → Name → Option Ent
  | [.c (.d (.list q_m))], [], [], _ => some ⟨(ints q_m).length ≤ 1000000 ∧ q_m = LI .i64 (ints q_m), vB (chV (ints q_m)), [], []⟩
  | _, _, _, _ => none
def E_cvalid_eq := And.intro (@E_cvalid.eq_1) (@E_cvalid.eq_1)
theorem E_cvalid_ok : Snd Tryz.prog 80 E_cvalid := by
  intro vs b k n e h hn hp
  unfold E_cvalid at h
  split at h
  · cases h; obtain ⟨hp0, hq0⟩ := hp; obtain ⟨_, rfl⟩ := LI_ex hq0; simp only [ints_LI, bys_LB, blks_LK, lls_LL] at hp0 ⊢; exact (spec_cvalid _ hp0).lift rfl _
  · cases h
theorem spec_heirs (p : Int) : Spec Tryz.prog 0 84 [vI .i64 p] [] [] (vL (LL .i64 (heirsL p))) [] [] := by
  refine sE (md := fun _ => 0) (L := []) [] 2181570845 tabs_nil Tryz.func84 rfl rfl rfl ?_
  simp (maxSteps := 1000000) only [↓gPre, gPost, gCore, gDef, gSt, gS0, Nat.reduceShiftRight, Nat.reduceMod, ↓reduceIte, reduceCtorEq, Nat.reduceEqDiff, Nat.reduceLT, Nat.reduceLeDiff, Nat.reduceAdd, Nat.reduceMul, Int.reduceLE, Int.reduceLT, Int.reduceNeg, Int.reduceAdd, Int.reduceToNat, gE1, Tryz.ntmps84, Tryz.results84, gTT]
  have key : p = 3 ∨ p = 1 ∨ p = 2 ∨ p = 5 ∨ p = 6 ∨ p = 7 ∨ p = 8 ∨ (p ≠ 3 ∧ p ≠ 1 ∧ p ≠ 2 ∧ p ≠ 5 ∧ p ≠ 6 ∧ p ≠ 7 ∧ p ≠ 8) := by omega
  rcases key with rfl | rfl | rfl | rfl | rfl | rfl | rfl | ⟨h3, h1, h2, h5, h6, h7, h8⟩
  all_goals first
    | (simp [heirsL, LL, LI]; done)
    | simp [heirsL, LL, LI, h3, h1, h2, h5, h6, h7, h8]
def E_heirs : List V → Boxes → Toks → Name → Option Ent
  | [.c (.d (.int .i64 p))], [], [], _ => some ⟨True, vL (LL .i64 (heirsL p)), [], []⟩
  | _, _, _, _ => none
def E_heirs_eq := And.intro (@E_heirs.eq_1) (@E_heirs.eq_1)
theorem E_heirs_ok : Snd Tryz.prog 84 E_heirs := by
  intro vs b k n e h hn hp
  unfold E_heirs at h
  split at h
  · cases h; exact (spec_heirs _).lift rfl _
  · cases h
theorem spec_common (a b : List Int) (ha : a.length ≤ 1000000) (hb : b.length ≤ 1000000) : Spec Tryz.prog 0 85 [vL (LI .i64 a), vL (LI .i64 b)] [] [] (vL (LI .i64 (common a b))) [] [] := by
  refine sE (md := fun _ => 0) (L := [(51, E_contains)]) [] 69555 (tabs_cons E_contains_ok tabs_nil) Tryz.func85 rfl rfl rfl ?_
  simp (maxSteps := 1000000) only [↓gPre, gPost, gCore, gDef, gSt, gS0, Nat.reduceShiftRight, Nat.reduceMod, ↓reduceIte, reduceCtorEq, Nat.reduceEqDiff, Nat.reduceLT, Nat.reduceLeDiff, Nat.reduceAdd, Nat.reduceMul, Int.reduceLE, Int.reduceLT, Int.reduceNeg, Int.reduceAdd, Int.reduceToNat, E_contains_eq, gE1, Tryz.ntmps85, Tryz.results85, gTT]
  refine ELoop_nilT 5 1 ⟨1, 99⟩ rfl (by simp (maxSteps := 1000000) only [↓gPre, gPost, gCore, gDef, gSt, gS0, Nat.reduceShiftRight, Nat.reduceMod, ↓reduceIte, reduceCtorEq, Nat.reduceEqDiff, Nat.reduceLT, Nat.reduceLeDiff, Nat.reduceAdd, Nat.reduceMul, Int.reduceLE, Int.reduceLT, Int.reduceNeg, Int.reduceAdd, Int.reduceToNat, E_contains_eq, gE1, Tryz.ntmps85, Tryz.results85, gTT]) (Nat.le_refl _) ?_
  simp (maxSteps := 1000000) only [↓gPre, gPost, gCore, gDef, gSt, gS0, Nat.reduceShiftRight, Nat.reduceMod, ↓reduceIte, reduceCtorEq, Nat.reduceEqDiff, Nat.reduceLT, Nat.reduceLeDiff, Nat.reduceAdd, Nat.reduceMul, Int.reduceLE, Int.reduceLT, Int.reduceNeg, Int.reduceAdd, Int.reduceToNat, E_contains_eq, gE1, Tryz.ntmps85, Tryz.results85, gTT]
  refine ELoop_keep (fun n => ⟨[(10, vI .i64 (n : Nat)), (5, .c (.own ⟨1, 99⟩ (LI .i64 (common (a.take n) b))))], [], [(⟨1, 99⟩, ⟨false, 1, LI .i64 (common (a.take n) b)⟩)]⟩) (fun n => n ≤ a.length) (fun n => a.length - n) (· + 1) 0 (Nat.zero_le _) ?_ ?_
  · simp (maxSteps := 1000000) only [↓gPre, gPost, gCore, gDef, gSt, gS0, Nat.reduceShiftRight, Nat.reduceMod, ↓reduceIte, reduceCtorEq, Nat.reduceEqDiff, Nat.reduceLT, Nat.reduceLeDiff, Nat.reduceAdd, Nat.reduceMul, Int.reduceLE, Int.reduceLT, Int.reduceNeg, Int.reduceAdd, Int.reduceToNat, E_contains_eq, gE1, Tryz.ntmps85, Tryz.results85, gTT]
    exact ⟨⟨rfl, rfl⟩, rfl⟩
  intro n hn
  simp (maxSteps := 1000000) only [↓gPre, gPost, gCore, gDef, gSt, gS0, Nat.reduceShiftRight, Nat.reduceMod, ↓reduceIte, reduceCtorEq, Nat.reduceEqDiff, Nat.reduceLT, Nat.reduceLeDiff, Nat.reduceAdd, Nat.reduceMul, Int.reduceLE, Int.reduceLT, Int.reduceNeg, Int.reduceAdd, Int.reduceToNat, E_contains_eq, gE1, Tryz.ntmps85, Tryz.results85, gTT]
  have hcl : (common (a.take n) b).length ≤ n := by
    unfold common
    have := List.length_filter_le (fun p => decide (p ∈ b)) (a.take n)
    rw [List.length_take] at this
    omega
  refine ⟨fun h1 => ?_, fun h1 => ?_⟩
  · have hlt : n < a.length := by have := of_decide_eq_true h1; omega
    have hs : common (a.take (n + 1)) b = common (a.take n) b ++ (if a[n] ∈ b then [a[n]] else []) := by
      unfold common
      rw [List.take_add_one, List.getElem?_eq_getElem hlt, List.filter_append]
      congr 1
      simp only [Option.toList_some, List.filter_cons, List.filter_nil, decide_eq_true_eq]
    rw [List.getElem?_eq_getElem hlt, Option.getD_some, hs]
    refine ⟨by omega, hb, fun h2 => ?_, fun h2 => ?_⟩
    · rw [if_pos (of_decide_eq_true h2)]
      exact ⟨by unfold roomOK; omega, ⟨⟨(wrapN _ (by omega)).symm, rfl⟩, rfl⟩, by omega, by omega⟩
    · rw [if_neg (of_decide_eq_false h2), List.append_nil]
      exact ⟨⟨⟨(wrapN _ (by omega)).symm, rfl⟩, rfl⟩, by omega, by omega⟩
  · have : n = a.length := by have := of_decide_eq_false h1; omega
    rw [this, List.take_length]
def E_common : List V → Boxes → Toks → Name → Option Ent
  | [.c (.d (.list q_a)), .c (.d (.list q_b))], [], [], _ => some ⟨(ints q_a).length ≤ 1000000 ∧ (ints q_b).length ≤ 1000000 ∧ q_a = LI .i64 (ints q_a) ∧ q_b = LI .i64 (ints q_b), vL (LI .i64 (common (ints q_a) (ints q_b))), [], []⟩
  | _, _, _, _ => none
def E_common_eq := And.intro (@E_common.eq_1) (@E_common.eq_1)
theorem E_common_ok : Snd Tryz.prog 85 E_common := by
  intro vs b k n e h hn hp
  unfold E_common at h
  split at h
  · cases h; obtain ⟨hp0, hp1, hq0, hq1⟩ := hp; obtain ⟨_, rfl⟩ := LI_ex hq0; obtain ⟨_, rfl⟩ := LI_ex hq1; simp only [ints_LI, bys_LB, blks_LK, lls_LL] at hp0 hp1 ⊢; exact (spec_common _ _ hp0 hp1).lift rfl _
  · cases h
theorem spec_dflt (fr to : List Int) (hf : fr.length ≤ 1000000) (ht : to.length ≤ 1000000) : Spec Tryz.prog 0 29 [vL (LI .i64 fr), vL (LI .i64 to)] [] [] (.tup [.agg [.int .i64 (dfN fr to fr), .int .i64 (dfN fr to to), .list (LI .i64 (dfO fr to))], .int .i64 (dfE fr to)]) [] [] := by
  refine spec_of_E (X := ⟨Tryz.prog, tt, Tryz.f29.ntmps, 1, fun _ => 0, (tab [(80, E_cvalid), (81, E_empty), (82, E_rowsA), (83, E_cidx), (84, E_heirs), (85, E_common)])⟩) (M := [(1000022, [5002])]) (m := 142979159500114647027) rfl rfl ⟨tt_ok, tab_ok (tabs_cons E_cvalid_ok (tabs_cons E_empty_ok (tabs_cons E_rowsA_ok (tabs_cons E_cidx_ok (tabs_cons E_heirs_ok (tabs_cons E_common_ok tabs_nil)))))) _ rfl rfl⟩ tt_mixed Tryz.func29 rfl (by decide) (by show (2 : Nat) ≤ _; exact Nat.le_of_ble_eq_true rfl) ⟨by simp [V.has, C.has, smC_eq], by simp [C.has], by simp⟩ ?_
  simp (maxSteps := 1000000) only [↓gPre, gPost, gCore, gDef, gSt, gS0, Nat.reduceShiftRight, Nat.reduceMod, ↓reduceIte, reduceCtorEq, Nat.reduceEqDiff, Nat.reduceLT, Nat.reduceLeDiff, Nat.reduceAdd, Nat.reduceMul, Int.reduceLE, Int.reduceLT, Int.reduceNeg, Int.reduceAdd, Int.reduceToNat, E_cvalid_eq, E_empty_eq, E_rowsA_eq, E_cidx_eq, E_heirs_eq, E_common_eq, gE1, Tryz.ntmps29, Tryz.results29, gTT]
  refine ⟨hf, fun _ => ht, fun h => ?_, fun h => ?_⟩
  · have e : dfE fr to = 1 := by simp [dfE, h]
    simp [dfN, dfO, e, LI_nil]
  have e : dfE fr to = 0 := by simp [dfE, h]
  have eN : ∀ l, dfN fr to l = (l.length : Int) := fun l => by simp [dfN, e]
  have eO : dfO fr to = dfM fr.length fr to fr.length := by simp [dfO, e]
  simp only [Bool.or_eq_false_iff, Bool.not_eq_false'] at h
  have hF := chV_in h.1
  have hT := chV_in h.2
  rw [eN, eN, eO, e]
  refine ⟨by omega, ⟨by omega, by omega, by rw [← Int.natCast_mul, Int.toNat_natCast]⟩, ?_⟩
  rw [← Int.natCast_mul, Int.toNat_natCast]
  have hF8 : fr.length ≤ 8 := hF.2.1
  have hT8 : to.length ≤ 8 := hT.2.1
  refine ELoop_keep (fun g => ⟨[(33, vI .i64 (g : Nat))], [], [(⟨1, 28⟩, ⟨true, 1, LI .i64 (dfM fr.length fr to g)⟩)]⟩) (fun g => g ≤ fr.length) (fun g => fr.length - g) (· + 1) 0 (Nat.zero_le _) ?_ ?_
  · simp (maxSteps := 1000000) only [↓gPre, gPost, gCore, gDef, gSt, gS0, Nat.reduceShiftRight, Nat.reduceMod, ↓reduceIte, reduceCtorEq, Nat.reduceEqDiff, Nat.reduceLT, Nat.reduceLeDiff, Nat.reduceAdd, Nat.reduceMul, Int.reduceLE, Int.reduceLT, Int.reduceNeg, Int.reduceAdd, Int.reduceToNat, E_cvalid_eq, E_empty_eq, E_rowsA_eq, E_cidx_eq, E_heirs_eq, E_common_eq, gE1, Tryz.ntmps29, Tryz.results29, gTT]
    exact ⟨rfl, rfl⟩
  intro g hg
  simp (maxSteps := 1000000) only [↓gPre, gPost, gCore, gDef, gSt, gS0, Nat.reduceShiftRight, Nat.reduceMod, ↓reduceIte, reduceCtorEq, Nat.reduceEqDiff, Nat.reduceLT, Nat.reduceLeDiff, Nat.reduceAdd, Nat.reduceMul, Int.reduceLE, Int.reduceLT, Int.reduceNeg, Int.reduceAdd, Int.reduceToNat, E_cvalid_eq, E_empty_eq, E_rowsA_eq, E_cidx_eq, E_heirs_eq, E_common_eq, gE1, Tryz.ntmps29, Tryz.results29, gTT]
  have hlen := dfM_len fr.length fr to g
  refine ⟨fun h1 => ?_, fun h1 => ?_⟩
  · have hgl : g < fr.length := by have := of_decide_eq_true h1; omega
    generalize hp : fr[g]?.getD 0 = p
    generalize hM : dfM fr.length fr to g = M at *
    have hstep : dfM fr.length fr to (g + 1) = colM fr.length to g p M := by rw [← hp, ← hM]; rfl
    refine ⟨by omega, ht, fun h2 => ?_, fun h2 => ?_⟩
    · rw [idx_iff, decide_eq_true_eq] at h2
      have hi := idx_in h2
      have hb := cell_lt (A := fr.length) hgl hi.2.1
      rw [hstep, colM_in h2]
      exact ⟨by omega, by omega, by omega, ⟨(wrapN _ (by omega)).symm, rfl⟩, by omega, by omega⟩
    rw [idx_iff, decide_eq_false_iff_not] at h2
    have hl3 := heirs_len p
    have hl2 := heirs_each p
    generalize hh : heirsL p = H at *
    refine ELoop_keep (fun j => ⟨[(52, vI .i64 (j : Nat))], [], []⟩) (fun j => j ≤ H.length ∧ ∀ i, i < j → qual to (H[i]?.getD []) = false) (fun j => H.length - j) (· + 1) 0 ⟨Nat.zero_le _, fun i hi => absurd hi (Nat.not_lt_zero _)⟩ ?_ ?_
    · simp (maxSteps := 1000000) only [↓gPre, gPost, gCore, gDef, gSt, gS0, Nat.reduceShiftRight, Nat.reduceMod, ↓reduceIte, reduceCtorEq, Nat.reduceEqDiff, Nat.reduceLT, Nat.reduceLeDiff, Nat.reduceAdd, Nat.reduceMul, Int.reduceLE, Int.reduceLT, Int.reduceNeg, Int.reduceAdd, Int.reduceToNat, E_cvalid_eq, E_empty_eq, E_rowsA_eq, E_cidx_eq, E_heirs_eq, E_common_eq, gE1, Tryz.ntmps29, Tryz.results29, gTT]
      rfl
    rintro j ⟨hj, hno⟩
    simp (maxSteps := 1000000) only [↓gPre, gPost, gCore, gDef, gSt, gS0, Nat.reduceShiftRight, Nat.reduceMod, ↓reduceIte, reduceCtorEq, Nat.reduceEqDiff, Nat.reduceLT, Nat.reduceLeDiff, Nat.reduceAdd, Nat.reduceMul, Int.reduceLE, Int.reduceLT, Int.reduceNeg, Int.reduceAdd, Int.reduceToNat, E_cvalid_eq, E_empty_eq, E_rowsA_eq, E_cidx_eq, E_heirs_eq, E_common_eq, gE1, Tryz.ntmps29, Tryz.results29, gTT]
    refine ⟨fun h3 => ?_, fun h3 => ?_⟩
    · have hjl : j < H.length := by have := of_decide_eq_true h3; omega
      have hgj : H[j]?.getD [] = H[j] := by rw [List.getElem?_eq_getElem hjl]; rfl
      rw [hgj]
      have hl := hl2 _ (List.getElem_mem hjl)
      generalize hL : H[j] = L at *
      refine ⟨by omega, ⟨by omega, ht⟩, fun h4 => ?_, fun h4 => ?_⟩
      · rw [common_lt] at h4
        have h4' : qual to L = false := by simpa using h4
        refine ⟨(wrapN _ (by omega)).symm, ⟨by omega, fun i hi => ?_⟩, by omega⟩
        by_cases hij : i = j
        · rw [hij, hgj]; exact h4'
        · exact hno i (by omega)
      rw [common_lt] at h4
      have h4' : qual to L = true := by simpa using h4
      have hq : ∀ q ∈ L, q ∈ to := fun q hq => of_decide_eq_true (List.all_eq_true.1 h4' q hq)
      have hcol : colM fr.length to g p M = L.foldl (setC fr.length to g 23170) M := by
        refine colM_some h2 ?_
        rw [hh, ← hL]
        exact find_at hjl hno (hL ▸ h4')
      refine ELoop_keep (fun i => ⟨[(65, vI .i64 (i : Nat))], [], [(⟨1, 28⟩, ⟨true, 1, LI .i64 ((L.take i).foldl (setC fr.length to g 23170) M)⟩)]⟩) (fun i => i ≤ L.length) (fun i => L.length - i) (· + 1) 0 (Nat.zero_le _) ?_ ?_
      · simp (maxSteps := 1000000) only [↓gPre, gPost, gCore, gDef, gSt, gS0, Nat.reduceShiftRight, Nat.reduceMod, ↓reduceIte, reduceCtorEq, Nat.reduceEqDiff, Nat.reduceLT, Nat.reduceLeDiff, Nat.reduceAdd, Nat.reduceMul, Int.reduceLE, Int.reduceLT, Int.reduceNeg, Int.reduceAdd, Int.reduceToNat, E_cvalid_eq, E_empty_eq, E_rowsA_eq, E_cidx_eq, E_heirs_eq, E_common_eq, gE1, Tryz.ntmps29, Tryz.results29, gTT]
        exact ⟨rfl, rfl⟩
      intro i hi
      simp (maxSteps := 1000000) only [↓gPre, gPost, gCore, gDef, gSt, gS0, Nat.reduceShiftRight, Nat.reduceMod, ↓reduceIte, reduceCtorEq, Nat.reduceEqDiff, Nat.reduceLT, Nat.reduceLeDiff, Nat.reduceAdd, Nat.reduceMul, Int.reduceLE, Int.reduceLT, Int.reduceNeg, Int.reduceAdd, Int.reduceToNat, E_cvalid_eq, E_empty_eq, E_rowsA_eq, E_cidx_eq, E_heirs_eq, E_common_eq, gE1, Tryz.ntmps29, Tryz.results29, gTT]
      have hfl := fold_len fr.length to g 23170 (L.take i) M
      refine ⟨fun h5 => ?_, fun h5 => ?_⟩
      · have hil : i < L.length := by have := of_decide_eq_true h5; omega
        have hgi : L[i]?.getD 0 = L[i] := by rw [List.getElem?_eq_getElem hil]; rfl
        have hqi := idx_in (hq _ (List.getElem_mem hil))
        have hb := cell_lt (A := fr.length) hgl hqi.2.1
        have hf1 : (L.take (i + 1)).foldl (setC fr.length to g 23170) M = setC fr.length to g 23170 ((L.take i).foldl (setC fr.length to g 23170) M) L[i] := by
          rw [List.take_add_one, List.getElem?_eq_getElem hil, List.foldl_append]
          rfl
        rw [hgi, hf1]
        exact ⟨by omega, ht, by omega, by omega, by omega, ⟨(wrapN _ (by omega)).symm, rfl⟩, by omega, by omega⟩
      · have : i = L.length := by have := of_decide_eq_false h5; omega
        rw [this, List.take_length, ← hcol, hstep]
        exact ⟨⟨(wrapN _ (by omega)).symm, rfl⟩, by omega, by omega⟩
    · have : j = H.length := by have := of_decide_eq_false h3; omega
      rw [this] at hno
      rw [hstep, colM_none h2 (by rw [hh]; exact find_no hno)]
      exact ⟨⟨(wrapN _ (by omega)).symm, rfl⟩, by omega, by omega⟩
  · have : g = fr.length := by have := of_decide_eq_false h1; omega
    rw [this] at hlen ⊢
    exact ⟨hlen.symm, rfl⟩
def E_dflt : List V → Boxes → Toks → Name → Option Ent
  | [.c (.d (.list q_fr)), .c (.d (.list q_to))], [], [], _ => some ⟨(ints q_fr).length ≤ 1000000 ∧ (ints q_to).length ≤ 1000000 ∧ q_fr = LI .i64 (ints q_fr) ∧ q_to = LI .i64 (ints q_to), .tup [.agg [.int .i64 (dfN (ints q_fr) (ints q_to) (ints q_fr)), .int .i64 (dfN (ints q_fr) (ints q_to) (ints q_to)), .list (LI .i64 (dfO (ints q_fr) (ints q_to)))], .int .i64 (dfE (ints q_fr) (ints q_to))], [], []⟩
  | _, _, _, _ => none
def E_dflt_eq := And.intro (@E_dflt.eq_1) (@E_dflt.eq_1)
theorem E_dflt_ok : Snd Tryz.prog 29 E_dflt := by
  intro vs b k n e h hn hp
  unfold E_dflt at h
  split at h
  · cases h; obtain ⟨hp0, hp1, hq0, hq1⟩ := hp; obtain ⟨_, rfl⟩ := LI_ex hq0; obtain ⟨_, rfl⟩ := LI_ex hq1; simp only [ints_LI, bys_LB, blks_LK, lls_LL] at hp0 hp1 ⊢; exact (spec_dflt _ _ hp0 hp1).lift rfl _
  · cases h
end Go.Vam
