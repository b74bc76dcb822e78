/- The law MatrixColumns gives true. Conditions: none. -/
import Derived.Test.YtcjeioecbnopmaaMtxL
set_option linter.unusedVariables false
set_option linter.unusedSimpArgs false
set_option maxRecDepth 40000
set_option maxHeartbeats 4000000
namespace Go.Vam
open Go.Proofs

def colVal (to : List Int) (p : Int) (j : Nat) : Int := if p ∈ to then (if (j : Int) = idxL to p then 32768 else 0) else match (heirsL p).find? (qual to) with
  | some l => if l.any (fun q => decide (idxL to q = j)) = true then 23170 else 0
  | none => 0
theorem set_at (M : List Int) (i : Nat) (v : Int) (k : Nat) : atL (M.set i v) k = if k = i ∧ i < M.length then v else atL M k := by
  unfold atL
  rw [List.getElem?_set]
  by_cases h : i = k
  · subst h
    by_cases h2 : i < M.length
    · simp [h2]
    · simp [h2, List.getElem?_eq_none (Nat.le_of_not_lt h2)]
  · rw [if_neg h, if_neg (fun k' => h k'.1.symm)]
theorem cell_eq {A i j c c' : Nat} (hc : c < A) (hc' : c' < A) (h : i * A + c = j * A + c') : i = j ∧ c = c' := by
  have hA : 0 < A := by omega
  have e1 : (i * A + c) / A = i := by rw [Nat.add_comm, Nat.add_mul_div_right _ _ hA, Nat.div_eq_of_lt hc, Nat.zero_add]
  have e2 : (j * A + c') / A = j := by rw [Nat.add_comm, Nat.add_mul_div_right _ _ hA, Nat.div_eq_of_lt hc', Nat.zero_add]
  have : i = j := by rw [← e1, h, e2]
  subst this
  exact ⟨rfl, by omega⟩
theorem setC_at {A : Nat} {to : List Int} {c c' j : Nat} {v : Int} {M : List Int} {q : Int} (hq : q ∈ to) (hM : M.length = A * to.length) (hc : c < A) (hc' : c' < A) : atL (setC A to c v M q) (j * A + c') = if c' = c ∧ idxL to q = j then v else atL M (j * A + c') := by
  have hi := idx_in hq
  have hb := cell_lt (A := A) hc hi.2.1
  unfold setC
  rw [set_at]
  by_cases h : c' = c ∧ idxL to q = j
  · rw [if_pos h, if_pos ⟨by rw [h.1, h.2, Int.toNat_natCast], by omega⟩]
  · rw [if_neg h, if_neg]
    rintro ⟨h1, _⟩
    have := cell_eq hc' hc h1
    exact h ⟨this.2, by omega⟩
theorem fold_at {A : Nat} {to : List Int} {c c' j : Nat} {v : Int} (hc : c < A) (hc' : c' < A) : ∀ (l : List Int) (M : List Int), (∀ q ∈ l, q ∈ to) → M.length = A * to.length →
    atL (l.foldl (setC A to c v) M) (j * A + c') = if c' = c ∧ l.any (fun q => decide (idxL to q = j)) = true then v else atL M (j * A + c')
  | [], M, _, _ => by simp
  | q :: l, M, hq, hM => by
    rw [List.foldl_cons, fold_at hc hc' l _ (fun x hx => hq x (List.mem_cons_of_mem _ hx)) (by simp [setC, hM]), setC_at (hq q List.mem_cons_self) hM hc hc', List.any_cons]
    by_cases h1 : c' = c
    · by_cases h2 : idxL to q = j
      · simp [h1, h2]
      · simp [h1, h2]
    · simp [h1]
theorem colM_at {A : Nat} {to : List Int} {c c' j : Nat} {p : Int} {M : List Int} (hM : M.length = A * to.length) (hc : c < A) (hc' : c' < A) (h0 : atL M (j * A + c) = 0) : atL (colM A to c p M) (j * A + c') = if c' = c then colVal to p j else atL M (j * A + c') := by
  unfold colM colVal
  by_cases hp : p ∈ to
  · rw [if_pos hp, if_pos hp, setC_at hp hM hc hc']
    by_cases h1 : c' = c
    · subst h1
      by_cases h2 : idxL to p = j
      · simp [h2]
      · rw [if_neg (fun h => h2 h.2), if_pos rfl, if_neg (fun h => h2 h.symm), h0]
    · simp [h1]
  · rw [if_neg hp, if_neg hp]
    cases hf : (heirsL p).find? (qual to) with
    | none =>
      show atL M _ = if c' = c then 0 else _
      by_cases h1 : c' = c
      · subst h1; simp [h0]
      · simp [h1]
    | some l =>
      have hq : qual to l = true := List.find?_some hf
      show atL (l.foldl (setC A to c 23170) M) _ = if c' = c then _ else _
      rw [fold_at hc hc' l M (fun q hq' => of_decide_eq_true (List.all_eq_true.1 hq q hq')) hM]
      by_cases h1 : c' = c
      · subst h1; simp [h0]
      · simp [h1]
theorem dfM_at {A : Nat} {fr to : List Int} : ∀ n, n ≤ A → ∀ c j, c < A → j < to.length → atL (dfM A fr to n) (j * A + c) = if c < n then colVal to (fr[c]?.getD 0) j else 0
  | 0, _, c, j, hc, hj => by
    have : j * A + c < A * to.length := cell_lt hc hj
    show atL (List.replicate (A * to.length) 0) _ = _
    unfold atL
    rw [List.getElem?_replicate, if_pos this]; rfl
  | n + 1, hn, c, j, hc, hj => by
    have ih := dfM_at (A := A) (fr := fr) (to := to) n (by omega)
    show atL (colM A to n (fr[n]?.getD 0) (dfM A fr to n)) _ = _
    rw [colM_at (c := n) (c' := c) (j := j) (dfM_len A fr to n) (by omega) hc (by rw [ih n j (by omega) hj, if_neg (Nat.lt_irrefl n)] : atL (dfM A fr to n) (j * A + n) = 0)]
    by_cases h : c = n
    · subst h; simp
    · rw [if_neg h, ih c j hc hj]
      by_cases h2 : c < n
      · rw [if_pos h2, if_pos (by omega)]
      · rw [if_neg h2, if_neg (by omega)]
def cnt (f : Nat → Bool) : Nat → Nat
  | 0 => 0
  | n + 1 => cnt f n + (if f n = true then 1 else 0)
theorem cnt_le (f : Nat → Bool) : ∀ n, cnt f n ≤ n
  | 0 => Nat.le_refl _
  | n + 1 => by have := cnt_le f n; show cnt f n + _ ≤ n + 1; split <;> omega
theorem cnt_zero {f : Nat → Bool} : ∀ n, (∀ j, j < n → f j = false) → cnt f n = 0
  | 0, _ => rfl
  | n + 1, h => by show cnt f n + _ = 0; rw [cnt_zero n (fun j hj => h j (by omega)), h n (by omega)]; rfl
theorem cnt_one {f : Nat → Bool} {x : Nat} : ∀ n, (∀ j, j < n → f j = decide (j = x)) → cnt f n = if x < n then 1 else 0
  | 0, _ => rfl
  | n + 1, h => by
    show cnt f n + _ = _
    rw [cnt_one (x := x) n (fun j hj => h j (by omega)), h n (by omega)]
    by_cases e : n = x
    · subst e; simp
    · by_cases h2 : x < n
      · simp [e, h2, show x < n + 1 by omega]
      · simp [e, h2, show ¬ x < n + 1 by omega]
theorem cnt_or (f g h : Nat → Bool) : ∀ n, (∀ j, j < n → h j = true → f j = true ∨ g j = true) → cnt h n ≤ cnt f n + cnt g n
  | 0, _ => Nat.le_refl _
  | n + 1, hh => by
    have ih := cnt_or f g h n (fun j hj => hh j (by omega))
    show cnt h n + _ ≤ (cnt f n + _) + (cnt g n + _)
    have := hh n (by omega)
    cases hn : h n with
    | false => simp; omega
    | true =>
      rcases this hn with e | e
      · rw [e]; simp; omega
      · rw [e]; simp; omega
theorem cnt_any (to : List Int) (n : Nat) : ∀ l : List Int, cnt (fun j => l.any (fun q => decide (idxL to q = j))) n ≤ l.length
  | [] => Nat.le_of_eq (cnt_zero n (fun j _ => rfl))
  | q :: l => by
    have ih := cnt_any to n l
    have h1 : cnt (fun j => decide (idxL to q = (j : Int))) n ≤ 1 := by
      by_cases h : 0 ≤ idxL to q
      · rw [cnt_one (x := (idxL to q).toNat) n (fun j _ => by by_cases e : idxL to q = (j : Int) <;> simp [e] <;> omega)]
        split <;> omega
      · rw [cnt_zero n (fun j _ => decide_eq_false (by omega))]; omega
    have := cnt_or (fun j => decide (idxL to q = (j : Int))) (fun j => l.any (fun q => decide (idxL to q = j))) (fun j => (q :: l).any (fun q => decide (idxL to q = j))) n (fun j _ hj => by
      rw [List.any_cons, Bool.or_eq_true] at hj; exact hj)
    rw [List.length_cons]
    omega
theorem heirs_two (p : Int) : ∀ l ∈ heirsL p, l.length ≤ 1 ∨ p = 3 := by
  by_cases h : p = 3
  · exact fun _ _ => Or.inr h
  · intro l hl
    left
    revert l
    unfold heirsL
    rw [if_neg h]
    repeat' split
    all_goals decide
/-- How many ones and halves a column holds. -/
def colOne (to : List Int) (p : Int) (n : Nat) : Nat := cnt (fun j => colVal to p j == 32768) n
def colHalf (to : List Int) (p : Int) (n : Nat) : Nat := cnt (fun j => colVal to p j == 23170) n
theorem col_three (to : List Int) (p : Int) (j : Nat) : colVal to p j = 32768 ∨ colVal to p j = 23170 ∨ colVal to p j = 0 := by
  unfold colVal
  split
  · split
    · exact .inl rfl
    · exact .inr (.inr rfl)
  · split
    · split
      · exact .inr (.inl rfl)
      · exact .inr (.inr rfl)
    · exact .inr (.inr rfl)
theorem col_one_at {to : List Int} {p : Int} {j : Nat} (h : colVal to p j = 32768) : to[j]?.getD 0 = p := by
  unfold colVal at h
  split at h
  · rename_i hp
    split at h
    · rename_i hj
      have := (idx_in hp).2.2
      rw [← hj, Int.toNat_natCast] at this
      rw [this]; rfl
    · cases h
  · split at h
    · split at h <;> cases h
    · cases h
theorem col_in {to : List Int} {p : Int} (hp : p ∈ to) : colOne to p to.length = 1 ∧ colHalf to p to.length = 0 := by
  have hi := idx_in hp
  have hv : ∀ j : Nat, colVal to p j = if (j : Int) = idxL to p then 32768 else 0 := fun j => by unfold colVal; rw [if_pos hp]
  refine ⟨?_, cnt_zero _ fun j _ => ?_⟩
  · unfold colOne
    rw [cnt_one (x := (idxL to p).toNat) _ (fun j _ => by
      rw [hv]
      by_cases e : (j : Int) = idxL to p
      · rw [if_pos e, decide_eq_true (by omega : j = (idxL to p).toNat)]; rfl
      · rw [if_neg e, decide_eq_false (by omega : ¬ j = (idxL to p).toNat)]; rfl), if_pos hi.2.1]
  · rw [hv]; split <;> rfl
theorem col_out {to : List Int} {p : Int} (hp : p ∉ to) : colOne to p to.length = 0 ∧ colHalf to p to.length ≤ 2 ∧ (colHalf to p to.length = 2 → p = 3) := by
  unfold colOne colHalf
  have hv : ∀ j, colVal to p j = match (heirsL p).find? (qual to) with
    | some l => if l.any (fun q => decide (idxL to q = j)) = true then 23170 else 0
    | none => 0 := fun j => by unfold colVal; rw [if_neg hp]
  cases hf : (heirsL p).find? (qual to) with
  | none =>
    have hv2 : ∀ j, colVal to p j = 0 := fun j => by rw [hv, hf]
    rw [cnt_zero _ (fun j _ => by rw [hv2]; rfl), cnt_zero _ (fun j _ => by rw [hv2]; rfl)]
    exact ⟨rfl, by omega, fun h => by omega⟩
  | some l =>
    have hv2 : ∀ j, colVal to p j = if l.any (fun q => decide (idxL to q = j)) = true then 23170 else 0 := fun j => by rw [hv, hf]
    have h1 : cnt (fun j => colVal to p j == 23170) to.length = cnt (fun j => l.any (fun q => decide (idxL to q = j))) to.length := by
      congr 1
      funext j
      rw [hv2]
      cases l.any (fun q => decide (idxL to q = j)) <;> rfl
    rw [h1, cnt_zero _ (fun j _ => by rw [hv2]; split <;> rfl)]
    have hl := List.mem_of_find?_eq_some hf
    have h2 := cnt_any to to.length l
    have h3 := heirs_each p l hl
    have h4 := heirs_two p l hl
    exact ⟨rfl, by omega, fun h => by omega⟩

theorem apL_parts {A B : Nat} {M : List Int} {k : Int} {l : List Int} {q m : Nat} (hk : k.toNat = A) (hA : 0 < A) (hB : 0 < B) (hq : q ≤ m) (hm : m * A ≤ l.length) :
    apL A B M l (q * B) ++ apL A B M (cutK k l q m) ((m - q) * B) = apL A B M l (m * B) := by
  have e : m * B = q * B + (m - q) * B := by rw [← Nat.add_mul]; congr 1; omega
  rw [e]
  unfold apL
  rw [List.range_add, List.map_append, List.map_map]
  congr 1
  apply List.map_congr_left
  intro j hj
  rw [List.mem_range] at hj
  have hjB : j / B < m - q := Nat.div_lt_of_lt_mul (by rw [Nat.mul_comm]; exact hj)
  simp only [Function.comp_apply, apV]
  have e1 : (q * B + j) % B = j % B := by rw [Nat.add_comm, Nat.add_mul_mod_self_right]
  have e2 : (q * B + j) / B = q + j / B := by rw [Nat.add_comm, Nat.add_mul_div_right _ _ hB, Nat.add_comm]
  rw [e1, e2]
  congr 3
  refine dotN_congr A fun c hc => ⟨rfl, ?_⟩
  unfold atL
  have hcell := cell_lt hc hjB
  rw [cutK_get (by rw [hk, Nat.mul_comm (m - q) A]; exact hcell), hk, Nat.add_mul, Nat.add_assoc]

theorem spec_columns (a b : List Int) (s p : List UInt8) : Spec Try.prog 0 6 [vL (LI .i64 a), vL (LI .i64 b), vL (LB s), vL (LB p)] [] [] (vB true) [] [] := by
  refine spec_of_E (X := ⟨Try.prog, tt, Try.f6.ntmps, 1, fun _ => 0, (tab [(9, E_sane), (12, E_new), (15, E_mblock), (24, E_dflt), (16, E_apply), (20, E_same), (27, E_ridx), (28, E_mcut), (29, E_join)])⟩) (M := [(3, [0, 0, 0, 0, 0, 47978175772599626242757590386492993156622598535118607, 0, 0, 0, 0, 0, 47978175772599626242757590386492993156622361238175503, 0]), (8, [0, 0, 0, 0, 0, 47978175772599626242757590386795222305682700080512783, 0, 0, 0, 0, 0, 47978175772599626242757590386795077037573119617793807, 0, 0, 0, 0, 0, 47978175772599626242757590386788436209706584179212047, 0, 0, 0, 0, 0]), (28, [0, 0, 0, 0, 0, 47978175794900286370696483293412845585618555564457743, 0, 0, 0, 0, 0, 47978175794889482405546743497197883441832596923744015, 0, 0, 0, 0, 0, 47978175794377697725697652048148968032255217533714191, 0, 0, 0, 0, 0])]) (m := 47978175772599626242757590386492993156622052000530191) rfl rfl ⟨tt_ok, tab_ok (tabs_cons E_sane_ok (tabs_cons E_new_ok (tabs_cons E_mblock_ok (tabs_cons E_dflt_ok (tabs_cons E_apply_ok (tabs_cons E_same_ok (tabs_cons E_ridx_ok (tabs_cons E_mcut_ok (tabs_cons E_join_ok tabs_nil))))))))) _ rfl rfl⟩ tt_mixed Try.func6 rfl (by decide) (by show (4 : Nat) ≤ _; exact Nat.le_of_ble_eq_true rfl) ⟨fun m hm => (V.bare_has rfl m hm).elim, by simp, by simp⟩ ?_
  simp only [↓gPre, gPost, handV, V.bufs, buildArr, toCs, List.set_cons_succ, List.set_cons_zero, List.foldr_cons, List.foldr_nil, List.append_eq, Nat.reduceShiftRight, Nat.reduceMod, List.mem_cons, addB, addK, zeroOp, callSem, resName, keepsB, newB, V.pure, C.pure, V.ptrs, C.ptrs, C.bufs, appendSem, dstOk, lk, V.cells, Op.eff, partV, partD, cut, lay, zeroD, C.toDs, C.toD, V.toD, toDs, buildCells, List.flatMap_nil, List.flatMap_cons, List.all_nil, List.all_cons, List.map_nil, List.map_cons, List.zip_cons_cons, List.zip_nil_left, List.nil_append, List.append_nil, List.cons_append, List.drop_zero, List.drop_succ_cons, List.take_succ_cons, List.take_zero, List.length_cons, List.length_nil, List.getElem?_cons_succ, List.getElem?_cons_zero, Option.getD_some, Option.getD_none, Option.map_some, Option.map_none, Option.some.injEq, Option.isSome_none, Option.isSome_some, Option.toList_some, Option.toList_none, if_true, if_false, ↓reduceIte, reduceCtorEq, Nat.reduceEqDiff, Nat.reduceLT, Nat.reduceLeDiff, List.not_mem_nil, false_implies, implies_true, true_and, and_true, forall_const, Nat.succ_ne_self, Bool.false_eq_true, Bool.true_and, Bool.and_true, eq_self, ne_eq, not_true_eq_false, not_false_eq_true, or_true, true_or, and_self, imp_self, bne_self_eq_false, beq_self_eq_true, Bool.or_false, Bool.false_or, Bool.and_false, Bool.false_and, false_or, or_false, Nat.reduceAdd, Nat.reduceMul, beq_true, beq_false, Name.mk.injEq, decide_true, decide_false, Bool.or_true, Bool.true_or, Bool.or_self, Bool.not_eq_true', Bool.not_true, Bool.not_false, Bool.true_eq_false, Bool.cond_true_left, Bool.cond_false_right, Nat.zero_add, Int.reduceLE, Int.reduceLT, Int.reduceNeg, Int.reduceAdd, Int.reduceToNat, List.range_succ, List.range_zero, Int.toNat_natCast, List.mem_nil_iff, List.mem_append, E_sane_eq, E_new_eq, E_mblock_eq, E_dflt_eq, E_apply_eq, E_same_eq, E_ridx_eq, E_mcut_eq, E_join_eq, Try.ntmps6, Try.results6, tt_1, tt_2, tt_3, tt_4, tt_5, tt_6, tt_7, tt_8, tt_12, tt_15, tt_16, tt_17, tt_18, tt_19, tt_21, tt_22, tt_23, tt_24, tt_25, tt_26, tt_27, tt_28, tt_29, tt_30, tt_31, tt_32, tt_33, tt_34, tt_35, tt_36, tt_37, tt_38, tt_39, tt_41, tt_42, tt_44, tt_45, tt_46, tt_47, tt_48, tt_49, tt_50, tt_51, tt_52, tt_53, tt_54, tt_55, tt_56, tt_57, tt_58, tt_59, tt_60, tt_61, tt_62, tt_63, tt_64, tt_65, tt_66, tt_67, tt_68, tt_69, tt_70, tt_71, tt_72, tt_73, tt_74, tt_75, tt_78, tt_79, tt_80, tt_81, tt_82, tt_83, tt_84, tt_85, tt_86, tt_87, tt_88, tt_89, tt_90, tt_91]
  intro h0
  simp only [Bool.or_eq_false_iff, decide_eq_false_iff_not] at h0
  refine ⟨by omega, fun h => ?_, fun h => ?_⟩
  · have e : dfE a b = 1 := by
      unfold dfE at h ⊢
      split at h
      · rename_i h3; rw [if_pos h3]
      · simp at h
    simp [dfO, e]
  have e : dfE a b = 0 := by simpa using h
  have hch : chV a = true ∧ chV b = true := by
    unfold dfE at e
    split at e
    · cases e
    · rename_i h3; simpa using h3
  have hF := chV_in hch.1
  have hT := chV_in hch.2
  have eN : ∀ l, dfN a b l = (l.length : Int) := fun l => by simp [dfN, e]
  have eO : dfO a b = dfM a.length a b a.length := by simp [dfO, e]
  have hm8 : a.length * b.length ≤ 8 * 8 := Nat.mul_le_mul hF.2.1 hT.2.1
  have hA8 : a.length ≤ 8 := hF.2.1
  have hB8 : b.length ≤ 8 := hT.2.1
  have hml := dfM_len a.length a b a.length
  rw [eN, eN, eO, hml, ← Int.natCast_mul, IntWalk.i64_in ((a.length * b.length : Nat) : Int) (by omega)]
  simp only [bne_self_eq_false, Bool.or_self]
  refine ⟨fun h => absurd h (by decide), fun _ => ?_⟩
  have hat := dfM_at (A := a.length) (fr := a) (to := b) a.length (Nat.le_refl _)
  generalize hM : dfM a.length a b a.length = M at *
  refine ELoop_keep (fun g => ⟨[(81, vI .i64 (g : Nat))], [], []⟩) (fun g => g ≤ a.length) (fun g => a.length - g) (· + 1) 0 (Nat.zero_le _) ?_ ?_
  · simp only [↓gPre, gPost, handV, V.bufs, buildArr, toCs, List.set_cons_succ, List.set_cons_zero, List.foldr_cons, List.foldr_nil, List.append_eq, Nat.reduceShiftRight, Nat.reduceMod, List.mem_cons, addB, addK, zeroOp, callSem, resName, keepsB, newB, V.pure, C.pure, V.ptrs, C.ptrs, C.bufs, appendSem, dstOk, lk, V.cells, Op.eff, partV, partD, cut, lay, zeroD, C.toDs, C.toD, V.toD, toDs, buildCells, List.flatMap_nil, List.flatMap_cons, List.all_nil, List.all_cons, List.map_nil, List.map_cons, List.zip_cons_cons, List.zip_nil_left, List.nil_append, List.append_nil, List.cons_append, List.drop_zero, List.drop_succ_cons, List.take_succ_cons, List.take_zero, List.length_cons, List.length_nil, List.getElem?_cons_succ, List.getElem?_cons_zero, Option.getD_some, Option.getD_none, Option.map_some, Option.map_none, Option.some.injEq, Option.isSome_none, Option.isSome_some, Option.toList_some, Option.toList_none, if_true, if_false, ↓reduceIte, reduceCtorEq, Nat.reduceEqDiff, Nat.reduceLT, Nat.reduceLeDiff, List.not_mem_nil, false_implies, implies_true, true_and, and_true, forall_const, Nat.succ_ne_self, Bool.false_eq_true, Bool.true_and, Bool.and_true, eq_self, ne_eq, not_true_eq_false, not_false_eq_true, or_true, true_or, and_self, imp_self, bne_self_eq_false, beq_self_eq_true, Bool.or_false, Bool.false_or, Bool.and_false, Bool.false_and, false_or, or_false, Nat.reduceAdd, Nat.reduceMul, beq_true, beq_false, Name.mk.injEq, decide_true, decide_false, Bool.or_true, Bool.true_or, Bool.or_self, Bool.not_eq_true', Bool.not_true, Bool.not_false, Bool.true_eq_false, Bool.cond_true_left, Bool.cond_false_right, Nat.zero_add, Int.reduceLE, Int.reduceLT, Int.reduceNeg, Int.reduceAdd, Int.reduceToNat, List.range_succ, List.range_zero, Int.toNat_natCast, List.mem_nil_iff, List.mem_append, E_sane_eq, E_new_eq, E_mblock_eq, E_dflt_eq, E_apply_eq, E_same_eq, E_ridx_eq, E_mcut_eq, E_join_eq, Try.ntmps6, Try.results6, tt_1, tt_2, tt_3, tt_4, tt_5, tt_6, tt_7, tt_8, tt_12, tt_15, tt_16, tt_17, tt_18, tt_19, tt_21, tt_22, tt_23, tt_24, tt_25, tt_26, tt_27, tt_28, tt_29, tt_30, tt_31, tt_32, tt_33, tt_34, tt_35, tt_36, tt_37, tt_38, tt_39, tt_41, tt_42, tt_44, tt_45, tt_46, tt_47, tt_48, tt_49, tt_50, tt_51, tt_52, tt_53, tt_54, tt_55, tt_56, tt_57, tt_58, tt_59, tt_60, tt_61, tt_62, tt_63, tt_64, tt_65, tt_66, tt_67, tt_68, tt_69, tt_70, tt_71, tt_72, tt_73, tt_74, tt_75, tt_78, tt_79, tt_80, tt_81, tt_82, tt_83, tt_84, tt_85, tt_86, tt_87, tt_88, tt_89, tt_90, tt_91]
    rfl
  intro g hg
  simp only [↓gPre, gPost, handV, V.bufs, buildArr, toCs, List.set_cons_succ, List.set_cons_zero, List.foldr_cons, List.foldr_nil, List.append_eq, Nat.reduceShiftRight, Nat.reduceMod, List.mem_cons, addB, addK, zeroOp, callSem, resName, keepsB, newB, V.pure, C.pure, V.ptrs, C.ptrs, C.bufs, appendSem, dstOk, lk, V.cells, Op.eff, partV, partD, cut, lay, zeroD, C.toDs, C.toD, V.toD, toDs, buildCells, List.flatMap_nil, List.flatMap_cons, List.all_nil, List.all_cons, List.map_nil, List.map_cons, List.zip_cons_cons, List.zip_nil_left, List.nil_append, List.append_nil, List.cons_append, List.drop_zero, List.drop_succ_cons, List.take_succ_cons, List.take_zero, List.length_cons, List.length_nil, List.getElem?_cons_succ, List.getElem?_cons_zero, Option.getD_some, Option.getD_none, Option.map_some, Option.map_none, Option.some.injEq, Option.isSome_none, Option.isSome_some, Option.toList_some, Option.toList_none, if_true, if_false, ↓reduceIte, reduceCtorEq, Nat.reduceEqDiff, Nat.reduceLT, Nat.reduceLeDiff, List.not_mem_nil, false_implies, implies_true, true_and, and_true, forall_const, Nat.succ_ne_self, Bool.false_eq_true, Bool.true_and, Bool.and_true, eq_self, ne_eq, not_true_eq_false, not_false_eq_true, or_true, true_or, and_self, imp_self, bne_self_eq_false, beq_self_eq_true, Bool.or_false, Bool.false_or, Bool.and_false, Bool.false_and, false_or, or_false, Nat.reduceAdd, Nat.reduceMul, beq_true, beq_false, Name.mk.injEq, decide_true, decide_false, Bool.or_true, Bool.true_or, Bool.or_self, Bool.not_eq_true', Bool.not_true, Bool.not_false, Bool.true_eq_false, Bool.cond_true_left, Bool.cond_false_right, Nat.zero_add, Int.reduceLE, Int.reduceLT, Int.reduceNeg, Int.reduceAdd, Int.reduceToNat, List.range_succ, List.range_zero, Int.toNat_natCast, List.mem_nil_iff, List.mem_append, E_sane_eq, E_new_eq, E_mblock_eq, E_dflt_eq, E_apply_eq, E_same_eq, E_ridx_eq, E_mcut_eq, E_join_eq, Try.ntmps6, Try.results6, tt_1, tt_2, tt_3, tt_4, tt_5, tt_6, tt_7, tt_8, tt_12, tt_15, tt_16, tt_17, tt_18, tt_19, tt_21, tt_22, tt_23, tt_24, tt_25, tt_26, tt_27, tt_28, tt_29, tt_30, tt_31, tt_32, tt_33, tt_34, tt_35, tt_36, tt_37, tt_38, tt_39, tt_41, tt_42, tt_44, tt_45, tt_46, tt_47, tt_48, tt_49, tt_50, tt_51, tt_52, tt_53, tt_54, tt_55, tt_56, tt_57, tt_58, tt_59, tt_60, tt_61, tt_62, tt_63, tt_64, tt_65, tt_66, tt_67, tt_68, tt_69, tt_70, tt_71, tt_72, tt_73, tt_74, tt_75, tt_78, tt_79, tt_80, tt_81, tt_82, tt_83, tt_84, tt_85, tt_86, tt_87, tt_88, tt_89, tt_90, tt_91]
  refine ⟨fun h1 => ?_, fun h1 => ?_⟩
  · have hga : g < a.length := by have := of_decide_eq_true h1; omega
    refine ⟨by omega, ?_⟩
    have hcol : ∀ r, r < b.length → M[r * a.length + g]?.getD 0 = colVal b (a[g]?.getD 0) r := fun r hr => by
      have := hat g r hga hr
      rw [if_pos hga] at this
      exact this
    generalize a[g]?.getD 0 = x at *
    refine ELoop_keep (fun r => ⟨[(88, vI .i64 (r : Nat)), (13, vI .i64 ((colOne b x r : Nat) : Int)), (14, vI .i64 ((colHalf b x r : Nat) : Int))], [], []⟩) (fun r => r ≤ b.length) (fun r => b.length - r) (· + 1) 0 (Nat.zero_le _) ?_ ?_
    · simp only [↓gPre, gPost, handV, V.bufs, buildArr, toCs, List.set_cons_succ, List.set_cons_zero, List.foldr_cons, List.foldr_nil, List.append_eq, Nat.reduceShiftRight, Nat.reduceMod, List.mem_cons, addB, addK, zeroOp, callSem, resName, keepsB, newB, V.pure, C.pure, V.ptrs, C.ptrs, C.bufs, appendSem, dstOk, lk, V.cells, Op.eff, partV, partD, cut, lay, zeroD, C.toDs, C.toD, V.toD, toDs, buildCells, List.flatMap_nil, List.flatMap_cons, List.all_nil, List.all_cons, List.map_nil, List.map_cons, List.zip_cons_cons, List.zip_nil_left, List.nil_append, List.append_nil, List.cons_append, List.drop_zero, List.drop_succ_cons, List.take_succ_cons, List.take_zero, List.length_cons, List.length_nil, List.getElem?_cons_succ, List.getElem?_cons_zero, Option.getD_some, Option.getD_none, Option.map_some, Option.map_none, Option.some.injEq, Option.isSome_none, Option.isSome_some, Option.toList_some, Option.toList_none, if_true, if_false, ↓reduceIte, reduceCtorEq, Nat.reduceEqDiff, Nat.reduceLT, Nat.reduceLeDiff, List.not_mem_nil, false_implies, implies_true, true_and, and_true, forall_const, Nat.succ_ne_self, Bool.false_eq_true, Bool.true_and, Bool.and_true, eq_self, ne_eq, not_true_eq_false, not_false_eq_true, or_true, true_or, and_self, imp_self, bne_self_eq_false, beq_self_eq_true, Bool.or_false, Bool.false_or, Bool.and_false, Bool.false_and, false_or, or_false, Nat.reduceAdd, Nat.reduceMul, beq_true, beq_false, Name.mk.injEq, decide_true, decide_false, Bool.or_true, Bool.true_or, Bool.or_self, Bool.not_eq_true', Bool.not_true, Bool.not_false, Bool.true_eq_false, Bool.cond_true_left, Bool.cond_false_right, Nat.zero_add, Int.reduceLE, Int.reduceLT, Int.reduceNeg, Int.reduceAdd, Int.reduceToNat, List.range_succ, List.range_zero, Int.toNat_natCast, List.mem_nil_iff, List.mem_append, E_sane_eq, E_new_eq, E_mblock_eq, E_dflt_eq, E_apply_eq, E_same_eq, E_ridx_eq, E_mcut_eq, E_join_eq, Try.ntmps6, Try.results6, tt_1, tt_2, tt_3, tt_4, tt_5, tt_6, tt_7, tt_8, tt_12, tt_15, tt_16, tt_17, tt_18, tt_19, tt_21, tt_22, tt_23, tt_24, tt_25, tt_26, tt_27, tt_28, tt_29, tt_30, tt_31, tt_32, tt_33, tt_34, tt_35, tt_36, tt_37, tt_38, tt_39, tt_41, tt_42, tt_44, tt_45, tt_46, tt_47, tt_48, tt_49, tt_50, tt_51, tt_52, tt_53, tt_54, tt_55, tt_56, tt_57, tt_58, tt_59, tt_60, tt_61, tt_62, tt_63, tt_64, tt_65, tt_66, tt_67, tt_68, tt_69, tt_70, tt_71, tt_72, tt_73, tt_74, tt_75, tt_78, tt_79, tt_80, tt_81, tt_82, tt_83, tt_84, tt_85, tt_86, tt_87, tt_88, tt_89, tt_90, tt_91]
      exact ⟨rfl, rfl, rfl⟩
    intro r hr
    simp only [↓gPre, gPost, handV, V.bufs, buildArr, toCs, List.set_cons_succ, List.set_cons_zero, List.foldr_cons, List.foldr_nil, List.append_eq, Nat.reduceShiftRight, Nat.reduceMod, List.mem_cons, addB, addK, zeroOp, callSem, resName, keepsB, newB, V.pure, C.pure, V.ptrs, C.ptrs, C.bufs, appendSem, dstOk, lk, V.cells, Op.eff, partV, partD, cut, lay, zeroD, C.toDs, C.toD, V.toD, toDs, buildCells, List.flatMap_nil, List.flatMap_cons, List.all_nil, List.all_cons, List.map_nil, List.map_cons, List.zip_cons_cons, List.zip_nil_left, List.nil_append, List.append_nil, List.cons_append, List.drop_zero, List.drop_succ_cons, List.take_succ_cons, List.take_zero, List.length_cons, List.length_nil, List.getElem?_cons_succ, List.getElem?_cons_zero, Option.getD_some, Option.getD_none, Option.map_some, Option.map_none, Option.some.injEq, Option.isSome_none, Option.isSome_some, Option.toList_some, Option.toList_none, if_true, if_false, ↓reduceIte, reduceCtorEq, Nat.reduceEqDiff, Nat.reduceLT, Nat.reduceLeDiff, List.not_mem_nil, false_implies, implies_true, true_and, and_true, forall_const, Nat.succ_ne_self, Bool.false_eq_true, Bool.true_and, Bool.and_true, eq_self, ne_eq, not_true_eq_false, not_false_eq_true, or_true, true_or, and_self, imp_self, bne_self_eq_false, beq_self_eq_true, Bool.or_false, Bool.false_or, Bool.and_false, Bool.false_and, false_or, or_false, Nat.reduceAdd, Nat.reduceMul, beq_true, beq_false, Name.mk.injEq, decide_true, decide_false, Bool.or_true, Bool.true_or, Bool.or_self, Bool.not_eq_true', Bool.not_true, Bool.not_false, Bool.true_eq_false, Bool.cond_true_left, Bool.cond_false_right, Nat.zero_add, Int.reduceLE, Int.reduceLT, Int.reduceNeg, Int.reduceAdd, Int.reduceToNat, List.range_succ, List.range_zero, Int.toNat_natCast, List.mem_nil_iff, List.mem_append, E_sane_eq, E_new_eq, E_mblock_eq, E_dflt_eq, E_apply_eq, E_same_eq, E_ridx_eq, E_mcut_eq, E_join_eq, Try.ntmps6, Try.results6, tt_1, tt_2, tt_3, tt_4, tt_5, tt_6, tt_7, tt_8, tt_12, tt_15, tt_16, tt_17, tt_18, tt_19, tt_21, tt_22, tt_23, tt_24, tt_25, tt_26, tt_27, tt_28, tt_29, tt_30, tt_31, tt_32, tt_33, tt_34, tt_35, tt_36, tt_37, tt_38, tt_39, tt_41, tt_42, tt_44, tt_45, tt_46, tt_47, tt_48, tt_49, tt_50, tt_51, tt_52, tt_53, tt_54, tt_55, tt_56, tt_57, tt_58, tt_59, tt_60, tt_61, tt_62, tt_63, tt_64, tt_65, tt_66, tt_67, tt_68, tt_69, tt_70, tt_71, tt_72, tt_73, tt_74, tt_75, tt_78, tt_79, tt_80, tt_81, tt_82, tt_83, tt_84, tt_85, tt_86, tt_87, tt_88, tt_89, tt_90, tt_91]
    have ho := cnt_le (fun j => colVal b x j == 32768) r
    have hh := cnt_le (fun j => colVal b x j == 23170) r
    refine ⟨fun h3 => ?_, fun h3 => ?_⟩
    · have hrb : r < b.length := by have := of_decide_eq_true h3; omega
      have hrA : r * a.length ≤ 8 * 8 := Nat.mul_le_mul (by omega) hA8
      have hcl := cell_lt hga hrb
      have e1 : IntKind.i64.wrap (IntKind.i64.wrap ((r : Int) * (a.length : Int)) + (g : Int)) = ((r * a.length + g : Nat) : Int) := by
        rw [← Int.natCast_mul, IntWalk.i64_in ((r * a.length : Nat) : Int) (by omega), IntWalk.i64_in _ (by omega)]
        omega
      rw [e1, Int.toNat_natCast, hcol r hrb]
      have s1 : colOne b x (r + 1) = colOne b x r + if (colVal b x r == 32768) = true then 1 else 0 := rfl
      have s2 : colHalf b x (r + 1) = colHalf b x r + if (colVal b x r == 23170) = true then 1 else 0 := rfl
      have ho' : colOne b x r ≤ r := ho
      have hh' : colHalf b x r ≤ r := hh
      have w1 : IntKind.i64.wrap ((colOne b x r : Nat) + 1 : Int) = ((colOne b x r + 1 : Nat) : Int) := by rw [IntWalk.i64_in _ (by omega)]; omega
      have w2 : IntKind.i64.wrap ((colHalf b x r : Nat) + 1 : Int) = ((colHalf b x r + 1 : Nat) : Int) := by rw [IntWalk.i64_in _ (by omega)]; omega
      have w3 : ((r + 1 : Nat) : Int) = IntKind.i64.wrap ((r : Int) + 1) := (wrapN _ (by omega)).symm
      rw [w1, w2, s1, s2, ← w3]
      refine ⟨by omega, ?_⟩
      rcases col_three b x r with v | v | v
      · have hb := col_one_at v
        rw [v, hb]
        simp
        omega
      · rw [v]
        simp
        omega
      · rw [v]
        simp
        omega
    · have : r = b.length := by have := of_decide_eq_false h3; omega
      rw [this, idx_iff]
      have w3 : ((g + 1 : Nat) : Int) = IntKind.i64.wrap ((g : Int) + 1) := (wrapN _ (by omega)).symm
      rw [← w3]
      by_cases hx : x ∈ b
      · obtain ⟨c1, c2⟩ := col_in hx
        rw [c1, c2]
        simp [hx]
        omega
      · obtain ⟨c1, c2, c3⟩ := col_out hx
        rw [c1]
        generalize colHalf b x b.length = u at *
        simp [hx]
        exact ⟨by omega, fun _ h => ⟨by omega, h⟩, ⟨by omega, fun h => c3 (by omega)⟩, fun _ _ => by omega⟩
  have hMc : M.all coefX = true := by
    rw [List.all_eq_true]
    intro y hy
    obtain ⟨j, hj, rfl⟩ := List.mem_iff_getElem.1 hy
    have hA : 0 < a.length := by omega
    have ej : j = j / a.length * a.length + j % a.length := by rw [Nat.mul_comm]; exact (Nat.div_add_mod j a.length).symm
    have h1 := hat (j % a.length) (j / a.length) (Nat.mod_lt _ hA) (Nat.div_lt_of_lt_mul (by omega))
    rw [← ej] at h1
    unfold atL at h1
    rw [List.getElem?_eq_getElem hj] at h1
    have h2 : M[j] = if j % a.length < a.length then colVal b (a[j % a.length]?.getD 0) (j / a.length) else 0 := h1
    rw [h2, if_pos (Nat.mod_lt _ hA)]
    rcases col_three b (a[j % a.length]?.getD 0) (j / a.length) with v | v | v <;> rw [v] <;> decide
  have hMv : mxV (a.length : Int) (b.length : Int) M = true := mxV_of (by omega) (by omega) (by rw [hml, ← Int.natCast_mul, Int.toNat_natCast]) hMc
  have hbl : (bkO (List.take 300 s) ((a.length : Int) * 9).toNat).length = ((a.length : Int) * 9).toNat := by simp [bkO]
  have hbv := blkV_bkO (List.take 300 s) (c := (a.length : Int)) (n := 9) (by omega) (by decide)
  generalize bkO (List.take 300 s) ((a.length : Int) * 9).toNat = l at *
  refine ⟨by omega, by omega, ⟨by omega, hbv, by omega⟩, ?_⟩
  have hch := chain_parts (a.length : Int) l (l.length / a.length) p p.length
  have hpl : (cqL (a.length : Int) l (l.length / a.length) p p.length ++ [((a.length : Int), cutK (a.length : Int) l (cqP (l.length / a.length) p p.length) (l.length / a.length))]).length ≤ 9 := by
    have := cqL_len (a.length : Int) l (l.length / a.length) p p.length
    rw [List.length_append, List.length_singleton]
    omega
  generalize cqL (a.length : Int) l (l.length / a.length) p p.length ++ [((a.length : Int), cutK (a.length : Int) l (cqP (l.length / a.length) p p.length) (l.length / a.length))] = L at *
  obtain ⟨hc0, hsm⟩ := blkV_in hbv
  obtain ⟨k1, k2, k3⟩ := chBk_in hc0
  rw [Int.toNat_natCast] at k3
  have A1 := apE_ok hMv hbv rfl
  have A2 : apC a.length b.length M a.length l = (b.length : Int) := by simp [apC, A1]
  have A3 : apO a.length b.length M a.length l = apL a.length b.length M l (l.length / a.length * b.length) := by simp [apO, A1]
  rw [A1, A2, A3]
  generalize hn : l.length / a.length = n at *
  have hn9 : n ≤ l.length := by rw [← hn]; exact Nat.div_le_self ..
  refine ELoop_keep (fun g : Nat × Nat => ⟨[(164, vI .i64 (g.1 : Nat))], [(⟨1, 20⟩, [.d (.int .i64 (b.length : Int)), .d (.list (LI .i32 (apL a.length b.length M l (g.2 * b.length))))])], []⟩) (fun g => g.1 ≤ L.length ∧ g.2 ≤ n ∧ chain (a.length : Int) l n g.2 (L.drop g.1)) (fun g => L.length - g.1) (fun g => (g.1 + 1, g.2 + (L[g.1]?.getD (0, [])).2.length / a.length)) (0, 0) ⟨Nat.zero_le _, Nat.zero_le _, hch⟩ ?_ ?_
  · simp only [↓gPre, gPost, handV, V.bufs, buildArr, toCs, List.set_cons_succ, List.set_cons_zero, List.foldr_cons, List.foldr_nil, List.append_eq, Nat.reduceShiftRight, Nat.reduceMod, List.mem_cons, addB, addK, zeroOp, callSem, resName, keepsB, newB, V.pure, C.pure, V.ptrs, C.ptrs, C.bufs, appendSem, dstOk, lk, V.cells, Op.eff, partV, partD, cut, lay, zeroD, C.toDs, C.toD, V.toD, toDs, buildCells, List.flatMap_nil, List.flatMap_cons, List.all_nil, List.all_cons, List.map_nil, List.map_cons, List.zip_cons_cons, List.zip_nil_left, List.nil_append, List.append_nil, List.cons_append, List.drop_zero, List.drop_succ_cons, List.take_succ_cons, List.take_zero, List.length_cons, List.length_nil, List.getElem?_cons_succ, List.getElem?_cons_zero, Option.getD_some, Option.getD_none, Option.map_some, Option.map_none, Option.some.injEq, Option.isSome_none, Option.isSome_some, Option.toList_some, Option.toList_none, if_true, if_false, ↓reduceIte, reduceCtorEq, Nat.reduceEqDiff, Nat.reduceLT, Nat.reduceLeDiff, List.not_mem_nil, false_implies, implies_true, true_and, and_true, forall_const, Nat.succ_ne_self, Bool.false_eq_true, Bool.true_and, Bool.and_true, eq_self, ne_eq, not_true_eq_false, not_false_eq_true, or_true, true_or, and_self, imp_self, bne_self_eq_false, beq_self_eq_true, Bool.or_false, Bool.false_or, Bool.and_false, Bool.false_and, false_or, or_false, Nat.reduceAdd, Nat.reduceMul, beq_true, beq_false, Name.mk.injEq, decide_true, decide_false, Bool.or_true, Bool.true_or, Bool.or_self, Bool.not_eq_true', Bool.not_true, Bool.not_false, Bool.true_eq_false, Bool.cond_true_left, Bool.cond_false_right, Nat.zero_add, Int.reduceLE, Int.reduceLT, Int.reduceNeg, Int.reduceAdd, Int.reduceToNat, List.range_succ, List.range_zero, Int.toNat_natCast, List.mem_nil_iff, List.mem_append, E_sane_eq, E_new_eq, E_mblock_eq, E_dflt_eq, E_apply_eq, E_same_eq, E_ridx_eq, E_mcut_eq, E_join_eq, Try.ntmps6, Try.results6, tt_1, tt_2, tt_3, tt_4, tt_5, tt_6, tt_7, tt_8, tt_12, tt_15, tt_16, tt_17, tt_18, tt_19, tt_21, tt_22, tt_23, tt_24, tt_25, tt_26, tt_27, tt_28, tt_29, tt_30, tt_31, tt_32, tt_33, tt_34, tt_35, tt_36, tt_37, tt_38, tt_39, tt_41, tt_42, tt_44, tt_45, tt_46, tt_47, tt_48, tt_49, tt_50, tt_51, tt_52, tt_53, tt_54, tt_55, tt_56, tt_57, tt_58, tt_59, tt_60, tt_61, tt_62, tt_63, tt_64, tt_65, tt_66, tt_67, tt_68, tt_69, tt_70, tt_71, tt_72, tt_73, tt_74, tt_75, tt_78, tt_79, tt_80, tt_81, tt_82, tt_83, tt_84, tt_85, tt_86, tt_87, tt_88, tt_89, tt_90, tt_91]
    simp [apL]
  rintro ⟨i, q⟩ ⟨hi, hq, hc⟩
  simp only [↓gPre, gPost, handV, V.bufs, buildArr, toCs, List.set_cons_succ, List.set_cons_zero, List.foldr_cons, List.foldr_nil, List.append_eq, Nat.reduceShiftRight, Nat.reduceMod, List.mem_cons, addB, addK, zeroOp, callSem, resName, keepsB, newB, V.pure, C.pure, V.ptrs, C.ptrs, C.bufs, appendSem, dstOk, lk, V.cells, Op.eff, partV, partD, cut, lay, zeroD, C.toDs, C.toD, V.toD, toDs, buildCells, List.flatMap_nil, List.flatMap_cons, List.all_nil, List.all_cons, List.map_nil, List.map_cons, List.zip_cons_cons, List.zip_nil_left, List.nil_append, List.append_nil, List.cons_append, List.drop_zero, List.drop_succ_cons, List.take_succ_cons, List.take_zero, List.length_cons, List.length_nil, List.getElem?_cons_succ, List.getElem?_cons_zero, Option.getD_some, Option.getD_none, Option.map_some, Option.map_none, Option.some.injEq, Option.isSome_none, Option.isSome_some, Option.toList_some, Option.toList_none, if_true, if_false, ↓reduceIte, reduceCtorEq, Nat.reduceEqDiff, Nat.reduceLT, Nat.reduceLeDiff, List.not_mem_nil, false_implies, implies_true, true_and, and_true, forall_const, Nat.succ_ne_self, Bool.false_eq_true, Bool.true_and, Bool.and_true, eq_self, ne_eq, not_true_eq_false, not_false_eq_true, or_true, true_or, and_self, imp_self, bne_self_eq_false, beq_self_eq_true, Bool.or_false, Bool.false_or, Bool.and_false, Bool.false_and, false_or, or_false, Nat.reduceAdd, Nat.reduceMul, beq_true, beq_false, Name.mk.injEq, decide_true, decide_false, Bool.or_true, Bool.true_or, Bool.or_self, Bool.not_eq_true', Bool.not_true, Bool.not_false, Bool.true_eq_false, Bool.cond_true_left, Bool.cond_false_right, Nat.zero_add, Int.reduceLE, Int.reduceLT, Int.reduceNeg, Int.reduceAdd, Int.reduceToNat, List.range_succ, List.range_zero, Int.toNat_natCast, List.mem_nil_iff, List.mem_append, E_sane_eq, E_new_eq, E_mblock_eq, E_dflt_eq, E_apply_eq, E_same_eq, E_ridx_eq, E_mcut_eq, E_join_eq, Try.ntmps6, Try.results6, tt_1, tt_2, tt_3, tt_4, tt_5, tt_6, tt_7, tt_8, tt_12, tt_15, tt_16, tt_17, tt_18, tt_19, tt_21, tt_22, tt_23, tt_24, tt_25, tt_26, tt_27, tt_28, tt_29, tt_30, tt_31, tt_32, tt_33, tt_34, tt_35, tt_36, tt_37, tt_38, tt_39, tt_41, tt_42, tt_44, tt_45, tt_46, tt_47, tt_48, tt_49, tt_50, tt_51, tt_52, tt_53, tt_54, tt_55, tt_56, tt_57, tt_58, tt_59, tt_60, tt_61, tt_62, tt_63, tt_64, tt_65, tt_66, tt_67, tt_68, tt_69, tt_70, tt_71, tt_72, tt_73, tt_74, tt_75, tt_78, tt_79, tt_80, tt_81, tt_82, tt_83, tt_84, tt_85, tt_86, tt_87, tt_88, tt_89, tt_90, tt_91]
  refine ⟨fun h1 => ?_, fun h1 => ?_⟩
  · have hlt : i < L.length := by have := of_decide_eq_true h1; omega
    have hx : L.drop i = L[i] :: L.drop (i + 1) := List.drop_eq_getElem_cons hlt
    replace hc : chain (a.length : Int) l n q (L.drop i) := hc
    rw [hx] at hc
    obtain ⟨m, m1, m2, m3, m4⟩ := hc
    have hg : L[i]?.getD (0, []) = ((a.length : Int), cutK (a.length : Int) l q m) := by rw [List.getElem?_eq_getElem hlt]; exact m3
    rw [hg]
    have hmk : m * a.length ≤ l.length := by rw [k3]; exact Nat.mul_le_mul_right _ m2
    have hcl := cutK_len (k := (a.length : Int)) (f := q) hmk
    rw [Int.toNat_natCast] at hcl
    have hcle : (cutK (a.length : Int) l q m).length ≤ l.length := by unfold cutK; rw [List.length_take, List.length_drop]; omega
    have hb2 := blkV_cut hbv m1 hmk (by omega)
    have hdl : (cutK (a.length : Int) l q m).length / a.length = m - q := by rw [hcl]; exact Nat.mul_div_cancel _ (by omega)
    have B1 := apE_ok hMv hb2 rfl
    have B2 : apC a.length b.length M a.length (cutK (a.length : Int) l q m) = (b.length : Int) := by simp [apC, B1]
    have B3 : apO a.length b.length M a.length (cutK (a.length : Int) l q m) = apL a.length b.length M (cutK (a.length : Int) l q m) ((m - q) * b.length) := by simp [apO, B1, hdl]
    have hsum : q + (m - q) = m := by omega
    have hparts := apL_parts (A := a.length) (B := b.length) (M := M) (k := (a.length : Int)) (l := l) (Int.toNat_natCast _) (by omega) (by omega) m1 hmk
    have hq8 : q * b.length ≤ n * 8 := Nat.mul_le_mul hq hB8
    have hm8' : (m - q) * b.length ≤ n * 8 := Nat.mul_le_mul (by omega) hB8
    show _ ∧ _
    simp only [B1, B2, B3, hdl, hsum, hparts, apL_len]
    exact ⟨by omega, by omega, fun h => absurd h (by decide), fun _ => ⟨by omega, ⟨(wrapN _ (by omega)).symm, trivial⟩, ⟨by omega, m2, m4⟩, by omega⟩⟩
  · have hil : i = L.length := by have := of_decide_eq_false h1; omega
    rw [hil, List.drop_length] at hc
    have hqn : q = n := hc
    have hn8 : n * b.length ≤ n * 8 := Nat.mul_le_mul_left _ hB8
    rw [hqn]
    simp only [apL_len, beq_self_eq_true, and_true]
    omega

end Go.Vam
