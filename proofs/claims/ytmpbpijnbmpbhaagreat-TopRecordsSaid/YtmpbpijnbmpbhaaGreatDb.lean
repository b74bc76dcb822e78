/- A part of the proof. Conditions: none. -/
import Derived.Test.YtmpbpijnbmpbhaaGreatDa
set_option linter.unusedVariables false
set_option linter.defProp false
set_option linter.unusedSimpArgs false
set_option maxRecDepth 40000
set_option maxHeartbeats 4000000
namespace Go.Vam
open Go.Proofs Go.RowKit
theorem mul88 {a b : Int} (ha : 1 ≤ a ∧ a ≤ 8) (hb : 1 ≤ b ∧ b ≤ 8) : 1 ≤ a * b ∧ a * b ≤ 64 := by
  have h1 : a * b ≤ 8 * 8 := Int.mul_le_mul ha.2 hb.2 (by omega) (by decide)
  have h2 : 1 * 1 ≤ a * b := Int.mul_le_mul ha.1 hb.1 (by decide) (by omega)
  omega
def tabP (k : Name) (a n g : Nat) : List C := (List.range n).map fun i => if i < g then C.vw k (i * a) a else .nil
theorem tabP_len (k : Name) (a n g : Nat) : (tabP k a n g).length = n := by simp [tabP]
theorem tabP_zero (k : Name) (a n : Nat) : tabP k a n 0 = List.replicate n .nil := by
  apply List.ext_getElem
  · simp [tabP]
  · intro i h1 h2; simp [tabP]
theorem tabP_all (k : Name) (a n : Nat) : tabP k a n n = tabV k a n := by
  apply List.map_congr_left
  intro i hi
  rw [List.mem_range] at hi
  rw [if_pos hi]
theorem lay_one {β : Type} : ∀ (l : List β) (g : Nat) (y : β), g < l.length → lay l g [y] = l.set g y
  | [], _, _, h => absurd h (Nat.not_lt_zero _)
  | x :: l, 0, y, _ => rfl
  | x :: l, g + 1, y, h => by
    show x :: lay l g [y] = x :: l.set g y
    rw [lay_one l g y (by simpa using h)]
theorem tabP_succ (k : Name) (a n g : Nat) (hg : g < n) : lay (tabP k a n g) g [C.vw k (g * a) a] = tabP k a n (g + 1) := by
  rw [lay_one _ _ _ (by rw [tabP_len]; exact hg)]
  apply List.ext_getElem
  · simp [tabP]
  · intro i h1 h2
    simp only [tabP, List.getElem_map, List.getElem_range, List.getElem_set]
    by_cases e : g = i
    · subst e; simp
    · rw [if_neg e]
      by_cases h : i < g
      · rw [if_pos h, if_pos (by omega)]
      · rw [if_neg h, if_neg (by omega)]
theorem spec_empty (a b : Int) (ha : 1 ≤ a ∧ a ≤ 8) (hb : 1 ≤ b ∧ b ≤ 8) : Spec Tryz.prog 0 81 [vI .i64 a, vI .i64 b] [] [] (.agg [.d (.int .i64 a), .d (.int .i64 b), .arr ⟨0, 9⟩ (a * b).toNat]) [] [(⟨0, 9⟩, ⟨true, 1, (LI .i64 (List.replicate (a * b).toNat 0))⟩)] := by
  refine spec_of_E_new (X := ⟨Tryz.prog, tt, Tryz.f81.ntmps, 1, fun s => if s = 10 then 2 else 0, (tab [])⟩) (M := []) (m := 19) (r0 := .agg [.d (.int .i64 a), .d (.int .i64 b), .arr ⟨1, 10⟩ (a * b).toNat]) (b0 := []) (k0 := [(⟨1, 10⟩, ⟨true, 1, (LI .i64 (List.replicate (a * b).toNat 0))⟩)]) ⟨1, 10⟩ ⟨0, 9⟩ rfl rfl ⟨tt_ok, tab_ok tabs_nil _ rfl rfl⟩ tt_mixed Tryz.func81 rfl (by decide) (by show (2 : Nat) ≤ _; exact Nat.le_of_ble_eq_true rfl) rfl rfl rfl ⟨by simp [V.has, C.has, smC_eq], by simp [C.has], by simp⟩ (by decide) (by simp [V.names, C.names, namesB, namesK]) (by simp [lk]) (by simp [lk]) (by simp [lk]) ?_
  simp (maxSteps := 1000000) only [↓gPre, gPost, gCore, gDef, gSt, gS0, Nat.reduceShiftRight, Nat.reduceMod, ↓reduceIte, reduceCtorEq, Nat.reduceEqDiff, Nat.reduceLT, Nat.reduceLeDiff, Nat.reduceAdd, Nat.reduceMul, Int.reduceLE, Int.reduceLT, Int.reduceNeg, Int.reduceAdd, Int.reduceToNat, gE1, Tryz.ntmps81, Tryz.results81, gTT]
  have hm := mul88 ha hb
  rw [IntWalk.i64_in (a * b) (by omega)]
  exact ⟨⟨by omega, by omega, by omega, by omega⟩, rfl, rfl⟩
def E_empty : List V → Boxes → Toks → Name → Option Ent
  | [.c (.d (.int .i64 a)), .c (.d (.int .i64 b))], [], [], nF => some ⟨(1 ≤ a ∧ a ≤ 8) ∧ (1 ≤ b ∧ b ≤ 8), .agg [.d (.int .i64 a), .d (.int .i64 b), .arr nF (a * b).toNat], [], [(nF, ⟨true, 1, (LI .i64 (List.replicate (a * b).toNat 0))⟩)]⟩
  | _, _, _, _ => none
def E_empty_eq := And.intro (@E_empty.eq_1) (@E_empty.eq_1)
theorem E_empty_ok : Snd Tryz.prog 81 E_empty := by
  intro vs b k n e h hn hp
  unfold E_empty at h
  split at h
  · cases h; obtain ⟨hp0, hp1⟩ := hp; exact Spec.ren1 (spec_empty _ _ hp0 hp1) 9 (by simp [supOK, V.names, C.names, namesB, namesK, smC_eq]) (Nat.le_of_eq hn) 
  · cases h
theorem spec_rowsA (a b : Int) (q : Nat) (l : List Int) (ha : 1 ≤ a ∧ a ≤ 8) (hb : 1 ≤ b ∧ b ≤ 8) (hl : q = a.toNat * b.toNat) : Spec Tryz.prog 0 82 [.agg [.d (.int .i64 a), .d (.int .i64 b), .arr ⟨0, 0⟩ q]] [] [(⟨0, 0⟩, ⟨true, 1, (LI .i64 l)⟩)] (.c (.rws ⟨0, 0⟩ a.toNat b.toNat)) [] [(⟨0, 0⟩, ⟨true, 1, (LI .i64 l)⟩)] := by
  refine spec_of_E (X := ⟨Tryz.prog, tt, Tryz.f82.ntmps, 1, fun s => if s = 7 then 5 else 0, (tab [])⟩) (M := [(5, [0, 0, 0, 0, 0, 8589897247, 0, 0, 0, 0, 0, 8578493983, 0, 0, 0, 0, 0, 7550889503, 0, 0, 0]), (1000007, [2])]) (m := 3615) rfl rfl ⟨tt_ok, tab_ok tabs_nil _ rfl rfl⟩ tt_mixed Tryz.func82 rfl (by decide) (by show (1 : Nat) ≤ _; exact Nat.le_of_ble_eq_true rfl) ⟨by simp [V.has, C.has, smC_eq], by simp [C.has], by simp⟩ ?_
  simp (maxSteps := 1000000) only [↓gPre, gPost, gCore, gDef, gSt, gS0, Nat.reduceShiftRight, Nat.reduceMod, ↓reduceIte, reduceCtorEq, Nat.reduceEqDiff, Nat.reduceLT, Nat.reduceLeDiff, Nat.reduceAdd, Nat.reduceMul, Int.reduceLE, Int.reduceLT, Int.reduceNeg, Int.reduceAdd, Int.reduceToNat, gE1, Tryz.ntmps82, Tryz.results82, gTT]
  refine ⟨by omega, ?_⟩
  refine ELoop_keep (fun g => ⟨[(10, vI .i64 (g : Nat))], [(⟨1, 7⟩, tabP ⟨0, 0⟩ a.toNat b.toNat g)], []⟩) (fun g => g ≤ b.toNat) (fun g => b.toNat - g) (· + 1) 0 (Nat.zero_le _) ?_ ?_
  · simp (maxSteps := 1000000) only [↓gPre, gPost, gCore, gDef, gSt, gS0, Nat.reduceShiftRight, Nat.reduceMod, ↓reduceIte, reduceCtorEq, Nat.reduceEqDiff, Nat.reduceLT, Nat.reduceLeDiff, Nat.reduceAdd, Nat.reduceMul, Int.reduceLE, Int.reduceLT, Int.reduceNeg, Int.reduceAdd, Int.reduceToNat, gE1, Tryz.ntmps82, Tryz.results82, gTT]
    rw [tabP_zero]
    exact ⟨rfl, leCs_refl _⟩
  intro g hg
  simp (maxSteps := 1000000) only [↓gPre, gPost, gCore, gDef, gSt, gS0, Nat.reduceShiftRight, Nat.reduceMod, ↓reduceIte, reduceCtorEq, Nat.reduceEqDiff, Nat.reduceLT, Nat.reduceLeDiff, Nat.reduceAdd, Nat.reduceMul, Int.reduceLE, Int.reduceLT, Int.reduceNeg, Int.reduceAdd, Int.reduceToNat, gE1, Tryz.ntmps82, Tryz.results82, gTT]
  refine ⟨fun h => ?_, fun h => ?_⟩
  · skip
    have hlt : g < b.toNat := by have := of_decide_eq_true h; omega
    have hA : ((a.toNat : Nat) : Int) = a := by omega
    have hga : g * a.toNat ≤ 8 * 8 := Nat.mul_le_mul (by omega) (by omega)
    have hle : (g + 1) * a.toNat ≤ b.toNat * a.toNat := Nat.mul_le_mul_right _ hlt
    rw [Nat.add_mul, Nat.one_mul, Nat.mul_comm b.toNat] at hle
    have e1 : IntKind.i64.wrap ((g : Int) * a) = ((g * a.toNat : Nat) : Int) := by
      have : (g : Int) * a = ((g * a.toNat : Nat) : Int) := by rw [Int.natCast_mul, hA]
      rw [this, IntWalk.i64_in _ (by omega)]
    have e2 : IntKind.i64.wrap (IntKind.i64.wrap ((g : Int) + 1) * a) = ((g * a.toNat + a.toNat : Nat) : Int) := by
      have : ((g : Int) + 1) * a = ((g * a.toNat + a.toNat : Nat) : Int) := by rw [Int.add_mul, Int.one_mul, Int.natCast_add, Int.natCast_mul, hA]
      rw [IntWalk.i64_in ((g : Int) + 1) (by omega), this, IntWalk.i64_in _ (by omega)]
    rw [e1, e2]
    have hv : (((g * a.toNat + a.toNat : Nat) : Int) - ((g * a.toNat : Nat) : Int)).toNat = a.toNat := by omega
    rw [hv, Int.toNat_natCast, if_pos (by rw [tabP_len]; omega), tabP_succ _ _ _ _ hlt]
    exact ⟨⟨by omega, by omega, by omega⟩, by omega, ⟨(wrapN _ (by omega)).symm, leCs_refl _⟩, by omega, by omega⟩
  · have : g = b.toNat := by have := of_decide_eq_false h; omega
    rw [this, tabP_all]
    exact ⟨⟨0, 0⟩, a.toNat, rfl, rfl⟩
def E_rowsA : List V → Boxes → Toks → Name → Option Ent
  | [.agg [.d (.int .i64 a), .d (.int .i64 b), .arr n0 q]], [], [(j0, ⟨true, 1, q_l⟩)], _ => some ⟨(1 ≤ a ∧ a ≤ 8) ∧ (1 ≤ b ∧ b ≤ 8) ∧ q = a.toNat * b.toNat ∧ n0.lv ≤ 1 ∧ j0 = n0 ∧ q_l = LI .i64 (ints q_l), .c (.rws n0 a.toNat b.toNat), [], [(n0, ⟨true, 1, (LI .i64 (ints q_l))⟩)]⟩
  | _, _, _, _ => none
theorem E_rowsA_eq {a b : Int} {q : Nat}  {q_l : List D} {n0 : Name} {j0 : Name} {nF : Name} : E_rowsA [.agg [.d (.int .i64 a), .d (.int .i64 b), .arr n0 q]] [] [(j0, ⟨true, 1, q_l⟩)] nF = some ⟨(1 ≤ a ∧ a ≤ 8) ∧ (1 ≤ b ∧ b ≤ 8) ∧ q = a.toNat * b.toNat ∧ n0.lv ≤ 1 ∧ j0 = n0 ∧ q_l = LI .i64 (ints q_l), .c (.rws n0 a.toNat b.toNat), [], [(n0, ⟨true, 1, (LI .i64 (ints q_l))⟩)]⟩ := Eq.trans rfl rfl
theorem E_rowsA_ok : Snd Tryz.prog 82 E_rowsA := by
  intro vs b k n e h hn hp
  unfold E_rowsA at h
  split at h
  · cases h; obtain ⟨hp0, hp1, hp2, hl0, rfl, hq0⟩ := hp; obtain ⟨_, rfl⟩ := LI_ex hq0; simp only [ints_LI, bys_LB, blks_LK, lls_LL] at hp0 hp1 hp2 ⊢; exact Spec.ren1 (spec_rowsA _ _ _ _ hp0 hp1 hp2) 0 (by simp [supOK, V.names, C.names, namesB, namesK, smC_eq]) hl0 
  · cases h
theorem info_el64 : (Tryz.prog.info? 3).map (fun i => (i.zero, i.size, i.bytes)) = some (some (.int .i64 0), 1, 8) := by kernel_rfl
theorem und_el64 : Tryz.prog.underlying 26 = some (.slice 3) := Tryz.underlying26
set_option maxRecDepth 100000 in
theorem clone64_nil (n c : Nat) (w : World) : Calls Tryz.prog 138 #[.slice none n c] w fun e w' => e = .returned (.slice none 0 0) ∧ w' = w := by
  have q : ∀ (w : World) (a : Option Addr) (n c n' c' : Nat), (binOp .eql 26 (.slice a n c) (.slice none n' c')).run Tryz.prog w = .ok (.bool a.isNone) w := fun w a n c n' c' => Go.Lib.run_eql_slice_nil w _ _ a n c n' c' und_el64
  go_enter Tryz.func138, Tryz.ntmps138
  go_wp2
  go_ret
  exact ⟨rfl, rfl⟩
set_option maxRecDepth 100000 in
theorem clone64_some (l : List Int) (hbig : l.length * 8 ≤ 140737488355328) (b off c : Nat) (w : World) (hc : ∀ j, j < l.length → w.cell? ⟨b, off + j, none⟩ = some (.int .i64 (l.getD j 0))) :
    Calls Tryz.prog 138 #[.slice (some ⟨b, off, none⟩) l.length c] w fun e w' => ∃ v', e = .returned v' ∧ w'.ownsRow w.heap.size 3 1 v' l.length (l.map (Value.int .i64)) ∧ Below w.heap.size w w' := by
  obtain ⟨i0, hi, hz0, hz1, hz2⟩ := info_parts info_el64
  have q : ∀ (w : World) (a : Option Addr) (n c n' c' : Nat), (binOp .eql 26 (.slice a n c) (.slice none n' c')).run Tryz.prog w = .ok (.bool a.isNone) w := fun w a n c n' c' => Go.Lib.run_eql_slice_nil w _ _ a n c n' c' und_el64
  have u : ∀ w, Sem.run Tryz.prog (underlying 26) w = .ok (TypeDesc.slice 3) w := run_underlying und_el64
  have X : Aside (∀ j, j < l.length → w.cell? ⟨b, off + j, none⟩ = some (.int .i64 (l.getD j 0))) := hc
  have Y : Aside (l.length * 8 ≤ 140737488355328) := hbig
  clear hc hbig
  generalize hn : l.length = n at *
  go_enter Tryz.func138, Tryz.ntmps138
  go_wp2_with (at_builtin; refine wpList_append_own _ rfl _ _ 26 rfl w.heap.size 3 i0 (.int .i64 0) 1 8 und_el64 hi hz0 hz1 hz2 rfl (by decide) _ _ _ rfl (World.ownsRow_made w #[] 0 (Nat.le_refl _) (Nat.zero_le _) rfl) ⟨b, off, none⟩ n c (l.map (Value.int .i64)) rfl ?qc1 ?qc2 ?qc3 ?qc4 ?qc5 ?qc6 ?_)
  case qc1 => simp [hn]
  case qc2 =>
    intro j u hj
    have hjn : j < n := by
      have := (List.getElem?_eq_some_iff.1 hj).1
      simpa [hn] using this
    rw [Addr.add_lit]
    refine Go.Lib.cell?_alloc_some _ ?_
    rw [X.out j hjn]
    have e : (l.map (Value.int .i64))[j]? = some (Value.int .i64 (l.getD j 0)) := by simp [List.getD, hn, hjn, List.getElem?_eq_getElem (show j < l.length by omega)]
    rw [e] at hj
    exact hj
  case qc3 => intro u hu; obtain ⟨x, _, rfl⟩ := List.mem_map.1 hu; rfl
  case qc4 => have := Y.out; unfold maxLen; omega
  case qc5 => have := Y.out; omega
  case qc6 => simp
  intro v' w1 hown hgrow hnil
  go_wp2
  go_ret
  refine ⟨v', rfl, by simpa using hown, ?_⟩
  exact ((Below.refl _ w).alloc (Nat.le_refl _) _).grown hgrow (by simp) (by intro k hk; simp [Value.ownBlock] at hk; omega)
set_option maxRecDepth 100000 in
theorem clone64_zero (a : Addr) (c : Nat) (w : World) : Calls Tryz.prog 138 #[.slice (some a) 0 c] w fun e w' => ∃ v', e = .returned v' ∧ w'.ownsRow w.heap.size 3 1 v' 0 [] ∧ Below w.heap.size w w' := by
  obtain ⟨i0, hi, hz0, hz1, hz2⟩ := info_parts info_el64
  have q : ∀ (w : World) (a : Option Addr) (n c n' c' : Nat), (binOp .eql 26 (.slice a n c) (.slice none n' c')).run Tryz.prog w = .ok (.bool a.isNone) w := fun w a n c n' c' => Go.Lib.run_eql_slice_nil w _ _ a n c n' c' und_el64
  have u : ∀ w, Sem.run Tryz.prog (underlying 26) w = .ok (TypeDesc.slice 3) w := run_underlying und_el64
  go_enter Tryz.func138, Tryz.ntmps138
  go_wp2_with (at_builtin; refine wpList_append_own _ rfl _ _ 26 rfl w.heap.size 3 i0 (.int .i64 0) 1 8 und_el64 hi hz0 hz1 hz2 rfl (by decide) _ _ _ rfl (World.ownsRow_made w #[] 0 (Nat.le_refl _) (Nat.zero_le _) rfl) a 0 c [] rfl rfl (by intro j u hj; simp at hj) (by intro u hu; cases hu) (by unfold maxLen; omega) (by omega) (by simp) ?_)
  intro v' w1 hown hgrow hnil
  go_wp2
  go_ret
  refine ⟨v', rfl, by simpa using hown, ?_⟩
  exact ((Below.refl _ w).alloc (Nat.le_refl _) _).grown hgrow (by simp) (by intro k hk; simp [Value.ownBlock] at hk; omega)
theorem spec_clone64 (l : List Int) (hl : l.length * 8 ≤ 140737488355328) : Spec Tryz.prog 0 138 [vL (LI .i64 l)] [] [] (vL (LI .i64 l)) [] [] :=
  spec_clone_of Tryz.func138 rfl (by decide) l clone64_nil (clone64_some l hl) clone64_zero
def E_clone64 : List V → Boxes → Toks → Name → Option Ent
  | [.c (.d (.list q_l))], [], [], _ => some ⟨(ints q_l).length * 8 ≤ 140737488355328 ∧ q_l = LI .i64 (ints q_l), vL (LI .i64 (ints q_l)), [], []⟩
  | _, _, _, _ => none
def E_clone64_eq := And.intro (@E_clone64.eq_1) (@E_clone64.eq_1)
theorem E_clone64_ok : Snd Tryz.prog 138 E_clone64 := by
  intro vs b k n e h hn hp
  unfold E_clone64 at h
  split at h
  · cases h; obtain ⟨hp0, hq0⟩ := hp; obtain ⟨_, rfl⟩ := LI_ex hq0; simp only [ints_LI, bys_LB, blks_LK, lls_LL] at hp0 ⊢; exact (spec_clone64 _ hp0).lift rfl _
  · cases h
end Go.Vam
