/- Clone, Grow, Concat; valid resamplers, what waits, feeding. Conditions: none. -/
import Derived.Test.YtjciocipdoophaaGreatCvC
import Derived.Test.YtjciocipdoophaaGreatVamLib
import Derived.WalkKit
import Derived.OwnWalk
import Derived.Lib.Walk
import Derived.Lib.SliceRun
set_option linter.unusedVariables false
set_option linter.defProp false
set_option linter.unusedSimpArgs false
set_option maxRecDepth 40000
set_option maxHeartbeats 4000000
namespace Go.Vam
open Go.Proofs Go.RowKit

theorem info_el : (Tryz.prog.info? 21).map (fun i => (i.zero, i.size, i.bytes)) = some (some (.int .i32 0), 1, 4) := by kernel_rfl
theorem und_el : Tryz.prog.underlying 37 = some (.slice 21) := Tryz.underlying37

set_option maxRecDepth 100000 in
theorem clone_nil (n c : Nat) (w : World) : Calls Tryz.prog 105 #[.slice none n c] w fun e w' => e = .returned (.slice none 0 0) ∧ w' = w := by
  have q : ∀ (w : World) (a : Option Addr) (n c n' c' : Nat), (binOp .eql 37 (.slice a n c) (.slice none n' c')).run Tryz.prog w = .ok (.bool a.isNone) w := fun w a n c n' c' => Go.Lib.run_eql_slice_nil w _ _ a n c n' c' und_el
  go_enter Tryz.func105, Tryz.ntmps105
  go_wp2
  go_ret
  exact ⟨rfl, rfl⟩
set_option maxRecDepth 100000 in
theorem clone_some (l : List Int) (hbig : l.length * 4 ≤ 140737488355328) (b off c : Nat) (w : World) (hc : ∀ j, j < l.length → w.cell? ⟨b, off + j, none⟩ = some (.int .i32 (l.getD j 0))) :
    Calls Tryz.prog 105 #[.slice (some ⟨b, off, none⟩) l.length c] w fun e w' => ∃ v', e = .returned v' ∧ w'.ownsRow w.heap.size 21 1 v' l.length (l.map (Value.int .i32)) ∧ Below w.heap.size w w' := by
  obtain ⟨i0, hi, hz0, hz1, hz2⟩ := info_parts info_el
  have q : ∀ (w : World) (a : Option Addr) (n c n' c' : Nat), (binOp .eql 37 (.slice a n c) (.slice none n' c')).run Tryz.prog w = .ok (.bool a.isNone) w := fun w a n c n' c' => Go.Lib.run_eql_slice_nil w _ _ a n c n' c' und_el
  have u : ∀ w, Sem.run Tryz.prog (underlying 37) w = .ok (TypeDesc.slice 21) w := run_underlying und_el
  have X : Aside (∀ j, j < l.length → w.cell? ⟨b, off + j, none⟩ = some (.int .i32 (l.getD j 0))) := hc
  have Y : Aside (l.length * 4 ≤ 140737488355328) := hbig
  clear hc hbig
  generalize hn : l.length = n at *
  go_enter Tryz.func105, Tryz.ntmps105
  go_wp2_with (at_builtin; refine wpList_append_own _ rfl _ _ 37 rfl w.heap.size 21 i0 (.int .i32 0) 1 4 und_el hi hz0 hz1 hz2 rfl (by decide) _ _ _ rfl (World.ownsRow_made w #[] 0 (Nat.le_refl _) (Nat.zero_le _) rfl) ⟨b, off, none⟩ n c (l.map (Value.int .i32)) rfl ?qc1 ?qc2 ?qc3 ?qc4 ?qc5 ?qc6 ?_)
  case qc1 => simp [hn]
  case qc2 =>
    intro j u hj
    have hjn : j < n := by
      have := (List.getElem?_eq_some_iff.1 hj).1
      simpa [hn] using this
    rw [Addr.add_lit]
    refine Go.Lib.cell?_alloc_some _ ?_
    rw [X.out j hjn]
    have e : (l.map (Value.int .i32))[j]? = some (Value.int .i32 (l.getD j 0)) := by simp [List.getD, hn, hjn, List.getElem?_eq_getElem (show j < l.length by omega)]
    rw [e] at hj
    exact hj
  case qc3 => intro u hu; obtain ⟨x, _, rfl⟩ := List.mem_map.1 hu; rfl
  case qc4 => have := Y.out; unfold maxLen; omega
  case qc5 => have := Y.out; omega
  case qc6 => simp
  intro v' w1 hown hgrow hnil
  go_wp2
  go_ret
  refine ⟨v', rfl, by simpa using hown, ?_⟩
  exact ((Below.refl _ w).alloc (Nat.le_refl _) _).grown hgrow (by simp) (by intro k hk; simp [Value.ownBlock] at hk; omega)
set_option maxRecDepth 100000 in
theorem clone_zero (a : Addr) (c : Nat) (w : World) : Calls Tryz.prog 105 #[.slice (some a) 0 c] w fun e w' => ∃ v', e = .returned v' ∧ w'.ownsRow w.heap.size 21 1 v' 0 [] ∧ Below w.heap.size w w' := by
  obtain ⟨i0, hi, hz0, hz1, hz2⟩ := info_parts info_el
  have q : ∀ (w : World) (a : Option Addr) (n c n' c' : Nat), (binOp .eql 37 (.slice a n c) (.slice none n' c')).run Tryz.prog w = .ok (.bool a.isNone) w := fun w a n c n' c' => Go.Lib.run_eql_slice_nil w _ _ a n c n' c' und_el
  have u : ∀ w, Sem.run Tryz.prog (underlying 37) w = .ok (TypeDesc.slice 21) w := run_underlying und_el
  go_enter Tryz.func105, Tryz.ntmps105
  go_wp2_with (at_builtin; refine wpList_append_own _ rfl _ _ 37 rfl w.heap.size 21 i0 (.int .i32 0) 1 4 und_el hi hz0 hz1 hz2 rfl (by decide) _ _ _ rfl (World.ownsRow_made w #[] 0 (Nat.le_refl _) (Nat.zero_le _) rfl) a 0 c [] rfl rfl (by intro j u hj; simp at hj) (by intro u hu; cases hu) (by unfold maxLen; omega) (by omega) (by simp) ?_)
  intro v' w1 hown hgrow hnil
  go_wp2
  go_ret
  refine ⟨v', rfl, by simpa using hown, ?_⟩
  exact ((Below.refl _ w).alloc (Nat.le_refl _) _).grown hgrow (by simp) (by intro k hk; simp [Value.ownBlock] at hk; omega)
theorem spec_clone (l : List Int) (hl : l.length * 4 ≤ 140737488355328) : Spec Tryz.prog 0 105 [vL (LI .i32 l)] [] [] (vL (LI .i32 l)) [] [] :=
  spec_clone_of Tryz.func105 rfl (by decide) l clone_nil (clone_some l hl) clone_zero

theorem run_grow (w : World) (ty : TypeId) (a : Option Addr) (n : Nat) (h0 : 0 < n) (hb : n * 4 ≤ 140737488355328) :
    (Builtin.append_ #[37, 3] ty #[.slice a 0 0, .int .i64 n]).run Tryz.prog w = .ok (.slice (some ⟨w.heap.size, 0, none⟩) n (grownCap w n 0 21)) (w.drew.alloc (.cells (Builtin.zeroCells #[.int .i32 0] n ++ Builtin.zeroCells #[.int .i32 0] (grownCap w n 0 21 - n)) 21)) := by
  obtain ⟨i0, hi, hz0, hz1, hz2⟩ := info_parts info_el
  have ut : Sem.run Tryz.prog (underlying 37) w = .ok (TypeDesc.slice 21) w := run_underlying und_el w
  have ui : ∀ w, Sem.run Tryz.prog (underlying 3) w = .ok (TypeDesc.int .i64) w := run_underlying Tryz.underlying3
  have hn0 : n ≠ 0 := by omega
  have hw : IntKind.i64.wrap (n : Int) = n := IntWalk.i64_in _ (by omega)
  have c1 : ¬ (9223372036854775807 < (n : Int)) := by omega
  have c2 : ¬ (281474976710656 < Builtin.nextslicecap n 0 * i0.bytes) := by rw [nextslicecap_zero h0, hz2]; omega
  have c3 : ¬ (281474976710656 < (n : Int) * (i0.bytes : Int)) := by rw [hz2]; omega
  have c4 : ¬ ((n : Int) < 0) := by omega
  have c5 : ¬ (n * i0.size = 0) := by rw [hz1]; omega
  have c6 : ∀ w, (Builtin.firstCells i0.size 0 (.slice a 0 0)).run Tryz.prog w = .ok #[] w := fun w => by
    cases a <;> simp [Builtin.firstCells, loadCells, loadCellsFrom]
  have zc : (Value.cells (.int .i32 0)) = #[.int .i32 0] := rfl
  simp [Builtin.append_, run_underlying und_el, run_underlying Tryz.underlying3, sizeOf, typeInfo, zeroValue, hi, hz0, asInt, asIntOf, hw, hn0, c4, c5, c1, c2, c3, Question.forced, c6, newRow, grownCap, zc]
set_option maxRecDepth 100000 in
theorem grow_calls (n : Nat) (hb : n * 4 ≤ 140737488355328) (a : Option Addr) (w : World) : Calls Tryz.prog 121 #[.slice a 0 0, .int .i64 n] w (Grew a w) := by
  have u : ∀ w, Sem.run Tryz.prog (underlying 37) w = .ok (TypeDesc.slice 21) w := run_underlying und_el
  have h1 : ¬ ((n : Int) < 0) := by omega
  have h2 : wrap64 ((0 : Int) - (0 : Int)) = 0 := by unfold wrap64; decide
  have h3 : wrap64 ((n : Int) - 0) = (n : Int) := by unfold wrap64; omega
  by_cases h0 : n = 0
  · subst h0
    go_enter Tryz.func121, Tryz.ntmps121
    go_wp2
    go_ret
    exact .inl ⟨rfl, rfl⟩
  · have h4 : ((n : Int) > 0) := by omega
    have hr := fun ty => run_grow w ty a n (by omega) hb
    have hG : n ≤ grownCap w n 0 21 := grownCap_ge w _ _ _
    have hG2 : grownCap w n 0 21 ≤ 9223372036854775807 := grownCap_le_maxLen w n 0 21 (by unfold maxLen; omega)
    generalize grownCap w n 0 21 = G at *
    go_enter Tryz.func121, Tryz.ntmps121
    go_wp2_with (at_builtin; refine wpList_appended rfl rfl rfl rfl hr ?_)
    all_goals
      go_ret
      refine .inr ⟨G, Builtin.zeroCells #[.int .i32 0] n ++ Builtin.zeroCells #[.int .i32 0] (G - n), 21, rfl, rfl, ?_, rfl, rfl, rfl⟩
      simp [Builtin.zeroCells]
      omega
theorem spec_grow0 (n : Nat) (hb : n * 4 ≤ 140737488355328) : Spec Tryz.prog 0 121 [.c .nil, vI .i64 n] [] [] (.c (.own ⟨0, 9⟩ [])) [] [(⟨0, 9⟩, ⟨false, 1, []⟩)] :=
  spec_grow_of Tryz.func121 rfl (by decide) n (grow_calls n hb)

theorem spec_grow (n : Int) (h : 0 ≤ n ∧ n * 4 ≤ 140737488355328) : Spec Tryz.prog 0 121 [.c .nil, vI .i64 n] [] [] (.c (.own ⟨0, 9⟩ [])) [] [(⟨0, 9⟩, ⟨false, 1, []⟩)] := by
  have := spec_grow0 n.toNat (by omega)
  rw [show ((n.toNat : Nat) : Int) = n by omega] at this
  exact this
def E_grow : List V → Boxes → Toks → Name → Option Ent
  | [.c .nil, .c (.d (.int .i64 n))], [], [], nF => some ⟨(0 ≤ n ∧ n * 4 ≤ 140737488355328), .c (.own nF []), [], [(nF, ⟨false, 1, []⟩)]⟩
  | _, _, _, _ => none
def E_grow_eq := And.intro (@E_grow.eq_1) (@E_grow.eq_1)
theorem E_grow_ok : Snd Tryz.prog 121 E_grow := by
  intro vs b k n e h hn hp
  unfold E_grow at h
  split at h
  · cases h; have hp0 := hp; exact Spec.ren1 (spec_grow _ hp0) 9 (by simp [supOK, V.names, C.names, namesB, namesK]) (Nat.le_of_eq hn) 
  · cases h
def E_clone : List V → Boxes → Toks → Name → Option Ent
  | [.c (.d (.list q_l))], [], [], _ => some ⟨(ints q_l).length * 4 ≤ 140737488355328 ∧ q_l = LI .i32 (ints q_l), vL (LI .i32 (ints q_l)), [], []⟩
  | _, _, _, _ => none
def E_clone_eq := And.intro (@E_clone.eq_1) (@E_clone.eq_1)
theorem E_clone_ok : Snd Tryz.prog 105 E_clone := by
  intro vs b k n e h hn hp
  unfold E_clone at h
  split at h
  · cases h; obtain ⟨hp0, hq0⟩ := hp; obtain ⟨_, rfl⟩ := LI_ex hq0; simp only [ints_LI, bys_LB, blks_LK, lls_LL] at hp0 ⊢; exact (spec_clone _ hp0).lift rfl _
  · cases h


theorem info_el64 : (Tryz.prog.info? 3).map (fun i => (i.zero, i.size, i.bytes)) = some (some (.int .i64 0), 1, 8) := by kernel_rfl
theorem und_el64 : Tryz.prog.underlying 26 = some (.slice 3) := Tryz.underlying26

set_option maxRecDepth 100000 in
theorem clone64_nil (n c : Nat) (w : World) : Calls Tryz.prog 29 #[.slice none n c] w fun e w' => e = .returned (.slice none 0 0) ∧ w' = w := by
  have q : ∀ (w : World) (a : Option Addr) (n c n' c' : Nat), (binOp .eql 26 (.slice a n c) (.slice none n' c')).run Tryz.prog w = .ok (.bool a.isNone) w := fun w a n c n' c' => Go.Lib.run_eql_slice_nil w _ _ a n c n' c' und_el64
  go_enter Tryz.func29, Tryz.ntmps29
  go_wp2
  go_ret
  exact ⟨rfl, rfl⟩
set_option maxRecDepth 100000 in
theorem clone64_some (l : List Int) (hbig : l.length * 8 ≤ 140737488355328) (b off c : Nat) (w : World) (hc : ∀ j, j < l.length → w.cell? ⟨b, off + j, none⟩ = some (.int .i64 (l.getD j 0))) :
    Calls Tryz.prog 29 #[.slice (some ⟨b, off, none⟩) l.length c] w fun e w' => ∃ v', e = .returned v' ∧ w'.ownsRow w.heap.size 3 1 v' l.length (l.map (Value.int .i64)) ∧ Below w.heap.size w w' := by
  obtain ⟨i0, hi, hz0, hz1, hz2⟩ := info_parts info_el64
  have q : ∀ (w : World) (a : Option Addr) (n c n' c' : Nat), (binOp .eql 26 (.slice a n c) (.slice none n' c')).run Tryz.prog w = .ok (.bool a.isNone) w := fun w a n c n' c' => Go.Lib.run_eql_slice_nil w _ _ a n c n' c' und_el64
  have u : ∀ w, Sem.run Tryz.prog (underlying 26) w = .ok (TypeDesc.slice 3) w := run_underlying und_el64
  have X : Aside (∀ j, j < l.length → w.cell? ⟨b, off + j, none⟩ = some (.int .i64 (l.getD j 0))) := hc
  have Y : Aside (l.length * 8 ≤ 140737488355328) := hbig
  clear hc hbig
  generalize hn : l.length = n at *
  go_enter Tryz.func29, Tryz.ntmps29
  go_wp2_with (at_builtin; refine wpList_append_own _ rfl _ _ 26 rfl w.heap.size 3 i0 (.int .i64 0) 1 8 und_el64 hi hz0 hz1 hz2 rfl (by decide) _ _ _ rfl (World.ownsRow_made w #[] 0 (Nat.le_refl _) (Nat.zero_le _) rfl) ⟨b, off, none⟩ n c (l.map (Value.int .i64)) rfl ?qc1 ?qc2 ?qc3 ?qc4 ?qc5 ?qc6 ?_)
  case qc1 => simp [hn]
  case qc2 =>
    intro j u hj
    have hjn : j < n := by
      have := (List.getElem?_eq_some_iff.1 hj).1
      simpa [hn] using this
    rw [Addr.add_lit]
    refine Go.Lib.cell?_alloc_some _ ?_
    rw [X.out j hjn]
    have e : (l.map (Value.int .i64))[j]? = some (Value.int .i64 (l.getD j 0)) := by simp [List.getD, hn, hjn, List.getElem?_eq_getElem (show j < l.length by omega)]
    rw [e] at hj
    exact hj
  case qc3 => intro u hu; obtain ⟨x, _, rfl⟩ := List.mem_map.1 hu; rfl
  case qc4 => have := Y.out; unfold maxLen; omega
  case qc5 => have := Y.out; omega
  case qc6 => simp
  intro v' w1 hown hgrow hnil
  go_wp2
  go_ret
  refine ⟨v', rfl, by simpa using hown, ?_⟩
  exact ((Below.refl _ w).alloc (Nat.le_refl _) _).grown hgrow (by simp) (by intro k hk; simp [Value.ownBlock] at hk; omega)
set_option maxRecDepth 100000 in
theorem clone64_zero (a : Addr) (c : Nat) (w : World) : Calls Tryz.prog 29 #[.slice (some a) 0 c] w fun e w' => ∃ v', e = .returned v' ∧ w'.ownsRow w.heap.size 3 1 v' 0 [] ∧ Below w.heap.size w w' := by
  obtain ⟨i0, hi, hz0, hz1, hz2⟩ := info_parts info_el64
  have q : ∀ (w : World) (a : Option Addr) (n c n' c' : Nat), (binOp .eql 26 (.slice a n c) (.slice none n' c')).run Tryz.prog w = .ok (.bool a.isNone) w := fun w a n c n' c' => Go.Lib.run_eql_slice_nil w _ _ a n c n' c' und_el64
  have u : ∀ w, Sem.run Tryz.prog (underlying 26) w = .ok (TypeDesc.slice 3) w := run_underlying und_el64
  go_enter Tryz.func29, Tryz.ntmps29
  go_wp2_with (at_builtin; refine wpList_append_own _ rfl _ _ 26 rfl w.heap.size 3 i0 (.int .i64 0) 1 8 und_el64 hi hz0 hz1 hz2 rfl (by decide) _ _ _ rfl (World.ownsRow_made w #[] 0 (Nat.le_refl _) (Nat.zero_le _) rfl) a 0 c [] rfl rfl (by intro j u hj; simp at hj) (by intro u hu; cases hu) (by unfold maxLen; omega) (by omega) (by simp) ?_)
  intro v' w1 hown hgrow hnil
  go_wp2
  go_ret
  refine ⟨v', rfl, by simpa using hown, ?_⟩
  exact ((Below.refl _ w).alloc (Nat.le_refl _) _).grown hgrow (by simp) (by intro k hk; simp [Value.ownBlock] at hk; omega)
theorem spec_clone64 (l : List Int) (hl : l.length * 8 ≤ 140737488355328) : Spec Tryz.prog 0 29 [vL (LI .i64 l)] [] [] (vL (LI .i64 l)) [] [] :=
  spec_clone_of Tryz.func29 rfl (by decide) l clone64_nil (clone64_some l hl) clone64_zero
def E_clone64 : List V → Boxes → Toks → Name → Option Ent
  | [.c (.d (.list q_l))], [], [], _ => some ⟨(ints q_l).length * 8 ≤ 140737488355328 ∧ q_l = LI .i64 (ints q_l), vL (LI .i64 (ints q_l)), [], []⟩
  | _, _, _, _ => none
def E_clone64_eq := And.intro (@E_clone64.eq_1) (@E_clone64.eq_1)
theorem E_clone64_ok : Snd Tryz.prog 29 E_clone64 := by
  intro vs b k n e h hn hp
  unfold E_clone64 at h
  split at h
  · cases h; obtain ⟨hp0, hq0⟩ := hp; obtain ⟨_, rfl⟩ := LI_ex hq0; simp only [ints_LI, bys_LB, blks_LK, lls_LL] at hp0 ⊢; exact (spec_clone64 _ hp0).lift rfl _
  · cases h


/-- A resampler. -/
structure Rs where
  c : Int
  p : Ph
  l : List Int
def rs0 : Rs := ⟨0, ⟨0, 0, 0, 0, 0⟩, []⟩
def rsV (x : Rs) : Bool := phV x.p && blkV x.c x.l
theorem rsV_in {x : Rs} (h : rsV x = true) : phV x.p = true ∧ blkV x.c x.l = true := by simpa [rsV] using h
theorem blk_in {c : Int} {l : List Int} (h : blkV c l = true) (hl : l.length ≤ 1000000) : (1 ≤ c ∧ c ≤ 8) ∧ l.length = l.length / c.toNat * c.toNat ∧ l.length / c.toNat ≤ 65536 ∧ l.all smpX = true := by
  obtain ⟨h1, h2⟩ := blkV_in h
  obtain ⟨k1, k2, k3⟩ := chBk_in h1
  exact ⟨⟨k1, k2⟩, k3, blkV_frames h hl, h2⟩
theorem smp_get {l : List Int} (h : l.all smpX = true) (i : Nat) : -8388608 ≤ l[i]?.getD 0 ∧ l[i]?.getD 0 ≤ 8388607 := by
  cases hi : l[i]? with
  | none => decide
  | some x => exact smpX_in (List.all_eq_true.1 h x (List.mem_of_getElem? hi))
def waN (x : Rs) : Int := if rsV x = true then ((x.l.length / x.c.toNat : Nat) : Int) else 0
def pnE (n d : Int) : Int := if phV ⟨n, d, 0, 0, 0⟩ = true then 0 else 1
def pnN (n d : Int) : Int := if pnE n d = 0 then n else 0
def pnD (n d : Int) : Int := if pnE n d = 0 then d else 0
def nwE (c n d : Int) : Int := if rsV ⟨c, ⟨n, d, 0, 0, 0⟩, []⟩ = true then 0 else 1
def nwR (c n d : Int) : Rs := if rsV ⟨c, ⟨n, d, 0, 0, 0⟩, []⟩ = true then ⟨c, ⟨n, d, 0, 0, 0⟩, []⟩ else rs0
def feE (x : Rs) (k : Int) (y : List Int) : Int := if (!rsV x || !blkV k y) = true then 1 else if k ≠ x.c then 11 else if 65536 < (x.l.length + y.length) / x.c.toNat then 3 else 0
def feR (x : Rs) (k : Int) (y : List Int) : Rs := if feE x k y = 0 then { x with l := x.l ++ y } else rs0
theorem sum_div {c : Int} {a b : Nat} (hc : 1 ≤ c) (h : a + b ≤ 9000000) : IntKind.i64.wrap ((IntKind.i64.wrap ((a : Int) + (b : Int))).tdiv c) = (((a + b) / c.toNat : Nat) : Int) := by
  have hz : (a + b) / c.toNat ≤ a + b := Nat.div_le_self ..
  have e : ((a : Int) + (b : Int)) = ((a + b : Nat) : Int) := by omega
  rw [e, IntWalk.i64_in ((a + b : Nat) : Int) (by omega), tdivN _ (by omega)]
  generalize (a + b) / c.toNat = z at *
  exact IntWalk.i64_in _ (by omega)
theorem len_div {c : Int} {a : Nat} (hc : 1 ≤ c) (h : a ≤ 9000000) : IntKind.i64.wrap ((a : Int).tdiv c) = ((a / c.toNat : Nat) : Int) := by
  have hz : a / c.toNat ≤ a := Nat.div_le_self ..
  rw [tdivN _ (by omega)]
  generalize a / c.toNat = z at *
  exact IntWalk.i64_in _ (by omega)
theorem gLL2 {x y : List Int} {i : Nat} : (([D.list (LI .i32 x), D.list (LI .i32 y)])[i]?).getD (D.list []) = D.list (LI .i32 (([x, y])[i]?.getD [])) := by
  match i with
  | 0 => rfl
  | 1 => rfl
  | i + 2 => rfl
def catN (x y : List Int) (i : Nat) : Nat := (([x, y].take i).map List.length).sum
def catL (x y : List Int) (i : Nat) : List Int := ([x, y].take i).flatten
theorem feE_ok {x : Rs} {k : Int} {y : List Int} (h : feE x k y = 0) : rsV x = true ∧ blkV k y = true ∧ k = x.c ∧ (x.l.length + y.length) / x.c.toNat ≤ 65536 := by
  unfold feE at h
  split at h
  · cases h
  · split at h
    · cases h
    · split at h
      · cases h
      · rename_i h1 h2 h3
        simp only [Bool.or_eq_true, Bool.not_eq_true', not_or, Bool.not_eq_false] at h1
        exact ⟨h1.1, h1.2, by simpa using h2, by omega⟩


theorem spec_rest (c n d a p f : Int) (l : List Int) : Spec Tryz.prog 0 90 [.agg [.d (.int .i64 c), .d (.int .i64 n), .d (.int .i64 d), .d (.int .i64 a), .d (.int .i64 p), .d (.int .i64 f), .d (.list (LI .i32 l))]] [] [] (.agg [.d (.int .i64 c), .d (.list (LI .i32 l))]) [] [] := by
  refine spec_of_E (X := ⟨Tryz.prog, tt, Tryz.f90.ntmps, 1, fun _ => 0, (tab [])⟩) (M := []) (m := 7) rfl rfl ⟨tt_ok, tab_ok tabs_nil _ rfl rfl⟩ tt_mixed Tryz.func90 rfl (by decide) (by show (1 : Nat) ≤ _; exact Nat.le_of_ble_eq_true rfl) ⟨fun m hm => (V.bare_has rfl m hm).elim, by simp, by simp⟩ ?_
  simp only [↓gPre, gPost, gCore, gDef, Nat.reduceShiftRight, Nat.reduceMod, if_true, if_false, ↓reduceIte, reduceCtorEq, Nat.reduceEqDiff, Nat.reduceLT, Nat.reduceLeDiff, implies_true, forall_const, eq_self, ne_eq, not_true_eq_false, not_false_eq_true, imp_self, Nat.reduceAdd, Nat.reduceMul, Int.reduceLE, Int.reduceLT, Int.reduceNeg, Int.reduceAdd, Int.reduceToNat, Tryz.ntmps90, Tryz.results90, gTT]

def E_rest : List V → Boxes → Toks → Name → Option Ent
  | [.agg [.d (.int .i64 c), .d (.int .i64 n), .d (.int .i64 d), .d (.int .i64 a), .d (.int .i64 p), .d (.int .i64 f), .d (.list q_l)]], [], [], _ => some ⟨q_l = LI .i32 (ints q_l), .agg [.d (.int .i64 c), .d (.list (LI .i32 (ints q_l)))], [], []⟩
  | _, _, _, _ => none
def E_rest_eq := And.intro (@E_rest.eq_1) (@E_rest.eq_1)
theorem E_rest_ok : Snd Tryz.prog 90 E_rest := by
  intro vs b k n e h hn hp
  unfold E_rest at h
  split at h
  · cases h; have hq0 := hp; obtain ⟨_, rfl⟩ := LI_ex hq0; simp only [ints_LI, bys_LB, blks_LK, lls_LL]; exact (spec_rest _ _ _ _ _ _ _).lift rfl _
  · cases h

theorem spec_rrest (c n d a p f : Int) (l : List Int) : Spec Tryz.prog 0 94 [.agg [.d (.int .i64 c), .d (.int .i64 n), .d (.int .i64 d), .d (.int .i64 a), .d (.int .i64 p), .d (.int .i64 f), .d (.list (LI .i32 l))]] [] [] (.agg [.d (.int .i64 c), .d (.list (LI .i32 l))]) [] [] := by
  refine spec_of_E (X := ⟨Tryz.prog, tt, Tryz.f94.ntmps, 1, fun _ => 0, (tab [])⟩) (M := []) (m := 7) rfl rfl ⟨tt_ok, tab_ok tabs_nil _ rfl rfl⟩ tt_mixed Tryz.func94 rfl (by decide) (by show (1 : Nat) ≤ _; exact Nat.le_of_ble_eq_true rfl) ⟨fun m hm => (V.bare_has rfl m hm).elim, by simp, by simp⟩ ?_
  simp only [↓gPre, gPost, gCore, gDef, Nat.reduceShiftRight, Nat.reduceMod, if_true, if_false, ↓reduceIte, reduceCtorEq, Nat.reduceEqDiff, Nat.reduceLT, Nat.reduceLeDiff, implies_true, forall_const, eq_self, ne_eq, not_true_eq_false, not_false_eq_true, imp_self, Nat.reduceAdd, Nat.reduceMul, Int.reduceLE, Int.reduceLT, Int.reduceNeg, Int.reduceAdd, Int.reduceToNat, Tryz.ntmps94, Tryz.results94, gTT]

def E_rrest : List V → Boxes → Toks → Name → Option Ent
  | [.agg [.d (.int .i64 c), .d (.int .i64 n), .d (.int .i64 d), .d (.int .i64 a), .d (.int .i64 p), .d (.int .i64 f), .d (.list q_l)]], [], [], _ => some ⟨q_l = LI .i32 (ints q_l), .agg [.d (.int .i64 c), .d (.list (LI .i32 (ints q_l)))], [], []⟩
  | _, _, _, _ => none
def E_rrest_eq := And.intro (@E_rrest.eq_1) (@E_rrest.eq_1)
theorem E_rrest_ok : Snd Tryz.prog 94 E_rrest := by
  intro vs b k n e h hn hp
  unfold E_rrest at h
  split at h
  · cases h; have hq0 := hp; obtain ⟨_, rfl⟩ := LI_ex hq0; simp only [ints_LI, bys_LB, blks_LK, lls_LL]; exact (spec_rrest _ _ _ _ _ _ _).lift rfl _
  · cases h

theorem spec_rsvalid (c n d a p f : Int) (l : List Int) (hl : l.length ≤ 1000000) : Spec Tryz.prog 0 46 [.agg [.d (.int .i64 c), .d (.int .i64 n), .d (.int .i64 d), .d (.int .i64 a), .d (.int .i64 p), .d (.int .i64 f), .d (.list (LI .i32 l))]] [] [] (vB (rsV ⟨c, ⟨n, d, a, p, f⟩, l⟩)) [] [] := by
  refine spec_of_E (X := ⟨Tryz.prog, tt, Tryz.f46.ntmps, 1, fun _ => 0, (tab [(88, E_phvalid), (90, E_rest), (89, E_bvalid)])⟩) (M := []) (m := 7) rfl rfl ⟨tt_ok, tab_ok (tabs_cons E_phvalid_ok (tabs_cons E_rest_ok (tabs_cons E_bvalid_ok tabs_nil))) _ rfl rfl⟩ tt_mixed Tryz.func46 rfl (by decide) (by show (1 : Nat) ≤ _; exact Nat.le_of_ble_eq_true rfl) ⟨fun m hm => (V.bare_has rfl m hm).elim, by simp, by simp⟩ ?_
  simp only [↓gPre, gPost, gCore, gDef, Nat.reduceShiftRight, Nat.reduceMod, if_true, if_false, ↓reduceIte, reduceCtorEq, Nat.reduceEqDiff, Nat.reduceLT, Nat.reduceLeDiff, implies_true, forall_const, eq_self, ne_eq, not_true_eq_false, not_false_eq_true, imp_self, Nat.reduceAdd, Nat.reduceMul, Int.reduceLE, Int.reduceLT, Int.reduceNeg, Int.reduceAdd, Int.reduceToNat, E_phvalid_eq, E_rest_eq, E_bvalid_eq, Tryz.ntmps46, Tryz.results46, gTT]
  exact ⟨fun _ => hl, rfl⟩
def E_rsvalid : List V → Boxes → Toks → Name → Option Ent
  | [.agg [.d (.int .i64 c), .d (.int .i64 n), .d (.int .i64 d), .d (.int .i64 a), .d (.int .i64 p), .d (.int .i64 f), .d (.list q_l)]], [], [], _ => some ⟨(ints q_l).length ≤ 1000000 ∧ q_l = LI .i32 (ints q_l), vB (rsV ⟨c, ⟨n, d, a, p, f⟩, (ints q_l)⟩), [], []⟩
  | _, _, _, _ => none
def E_rsvalid_eq := And.intro (@E_rsvalid.eq_1) (@E_rsvalid.eq_1)
theorem E_rsvalid_ok : Snd Tryz.prog 46 E_rsvalid := by
  intro vs b k n e h hn hp
  unfold E_rsvalid at h
  split at h
  · cases h; obtain ⟨hp0, hq0⟩ := hp; obtain ⟨_, rfl⟩ := LI_ex hq0; simp only [ints_LI, bys_LB, blks_LK, lls_LL] at hp0 ⊢; exact (spec_rsvalid _ _ _ _ _ _ _ hp0).lift rfl _
  · cases h

theorem spec_rrsvalid (c n d a p f : Int) (l : List Int) (hl : l.length ≤ 1000000) : Spec Tryz.prog 0 63 [.agg [.d (.int .i64 c), .d (.int .i64 n), .d (.int .i64 d), .d (.int .i64 a), .d (.int .i64 p), .d (.int .i64 f), .d (.list (LI .i32 l))]] [] [] (vB (rsV ⟨c, ⟨n, d, a, p, f⟩, l⟩)) [] [] := by
  refine spec_of_E (X := ⟨Tryz.prog, tt, Tryz.f63.ntmps, 1, fun _ => 0, (tab [(93, E_rphvalid), (94, E_rrest), (71, E_rbvalid)])⟩) (M := []) (m := 7) rfl rfl ⟨tt_ok, tab_ok (tabs_cons E_rphvalid_ok (tabs_cons E_rrest_ok (tabs_cons E_rbvalid_ok tabs_nil))) _ rfl rfl⟩ tt_mixed Tryz.func63 rfl (by decide) (by show (1 : Nat) ≤ _; exact Nat.le_of_ble_eq_true rfl) ⟨fun m hm => (V.bare_has rfl m hm).elim, by simp, by simp⟩ ?_
  simp only [↓gPre, gPost, gCore, gDef, Nat.reduceShiftRight, Nat.reduceMod, if_true, if_false, ↓reduceIte, reduceCtorEq, Nat.reduceEqDiff, Nat.reduceLT, Nat.reduceLeDiff, implies_true, forall_const, eq_self, ne_eq, not_true_eq_false, not_false_eq_true, imp_self, Nat.reduceAdd, Nat.reduceMul, Int.reduceLE, Int.reduceLT, Int.reduceNeg, Int.reduceAdd, Int.reduceToNat, E_rphvalid_eq, E_rrest_eq, E_rbvalid_eq, Tryz.ntmps63, Tryz.results63, gTT]
  exact ⟨fun _ => hl, rfl⟩
def E_rrsvalid : List V → Boxes → Toks → Name → Option Ent
  | [.agg [.d (.int .i64 c), .d (.int .i64 n), .d (.int .i64 d), .d (.int .i64 a), .d (.int .i64 p), .d (.int .i64 f), .d (.list q_l)]], [], [], _ => some ⟨(ints q_l).length ≤ 1000000 ∧ q_l = LI .i32 (ints q_l), vB (rsV ⟨c, ⟨n, d, a, p, f⟩, (ints q_l)⟩), [], []⟩
  | _, _, _, _ => none
def E_rrsvalid_eq := And.intro (@E_rrsvalid.eq_1) (@E_rrsvalid.eq_1)
theorem E_rrsvalid_ok : Snd Tryz.prog 63 E_rrsvalid := by
  intro vs b k n e h hn hp
  unfold E_rrsvalid at h
  split at h
  · cases h; obtain ⟨hp0, hq0⟩ := hp; obtain ⟨_, rfl⟩ := LI_ex hq0; simp only [ints_LI, bys_LB, blks_LK, lls_LL] at hp0 ⊢; exact (spec_rrsvalid _ _ _ _ _ _ _ hp0).lift rfl _
  · cases h

theorem spec_pnew (n d : Int) : Spec Tryz.prog 0 56 [.agg [.d (.int .i64 n), .d (.int .i64 d)]] [] [] (.tup [.agg [.int .i64 (pnN n d), .int .i64 (pnD n d), .int .i64 0, .int .i64 0, .int .i64 0], .int .i64 (pnE n d)]) [] [] := by
  refine spec_of_E (X := ⟨Tryz.prog, tt, Tryz.f56.ntmps, 1, fun _ => 0, (tab [(88, E_phvalid)])⟩) (M := []) (m := 543) rfl rfl ⟨tt_ok, tab_ok (tabs_cons E_phvalid_ok tabs_nil) _ rfl rfl⟩ tt_mixed Tryz.func56 rfl (by decide) (by show (1 : Nat) ≤ _; exact Nat.le_of_ble_eq_true rfl) ⟨by simp [V.has, C.has], by simp [C.has], by simp⟩ ?_
  simp only [↓gPre, gPost, gCore, gDef, Nat.reduceShiftRight, Nat.reduceMod, if_true, if_false, ↓reduceIte, reduceCtorEq, Nat.reduceEqDiff, Nat.reduceLT, Nat.reduceLeDiff, implies_true, forall_const, eq_self, ne_eq, not_true_eq_false, not_false_eq_true, imp_self, Nat.reduceAdd, Nat.reduceMul, Int.reduceLE, Int.reduceLT, Int.reduceNeg, Int.reduceAdd, Int.reduceToNat, E_phvalid_eq, Tryz.ntmps56, Tryz.results56, gTT]
  refine ⟨fun h => ?_, fun h => ?_⟩
  · simp [pnN, pnD, pnE, h]
  · have h' : phV ⟨n, d, 0, 0, 0⟩ = true := by simpa using h
    simp [pnN, pnD, pnE, h']
def E_pnew : List V → Boxes → Toks → Name → Option Ent
  | [.agg [.d (.int .i64 n), .d (.int .i64 d)]], [], [], _ => some ⟨True, .tup [.agg [.int .i64 (pnN n d), .int .i64 (pnD n d), .int .i64 0, .int .i64 0, .int .i64 0], .int .i64 (pnE n d)], [], []⟩
  | _, _, _, _ => none
def E_pnew_eq := And.intro (@E_pnew.eq_1) (@E_pnew.eq_1)
theorem E_pnew_ok : Snd Tryz.prog 56 E_pnew := by
  intro vs b k n e h hn hp
  unfold E_pnew at h
  split at h
  · cases h; exact (spec_pnew _ _).lift rfl _
  · cases h

theorem spec_rsnew (c n d : Int) : Spec Tryz.prog 0 23 [vI .i64 c, .agg [.d (.int .i64 n), .d (.int .i64 d)]] [] [] (.tup [.agg [.int .i64 (nwR c n d).c, .int .i64 (nwR c n d).p.n, .int .i64 (nwR c n d).p.d, .int .i64 (nwR c n d).p.a, .int .i64 (nwR c n d).p.p, .int .i64 (nwR c n d).p.f, .list (LI .i32 (nwR c n d).l)], .int .i64 (nwE c n d)]) [] [] := by
  refine spec_of_E (X := ⟨Tryz.prog, tt, Tryz.f23.ntmps, 1, fun _ => 0, (tab [(56, E_pnew), (46, E_rsvalid)])⟩) (M := []) (m := 8389115) rfl rfl ⟨tt_ok, tab_ok (tabs_cons E_pnew_ok (tabs_cons E_rsvalid_ok tabs_nil)) _ rfl rfl⟩ tt_mixed Tryz.func23 rfl (by decide) (by show (2 : Nat) ≤ _; exact Nat.le_of_ble_eq_true rfl) ⟨fun m hm => (V.bare_has rfl m hm).elim, by simp, by simp⟩ ?_
  simp only [↓gPre, gPost, gCore, gDef, Nat.reduceShiftRight, Nat.reduceMod, if_true, if_false, ↓reduceIte, reduceCtorEq, Nat.reduceEqDiff, Nat.reduceLT, Nat.reduceLeDiff, implies_true, forall_const, eq_self, ne_eq, not_true_eq_false, not_false_eq_true, imp_self, Nat.reduceAdd, Nat.reduceMul, Int.reduceLE, Int.reduceLT, Int.reduceNeg, Int.reduceAdd, Int.reduceToNat, E_pnew_eq, E_rsvalid_eq, Tryz.ntmps23, Tryz.results23, gTT]
  refine ⟨fun h => ?_, fun h => ?_⟩
  · have e : rsV ⟨c, ⟨n, d, 0, 0, 0⟩, []⟩ = false := by
      by_cases hp : phV ⟨n, d, 0, 0, 0⟩ = true
      · have e1 : pnE n d = 0 := by simp [pnE, hp]
        simp [pnN, pnD, e1] at h; exact h
      · simp [rsV, hp]
    simp [nwR, nwE, e, rs0, LI_nil]
  · have hp : pnE n d = 0 := by simp at h; exact h.1
    simp [pnN, pnD, hp] at h ⊢
    simp [nwR, nwE, h, LI_nil]
def E_rsnew : List V → Boxes → Toks → Name → Option Ent
  | [.c (.d (.int .i64 c)), .agg [.d (.int .i64 n), .d (.int .i64 d)]], [], [], _ => some ⟨True, .tup [.agg [.int .i64 (nwR c n d).c, .int .i64 (nwR c n d).p.n, .int .i64 (nwR c n d).p.d, .int .i64 (nwR c n d).p.a, .int .i64 (nwR c n d).p.p, .int .i64 (nwR c n d).p.f, .list (LI .i32 (nwR c n d).l)], .int .i64 (nwE c n d)], [], []⟩
  | _, _, _, _ => none
def E_rsnew_eq := And.intro (@E_rsnew.eq_1) (@E_rsnew.eq_1)
theorem E_rsnew_ok : Snd Tryz.prog 23 E_rsnew := by
  intro vs b k n e h hn hp
  unfold E_rsnew at h
  split at h
  · cases h; exact (spec_rsnew _ _ _).lift rfl _
  · cases h

theorem spec_rrsnew (c n d : Int) : Spec Tryz.prog 0 27 [vI .i64 c, .agg [.d (.int .i64 n), .d (.int .i64 d)]] [] [] (.tup [.agg [.int .i64 (nwR c n d).c, .int .i64 (nwR c n d).p.n, .int .i64 (nwR c n d).p.d, .int .i64 (nwR c n d).p.a, .int .i64 (nwR c n d).p.p, .int .i64 (nwR c n d).p.f, .list (LI .i32 (nwR c n d).l)], .int .i64 (nwE c n d)]) [] [] := by
  refine spec_of_E (X := ⟨Tryz.prog, tt, Tryz.f27.ntmps, 1, fun _ => 0, (tab [(63, E_rrsvalid)])⟩) (M := []) (m := 8315) rfl rfl ⟨tt_ok, tab_ok (tabs_cons E_rrsvalid_ok tabs_nil) _ rfl rfl⟩ tt_mixed Tryz.func27 rfl (by decide) (by show (2 : Nat) ≤ _; exact Nat.le_of_ble_eq_true rfl) ⟨fun m hm => (V.bare_has rfl m hm).elim, by simp, by simp⟩ ?_
  simp only [↓gPre, gPost, gCore, gDef, Nat.reduceShiftRight, Nat.reduceMod, if_true, if_false, ↓reduceIte, reduceCtorEq, Nat.reduceEqDiff, Nat.reduceLT, Nat.reduceLeDiff, implies_true, forall_const, eq_self, ne_eq, not_true_eq_false, not_false_eq_true, imp_self, Nat.reduceAdd, Nat.reduceMul, Int.reduceLE, Int.reduceLT, Int.reduceNeg, Int.reduceAdd, Int.reduceToNat, E_rrsvalid_eq, Tryz.ntmps27, Tryz.results27, gTT]
  refine ⟨fun h => ?_, fun h => ?_⟩
  · simp [nwR, nwE, h, rs0, LI_nil]
  · simp at h
    simp [nwR, nwE, h, LI_nil]
def E_rrsnew : List V → Boxes → Toks → Name → Option Ent
  | [.c (.d (.int .i64 c)), .agg [.d (.int .i64 n), .d (.int .i64 d)]], [], [], _ => some ⟨True, .tup [.agg [.int .i64 (nwR c n d).c, .int .i64 (nwR c n d).p.n, .int .i64 (nwR c n d).p.d, .int .i64 (nwR c n d).p.a, .int .i64 (nwR c n d).p.p, .int .i64 (nwR c n d).p.f, .list (LI .i32 (nwR c n d).l)], .int .i64 (nwE c n d)], [], []⟩
  | _, _, _, _ => none
def E_rrsnew_eq := And.intro (@E_rrsnew.eq_1) (@E_rrsnew.eq_1)
theorem E_rrsnew_ok : Snd Tryz.prog 27 E_rrsnew := by
  intro vs b k n e h hn hp
  unfold E_rrsnew at h
  split at h
  · cases h; exact (spec_rrsnew _ _ _).lift rfl _
  · cases h

theorem spec_rwaiting (c n d a p f : Int) (l : List Int) (hl : l.length ≤ 1000000) : Spec Tryz.prog 0 74 [.agg [.d (.int .i64 c), .d (.int .i64 n), .d (.int .i64 d), .d (.int .i64 a), .d (.int .i64 p), .d (.int .i64 f), .d (.list (LI .i32 l))]] [] [] (vI .i64 (waN ⟨c, ⟨n, d, a, p, f⟩, l⟩)) [] [] := by
  refine spec_of_E (X := ⟨Tryz.prog, tt, Tryz.f74.ntmps, 1, fun _ => 0, (tab [(63, E_rrsvalid)])⟩) (M := []) (m := 39) rfl rfl ⟨tt_ok, tab_ok (tabs_cons E_rrsvalid_ok tabs_nil) _ rfl rfl⟩ tt_mixed Tryz.func74 rfl (by decide) (by show (1 : Nat) ≤ _; exact Nat.le_of_ble_eq_true rfl) ⟨by simp [V.has, C.has], by simp [C.has], by simp⟩ ?_
  simp only [↓gPre, gPost, gCore, gDef, Nat.reduceShiftRight, Nat.reduceMod, if_true, if_false, ↓reduceIte, reduceCtorEq, Nat.reduceEqDiff, Nat.reduceLT, Nat.reduceLeDiff, implies_true, forall_const, eq_self, ne_eq, not_true_eq_false, not_false_eq_true, imp_self, Nat.reduceAdd, Nat.reduceMul, Int.reduceLE, Int.reduceLT, Int.reduceNeg, Int.reduceAdd, Int.reduceToNat, E_rrsvalid_eq, Tryz.ntmps74, Tryz.results74, gTT]
  refine ⟨hl, fun h => by simp [waN, h], fun h => ?_⟩
  have hv : rsV ⟨c, ⟨n, d, a, p, f⟩, l⟩ = true := by simpa using h
  obtain ⟨⟨k1, k2⟩, k3, k4, k5⟩ := blk_in (rsV_in hv).2 hl
  simp only at k1 k2
  refine ⟨by omega, ?_⟩
  rw [len_div k1 (by omega)]
  simp [waN, hv]
def E_rwaiting : List V → Boxes → Toks → Name → Option Ent
  | [.agg [.d (.int .i64 c), .d (.int .i64 n), .d (.int .i64 d), .d (.int .i64 a), .d (.int .i64 p), .d (.int .i64 f), .d (.list q_l)]], [], [], _ => some ⟨(ints q_l).length ≤ 1000000 ∧ q_l = LI .i32 (ints q_l), vI .i64 (waN ⟨c, ⟨n, d, a, p, f⟩, (ints q_l)⟩), [], []⟩
  | _, _, _, _ => none
def E_rwaiting_eq := And.intro (@E_rwaiting.eq_1) (@E_rwaiting.eq_1)
theorem E_rwaiting_ok : Snd Tryz.prog 74 E_rwaiting := by
  intro vs b k n e h hn hp
  unfold E_rwaiting at h
  split at h
  · cases h; obtain ⟨hp0, hq0⟩ := hp; obtain ⟨_, rfl⟩ := LI_ex hq0; simp only [ints_LI, bys_LB, blks_LK, lls_LL] at hp0 ⊢; exact (spec_rwaiting _ _ _ _ _ _ _ hp0).lift rfl _
  · cases h

theorem spec_concat (x y : List Int) (hx : x.length ≤ 1000000) (hy : y.length ≤ 1000000) : Spec Tryz.prog 0 114 [.c (.d (.list [.list (LI .i32 x), .list (LI .i32 y)]))] [] [] (vL (LI .i32 (x ++ y))) [] [] := by
  refine spec_of_E (X := ⟨Tryz.prog, tt, Tryz.f114.ntmps, 1, fun s => if s = 24 then 3 else 0, (tab [(121, E_grow)])⟩) (M := []) (m := 504373101) rfl rfl ⟨tt_ok, tab_ok (tabs_cons E_grow_ok tabs_nil) _ rfl rfl⟩ tt_mixed Tryz.func114 rfl (by decide) (by show (1 : Nat) ≤ _; exact Nat.le_of_ble_eq_true rfl) ⟨fun m hm => (V.bare_has rfl m hm).elim, by simp, by simp⟩ ?_
  simp only [↓gPre, gPost, gCore, gDef, Nat.reduceShiftRight, Nat.reduceMod, if_true, if_false, ↓reduceIte, reduceCtorEq, Nat.reduceEqDiff, Nat.reduceLT, Nat.reduceLeDiff, implies_true, forall_const, eq_self, ne_eq, not_true_eq_false, not_false_eq_true, imp_self, Nat.reduceAdd, Nat.reduceMul, Int.reduceLE, Int.reduceLT, Int.reduceNeg, Int.reduceAdd, Int.reduceToNat, E_grow_eq, gLL2, Tryz.ntmps114, Tryz.results114, gTT]
  have hb : ∀ i : Nat, i ≤ 2 → (catN x y i ≤ 2000000) := fun i hi => by
    have : i = 0 ∨ i = 1 ∨ i = 2 := by omega
    rcases this with rfl | rfl | rfl <;> simp [catN, catL] <;> omega
  have hs : ∀ i : Nat, i < 2 → catN x y (i + 1) = catN x y i + (([x, y])[i]?.getD []).length := fun i hi => by
    have : i = 0 ∨ i = 1 := by omega
    rcases this with rfl | rfl <;> simp [catN, catL]
  have hf : ∀ i : Nat, i < 2 → catL x y (i + 1) = catL x y i ++ (([x, y])[i]?.getD []) := fun i hi => by
    have : i = 0 ∨ i = 1 := by omega
    rcases this with rfl | rfl <;> simp [catN, catL]
  have hl : ∀ i : Nat, i ≤ 2 → (catL x y i).length ≤ 2000000 := fun i hi => by
    have : i = 0 ∨ i = 1 ∨ i = 2 := by omega
    rcases this with rfl | rfl | rfl <;> simp [catN, catL] <;> omega
  have hg : ∀ i : Nat, (([x, y])[i]?.getD []).length ≤ 1000000 := fun i => by
    match i with
    | 0 => exact hx
    | 1 => exact hy
    | i + 2 => exact Nat.zero_le _
  refine ELoop_keep (fun i => ⟨[(11, vI .i64 (i : Nat)), (3, vI .i64 ((catN x y i : Nat) : Int))], [], []⟩) (fun i => i ≤ 2) (fun i => 2 - i) (· + 1) 0 (by decide) ?_ ?_
  · simp only [↓gPre, gPost, gCore, gDef, Nat.reduceShiftRight, Nat.reduceMod, if_true, if_false, ↓reduceIte, reduceCtorEq, Nat.reduceEqDiff, Nat.reduceLT, Nat.reduceLeDiff, implies_true, forall_const, eq_self, ne_eq, not_true_eq_false, not_false_eq_true, imp_self, Nat.reduceAdd, Nat.reduceMul, Int.reduceLE, Int.reduceLT, Int.reduceNeg, Int.reduceAdd, Int.reduceToNat, E_grow_eq, gLL2, Tryz.ntmps114, Tryz.results114, gTT]
    exact ⟨rfl, rfl⟩
  intro i hi
  simp only [↓gPre, gPost, gCore, gDef, Nat.reduceShiftRight, Nat.reduceMod, if_true, if_false, ↓reduceIte, reduceCtorEq, Nat.reduceEqDiff, Nat.reduceLT, Nat.reduceLeDiff, implies_true, forall_const, eq_self, ne_eq, not_true_eq_false, not_false_eq_true, imp_self, Nat.reduceAdd, Nat.reduceMul, Int.reduceLE, Int.reduceLT, Int.reduceNeg, Int.reduceAdd, Int.reduceToNat, E_grow_eq, gLL2, Tryz.ntmps114, Tryz.results114, gTT]
  have b1 := hb i hi
  have b2 := hg i
  refine ⟨fun h => ?_, fun h => ?_⟩
  · have h2 : i < 2 := by have := of_decide_eq_true h; omega
    have b3 := hs i h2
    rw [IntWalk.i64_in (_ + _) (by omega), b3]
    refine ⟨by omega, fun h => ?_, fun h => ?_⟩
    · have := of_decide_eq_true h; omega
    · exact ⟨⟨(wrapN _ (by omega)).symm, by omega⟩, by omega, by omega⟩
  · refine ⟨⟨by omega, by omega⟩, ?_⟩
    refine ELoop_keep (fun i => ⟨[(27, vI .i64 (i : Nat)), (6, .c (.own ⟨1, 24⟩ (LI .i32 (catL x y i))))], [], [(⟨1, 24⟩, ⟨false, 1, LI .i32 (catL x y i)⟩)]⟩) (fun i => i ≤ 2) (fun i => 2 - i) (· + 1) 0 (by decide) ?_ ?_
    · simp only [↓gPre, gPost, gCore, gDef, Nat.reduceShiftRight, Nat.reduceMod, if_true, if_false, ↓reduceIte, reduceCtorEq, Nat.reduceEqDiff, Nat.reduceLT, Nat.reduceLeDiff, implies_true, forall_const, eq_self, ne_eq, not_true_eq_false, not_false_eq_true, imp_self, Nat.reduceAdd, Nat.reduceMul, Int.reduceLE, Int.reduceLT, Int.reduceNeg, Int.reduceAdd, Int.reduceToNat, E_grow_eq, gLL2, Tryz.ntmps114, Tryz.results114, gTT]
      simp [LI_nil, catL]
    intro j hj
    simp only [↓gPre, gPost, gCore, gDef, Nat.reduceShiftRight, Nat.reduceMod, if_true, if_false, ↓reduceIte, reduceCtorEq, Nat.reduceEqDiff, Nat.reduceLT, Nat.reduceLeDiff, implies_true, forall_const, eq_self, ne_eq, not_true_eq_false, not_false_eq_true, imp_self, Nat.reduceAdd, Nat.reduceMul, Int.reduceLE, Int.reduceLT, Int.reduceNeg, Int.reduceAdd, Int.reduceToNat, E_grow_eq, gLL2, Tryz.ntmps114, Tryz.results114, gTT]
    have b1 := hl j hj
    have b2 := hg j
    refine ⟨fun h => ?_, fun h => ?_⟩
    · have h2 : j < 2 := by have := of_decide_eq_true h; omega
      rw [hf j h2]
      exact ⟨by omega, by unfold roomOK; omega, ⟨⟨(wrapN _ (by omega)).symm, rfl⟩, rfl⟩, by omega, by omega⟩
    · have : j = 2 := by have := of_decide_eq_false h; omega
      subst this
      simp [catL]
def E_concat : List V → Boxes → Toks → Name → Option Ent
  | [.c (.d (.list [.list q_x, .list q_y]))], [], [], _ => some ⟨(ints q_x).length ≤ 1000000 ∧ (ints q_y).length ≤ 1000000 ∧ q_x = LI .i32 (ints q_x) ∧ q_y = LI .i32 (ints q_y), vL (LI .i32 ((ints q_x) ++ (ints q_y))), [], []⟩
  | _, _, _, _ => none
def E_concat_eq := And.intro (@E_concat.eq_1) (@E_concat.eq_1)
theorem E_concat_ok : Snd Tryz.prog 114 E_concat := by
  intro vs b k n e h hn hp
  unfold E_concat at h
  split at h
  · cases h; obtain ⟨hp0, hp1, hq0, hq1⟩ := hp; obtain ⟨_, rfl⟩ := LI_ex hq0; obtain ⟨_, rfl⟩ := LI_ex hq1; simp only [ints_LI, bys_LB, blks_LK, lls_LL] at hp0 hp1 ⊢; exact (spec_concat _ _ hp0 hp1).lift rfl _
  · cases h

theorem spec_feed (c n d a p f : Int) (l : List Int) (k : Int) (y : List Int) (hl : l.length ≤ 1000000) (hy : y.length ≤ 1000000) : Spec Tryz.prog 0 98 [.agg [.d (.int .i64 c), .d (.int .i64 n), .d (.int .i64 d), .d (.int .i64 a), .d (.int .i64 p), .d (.int .i64 f), .d (.list (LI .i32 l))], .agg [.d (.int .i64 k), .d (.list (LI .i32 y))]] [] [] (.tup [.agg [.int .i64 (feR ⟨c, ⟨n, d, a, p, f⟩, l⟩ k y).c, .int .i64 (feR ⟨c, ⟨n, d, a, p, f⟩, l⟩ k y).p.n, .int .i64 (feR ⟨c, ⟨n, d, a, p, f⟩, l⟩ k y).p.d, .int .i64 (feR ⟨c, ⟨n, d, a, p, f⟩, l⟩ k y).p.a, .int .i64 (feR ⟨c, ⟨n, d, a, p, f⟩, l⟩ k y).p.p, .int .i64 (feR ⟨c, ⟨n, d, a, p, f⟩, l⟩ k y).p.f, .list (LI .i32 (feR ⟨c, ⟨n, d, a, p, f⟩, l⟩ k y).l)], .int .i64 (feE ⟨c, ⟨n, d, a, p, f⟩, l⟩ k y)]) [] [] := by
  refine spec_of_E (X := ⟨Tryz.prog, tt, Tryz.f98.ntmps, 1, fun _ => 0, (tab [(46, E_rsvalid), (89, E_bvalid), (114, E_concat)])⟩) (M := [(5, [0, 0, 0, 0, 0, 33898430591, 0, 0, 0, 0, 0, 0])]) (m := 8454271) rfl rfl ⟨tt_ok, tab_ok (tabs_cons E_rsvalid_ok (tabs_cons E_bvalid_ok (tabs_cons E_concat_ok tabs_nil))) _ rfl rfl⟩ tt_mixed Tryz.func98 rfl (by decide) (by show (2 : Nat) ≤ _; exact Nat.le_of_ble_eq_true rfl) ⟨fun m hm => (V.bare_has rfl m hm).elim, by simp, by simp⟩ ?_
  simp only [↓gPre, gPost, gCore, gDef, Nat.reduceShiftRight, Nat.reduceMod, if_true, if_false, ↓reduceIte, reduceCtorEq, Nat.reduceEqDiff, Nat.reduceLT, Nat.reduceLeDiff, implies_true, forall_const, eq_self, ne_eq, not_true_eq_false, not_false_eq_true, imp_self, Nat.reduceAdd, Nat.reduceMul, Int.reduceLE, Int.reduceLT, Int.reduceNeg, Int.reduceAdd, Int.reduceToNat, E_rsvalid_eq, E_bvalid_eq, E_concat_eq, Tryz.ntmps98, Tryz.results98, gTT]
  refine ⟨hl, fun _ => hy, fun h => ?_, fun h => ⟨fun h2 => ?_, fun h2 => ?_⟩⟩
  · have e : feE ⟨c, ⟨n, d, a, p, f⟩, l⟩ k y = 1 := by unfold feE; rw [if_pos h]
    simp [feR, e, rs0, LI_nil]
  · have hk : k ≠ c := by simpa using h2
    have e : feE ⟨c, ⟨n, d, a, p, f⟩, l⟩ k y = 11 := by unfold feE; rw [if_neg (by rw [h]; decide), if_pos hk]
    simp [feR, e, rs0, LI_nil]
  have hk : k = c := by simpa using h2
  have hv : rsV ⟨c, ⟨n, d, a, p, f⟩, l⟩ = true := by simp at h; exact h.1
  obtain ⟨⟨k1, k2⟩, k3, k4, k5⟩ := blk_in (rsV_in hv).2 hl
  simp only at k1 k2
  rw [sum_div k1 (by omega)]
  refine ⟨by omega, fun h3 => ?_, fun h3 => ?_⟩
  · have h4 : 65536 < (l.length + y.length) / c.toNat := by have := of_decide_eq_true h3; omega
    have e : feE ⟨c, ⟨n, d, a, p, f⟩, l⟩ k y = 3 := by unfold feE; rw [if_neg (by rw [h]; decide), if_neg (by simpa using hk), if_pos h4]
    simp [feR, e, rs0, LI_nil]
  have h4 : ¬ 65536 < (l.length + y.length) / c.toNat := by have := of_decide_eq_false h3; omega
  have e : feE ⟨c, ⟨n, d, a, p, f⟩, l⟩ k y = 0 := by unfold feE; rw [if_neg (by rw [h]; decide), if_neg (by simpa using hk), if_neg h4]
  refine ⟨⟨hl, hy⟩, ?_⟩
  simp [feR, e]
def E_feed : List V → Boxes → Toks → Name → Option Ent
  | [.agg [.d (.int .i64 c), .d (.int .i64 n), .d (.int .i64 d), .d (.int .i64 a), .d (.int .i64 p), .d (.int .i64 f), .d (.list q_l)], .agg [.d (.int .i64 k), .d (.list q_y)]], [], [], _ => some ⟨(ints q_l).length ≤ 1000000 ∧ (ints q_y).length ≤ 1000000 ∧ q_l = LI .i32 (ints q_l) ∧ q_y = LI .i32 (ints q_y), .tup [.agg [.int .i64 (feR ⟨c, ⟨n, d, a, p, f⟩, (ints q_l)⟩ k (ints q_y)).c, .int .i64 (feR ⟨c, ⟨n, d, a, p, f⟩, (ints q_l)⟩ k (ints q_y)).p.n, .int .i64 (feR ⟨c, ⟨n, d, a, p, f⟩, (ints q_l)⟩ k (ints q_y)).p.d, .int .i64 (feR ⟨c, ⟨n, d, a, p, f⟩, (ints q_l)⟩ k (ints q_y)).p.a, .int .i64 (feR ⟨c, ⟨n, d, a, p, f⟩, (ints q_l)⟩ k (ints q_y)).p.p, .int .i64 (feR ⟨c, ⟨n, d, a, p, f⟩, (ints q_l)⟩ k (ints q_y)).p.f, .list (LI .i32 (feR ⟨c, ⟨n, d, a, p, f⟩, (ints q_l)⟩ k (ints q_y)).l)], .int .i64 (feE ⟨c, ⟨n, d, a, p, f⟩, (ints q_l)⟩ k (ints q_y))], [], []⟩
  | _, _, _, _ => none
def E_feed_eq := And.intro (@E_feed.eq_1) (@E_feed.eq_1)
theorem E_feed_ok : Snd Tryz.prog 98 E_feed := by
  intro vs b k n e h hn hp
  unfold E_feed at h
  split at h
  · cases h; obtain ⟨hp0, hp1, hq0, hq1⟩ := hp; obtain ⟨_, rfl⟩ := LI_ex hq0; obtain ⟨_, rfl⟩ := LI_ex hq1; simp only [ints_LI, bys_LB, blks_LK, lls_LL] at hp0 hp1 ⊢; exact (spec_feed _ _ _ _ _ _ _ _ _ hp0 hp1).lift rfl _
  · cases h

theorem spec_rfeed (c n d a p f : Int) (l : List Int) (k : Int) (y : List Int) (hl : l.length ≤ 1000000) (hy : y.length ≤ 1000000) : Spec Tryz.prog 0 72 [.agg [.d (.int .i64 c), .d (.int .i64 n), .d (.int .i64 d), .d (.int .i64 a), .d (.int .i64 p), .d (.int .i64 f), .d (.list (LI .i32 l))], .agg [.d (.int .i64 k), .d (.list (LI .i32 y))]] [] [] (.tup [.agg [.int .i64 (feR ⟨c, ⟨n, d, a, p, f⟩, l⟩ k y).c, .int .i64 (feR ⟨c, ⟨n, d, a, p, f⟩, l⟩ k y).p.n, .int .i64 (feR ⟨c, ⟨n, d, a, p, f⟩, l⟩ k y).p.d, .int .i64 (feR ⟨c, ⟨n, d, a, p, f⟩, l⟩ k y).p.a, .int .i64 (feR ⟨c, ⟨n, d, a, p, f⟩, l⟩ k y).p.p, .int .i64 (feR ⟨c, ⟨n, d, a, p, f⟩, l⟩ k y).p.f, .list (LI .i32 (feR ⟨c, ⟨n, d, a, p, f⟩, l⟩ k y).l)], .int .i64 (feE ⟨c, ⟨n, d, a, p, f⟩, l⟩ k y)]) [] [] := by
  refine spec_of_E (X := ⟨Tryz.prog, tt, Tryz.f72.ntmps, 1, fun _ => 0, (tab [(63, E_rrsvalid), (71, E_rbvalid)])⟩) (M := [(5, [0, 0, 0, 0, 0, 33898430591, 0, 0, 0, 0, 0, 0])]) (m := 8454271) rfl rfl ⟨tt_ok, tab_ok (tabs_cons E_rrsvalid_ok (tabs_cons E_rbvalid_ok tabs_nil)) _ rfl rfl⟩ tt_mixed Tryz.func72 rfl (by decide) (by show (2 : Nat) ≤ _; exact Nat.le_of_ble_eq_true rfl) ⟨fun m hm => (V.bare_has rfl m hm).elim, by simp, by simp⟩ ?_
  simp only [↓gPre, gPost, gCore, gDef, Nat.reduceShiftRight, Nat.reduceMod, if_true, if_false, ↓reduceIte, reduceCtorEq, Nat.reduceEqDiff, Nat.reduceLT, Nat.reduceLeDiff, implies_true, forall_const, eq_self, ne_eq, not_true_eq_false, not_false_eq_true, imp_self, Nat.reduceAdd, Nat.reduceMul, Int.reduceLE, Int.reduceLT, Int.reduceNeg, Int.reduceAdd, Int.reduceToNat, E_rrsvalid_eq, E_rbvalid_eq, Tryz.ntmps72, Tryz.results72, gTT]
  refine ⟨hl, fun _ => hy, fun h => ?_, fun h => ⟨fun h2 => ?_, fun h2 => ?_⟩⟩
  · have e : feE ⟨c, ⟨n, d, a, p, f⟩, l⟩ k y = 1 := by unfold feE; rw [if_pos h]
    simp [feR, e, rs0, LI_nil]
  · have hk : k ≠ c := by simpa using h2
    have e : feE ⟨c, ⟨n, d, a, p, f⟩, l⟩ k y = 11 := by unfold feE; rw [if_neg (by rw [h]; decide), if_pos hk]
    simp [feR, e, rs0, LI_nil]
  have hk : k = c := by simpa using h2
  have hv : rsV ⟨c, ⟨n, d, a, p, f⟩, l⟩ = true := by simp at h; exact h.1
  obtain ⟨⟨k1, k2⟩, k3, k4, k5⟩ := blk_in (rsV_in hv).2 hl
  simp only at k1 k2
  rw [sum_div k1 (by omega)]
  refine ⟨by omega, fun h3 => ?_, fun h3 => ?_⟩
  · have h4 : 65536 < (l.length + y.length) / c.toNat := by have := of_decide_eq_true h3; omega
    have e : feE ⟨c, ⟨n, d, a, p, f⟩, l⟩ k y = 3 := by unfold feE; rw [if_neg (by rw [h]; decide), if_neg (by simpa using hk), if_pos h4]
    simp [feR, e, rs0, LI_nil]
  have h4 : ¬ 65536 < (l.length + y.length) / c.toNat := by have := of_decide_eq_false h3; omega
  have e : feE ⟨c, ⟨n, d, a, p, f⟩, l⟩ k y = 0 := by unfold feE; rw [if_neg (by rw [h]; decide), if_neg (by simpa using hk), if_neg h4]
  refine ⟨by kernel_rfl, by unfold roomOK; omega, by unfold roomOK; omega, ?_⟩
  simp [feR, e]
def E_rfeed : List V → Boxes → Toks → Name → Option Ent
  | [.agg [.d (.int .i64 c), .d (.int .i64 n), .d (.int .i64 d), .d (.int .i64 a), .d (.int .i64 p), .d (.int .i64 f), .d (.list q_l)], .agg [.d (.int .i64 k), .d (.list q_y)]], [], [], _ => some ⟨(ints q_l).length ≤ 1000000 ∧ (ints q_y).length ≤ 1000000 ∧ q_l = LI .i32 (ints q_l) ∧ q_y = LI .i32 (ints q_y), .tup [.agg [.int .i64 (feR ⟨c, ⟨n, d, a, p, f⟩, (ints q_l)⟩ k (ints q_y)).c, .int .i64 (feR ⟨c, ⟨n, d, a, p, f⟩, (ints q_l)⟩ k (ints q_y)).p.n, .int .i64 (feR ⟨c, ⟨n, d, a, p, f⟩, (ints q_l)⟩ k (ints q_y)).p.d, .int .i64 (feR ⟨c, ⟨n, d, a, p, f⟩, (ints q_l)⟩ k (ints q_y)).p.a, .int .i64 (feR ⟨c, ⟨n, d, a, p, f⟩, (ints q_l)⟩ k (ints q_y)).p.p, .int .i64 (feR ⟨c, ⟨n, d, a, p, f⟩, (ints q_l)⟩ k (ints q_y)).p.f, .list (LI .i32 (feR ⟨c, ⟨n, d, a, p, f⟩, (ints q_l)⟩ k (ints q_y)).l)], .int .i64 (feE ⟨c, ⟨n, d, a, p, f⟩, (ints q_l)⟩ k (ints q_y))], [], []⟩
  | _, _, _, _ => none
def E_rfeed_eq := And.intro (@E_rfeed.eq_1) (@E_rfeed.eq_1)
theorem E_rfeed_ok : Snd Tryz.prog 72 E_rfeed := by
  intro vs b k n e h hn hp
  unfold E_rfeed at h
  split at h
  · cases h; obtain ⟨hp0, hp1, hq0, hq1⟩ := hp; obtain ⟨_, rfl⟩ := LI_ex hq0; obtain ⟨_, rfl⟩ := LI_ex hq1; simp only [ints_LI, bys_LB, blks_LK, lls_LL] at hp0 hp1 ⊢; exact (spec_rfeed _ _ _ _ _ _ _ _ _ hp0 hp1).lift rfl _
  · cases h

end Go.Vam
