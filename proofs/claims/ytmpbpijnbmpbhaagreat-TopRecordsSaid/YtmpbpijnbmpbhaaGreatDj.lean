/- A part of the proof. Conditions: none. -/
import Derived.Test.YtmpbpijnbmpbhaaGreatDi
import Derived.Test.YtmpbpijnbmpbhaaGreatVm
import Derived.WalkKit
import Derived.OwnWalk
import Derived.Lib.Walk
import Derived.Lib.SliceRun
set_option linter.unusedVariables false
set_option linter.defProp false
set_option linter.unusedSimpArgs false
set_option maxRecDepth 40000
set_option maxHeartbeats 4000000
namespace Go.Vam
open Go.Proofs
open Go.RowKit Go.Shelf Go.Lib
theorem info_cBx : (Tryz.prog.info? 134).map (fun i => (i.zero, i.size, i.bytes)) = some (some (.agg #[.int .i64 0, .slice none 0 0, .slice none 0 0, .slice none 0 0]), 4, 80) := by kernel_rfl
theorem und_cBx : Tryz.prog.underlying 29 = some (.slice 134) := Tryz.underlying29
set_option maxRecDepth 100000 in
theorem clBx_nil (n c : Nat) (w : World) : Calls Tryz.prog 135 #[.slice none n c] w fun e w' => e = .returned (.slice none 0 0) ∧ w' = w := by
  have q : ∀ (w : World) (a : Option Addr) (n c n' c' : Nat), (binOp .eql 29 (.slice a n c) (.slice none n' c')).run Tryz.prog w = .ok (.bool a.isNone) w := fun w a n c n' c' => Go.Lib.run_eql_slice_nil w _ _ a n c n' c' und_cBx
  go_enter Tryz.func135, Tryz.ntmps135
  go_wp2
  go_ret
  exact ⟨rfl, rfl⟩
set_option maxRecDepth 100000 in
theorem clBx_some (n : Nat) (vs : List Value) (b off c : Nat) (w : World) (hvl : vs.length = n * 4) (hc : ∀ j u, vs[j]? = some u → w.cell? ⟨b, off + j, none⟩ = some u) (hone : ∀ u ∈ vs, u.oneCell' = true) (hbig : n * 80 ≤ 140737488355328) (hbig2 : n ≤ 1000000000) :
    Calls Tryz.prog 135 #[.slice (some ⟨b, off, none⟩) n c] w fun e w' => ∃ v', e = .returned v' ∧ w'.ownsRow w.heap.size 134 4 v' n vs ∧ Below w.heap.size w w' := by
  obtain ⟨i0, hi, hz0, hz1, hz2⟩ := info_parts info_cBx
  have q : ∀ (w : World) (a : Option Addr) (n c n' c' : Nat), (binOp .eql 29 (.slice a n c) (.slice none n' c')).run Tryz.prog w = .ok (.bool a.isNone) w := fun w a n c n' c' => Go.Lib.run_eql_slice_nil w _ _ a n c n' c' und_cBx
  have u : ∀ w, Sem.run Tryz.prog (underlying 29) w = .ok (TypeDesc.slice 134) w := run_underlying und_cBx
  have X : Aside (∀ j u, vs[j]? = some u → w.cell? ⟨b, off + j, none⟩ = some u) := hc
  have X2 : Aside (∀ u ∈ vs, u.oneCell' = true) := hone
  have X3 : Aside (vs.length = n * 4) := hvl
  have Y : Aside (n * 80 ≤ 140737488355328) := hbig
  have Y2 : Aside (n ≤ 1000000000) := hbig2
  clear hc hbig hone hvl hbig2
  go_enter Tryz.func135, Tryz.ntmps135
  go_wp2_with (at_builtin; refine wpList_append_own _ rfl _ _ 29 rfl w.heap.size 134 i0 (.agg #[.int .i64 0, .slice none 0 0, .slice none 0 0, .slice none 0 0]) 4 80 und_cBx hi hz0 hz1 hz2 rfl (by decide) _ _ _ rfl (World.ownsRow_made w #[] 0 (Nat.le_refl _) (Nat.zero_le _) rfl) ⟨b, off, none⟩ n c vs rfl ?qc1 ?qc2 ?qc3 ?qc4 ?qc5 ?qc6 ?qc7)
  case qc1 => exact X3.out
  case qc2 =>
    intro j u hj
    rw [Addr.add_lit]
    exact Go.Lib.cell?_alloc_some _ (X.out j u hj)
  case qc3 => exact X2.out
  case qc4 => have := Y2.out; unfold maxLen; omega
  case qc5 => have := Y.out; omega
  case qc6 => simp
  intro v' w1 hown hgrow hnil
  go_wp2
  go_ret
  refine ⟨v', rfl, by simpa using hown, ?_⟩
  exact ((Below.refl _ w).alloc (Nat.le_refl _) _).grown hgrow (by simp) (by intro k hk; simp [Value.ownBlock] at hk; omega)
set_option maxRecDepth 100000 in
theorem clBx_zero (a : Addr) (c : Nat) (w : World) : Calls Tryz.prog 135 #[.slice (some a) 0 c] w fun e w' => ∃ v', e = .returned v' ∧ w'.ownsRow w.heap.size 134 4 v' 0 [] ∧ Below w.heap.size w w' := by
  obtain ⟨i0, hi, hz0, hz1, hz2⟩ := info_parts info_cBx
  have q : ∀ (w : World) (a : Option Addr) (n c n' c' : Nat), (binOp .eql 29 (.slice a n c) (.slice none n' c')).run Tryz.prog w = .ok (.bool a.isNone) w := fun w a n c n' c' => Go.Lib.run_eql_slice_nil w _ _ a n c n' c' und_cBx
  have u : ∀ w, Sem.run Tryz.prog (underlying 29) w = .ok (TypeDesc.slice 134) w := run_underlying und_cBx
  go_enter Tryz.func135, Tryz.ntmps135
  go_wp2_with (at_builtin; refine wpList_append_own _ rfl _ _ 29 rfl w.heap.size 134 i0 (.agg #[.int .i64 0, .slice none 0 0, .slice none 0 0, .slice none 0 0]) 4 80 und_cBx hi hz0 hz1 hz2 rfl (by decide) _ _ _ rfl (World.ownsRow_made w #[] 0 (Nat.le_refl _) (Nat.zero_le _) rfl) a 0 c [] rfl rfl (by intro j u hj; simp at hj) (by intro u hu; cases hu) (by unfold maxLen; omega) (by decide) (by simp) ?_)
  intro v' w1 hown hgrow hnil
  go_wp2
  go_ret
  refine ⟨v', rfl, by simpa using hown, ?_⟩
  exact ((Below.refl _ w).alloc (Nat.le_refl _) _).grown hgrow (by simp) (by intro k hk; simp [Value.ownBlock] at hk; omega)
theorem clBx : Clones Tryz.prog 135 134 4 80 := ⟨clBx_nil, clBx_some, clBx_zero⟩
theorem spec_cloneABx (l : List D) (h : (∀ x ∈ l, x.cells.length = 4) ∧ l.length * 80 ≤ 140737488355328 ∧ l.length ≤ 1000000000) (hne : l ≠ []) : Spec Tryz.prog 0 135 [vL l] [] [] (.c (.arr ⟨0, 9⟩ l.length)) [] [(⟨0, 9⟩, ⟨true, 4, l⟩)] :=
  spec_cloneA Tryz.func135 rfl (by decide) clBx (by decide) l h.1 h.2.1 h.2.2 hne
theorem info_cMp : (Tryz.prog.info? 26).map (fun i => (i.zero, i.size, i.bytes)) = some (some (.slice none 0 0), 1, 24) := by kernel_rfl
theorem und_cMp : Tryz.prog.underlying 126 = some (.slice 26) := Tryz.underlying126
set_option maxRecDepth 100000 in
theorem clMp_nil (n c : Nat) (w : World) : Calls Tryz.prog 137 #[.slice none n c] w fun e w' => e = .returned (.slice none 0 0) ∧ w' = w := by
  have q : ∀ (w : World) (a : Option Addr) (n c n' c' : Nat), (binOp .eql 126 (.slice a n c) (.slice none n' c')).run Tryz.prog w = .ok (.bool a.isNone) w := fun w a n c n' c' => Go.Lib.run_eql_slice_nil w _ _ a n c n' c' und_cMp
  go_enter Tryz.func137, Tryz.ntmps137
  go_wp2
  go_ret
  exact ⟨rfl, rfl⟩
set_option maxRecDepth 100000 in
theorem clMp_some (n : Nat) (vs : List Value) (b off c : Nat) (w : World) (hvl : vs.length = n * 1) (hc : ∀ j u, vs[j]? = some u → w.cell? ⟨b, off + j, none⟩ = some u) (hone : ∀ u ∈ vs, u.oneCell' = true) (hbig : n * 24 ≤ 140737488355328) (hbig2 : n ≤ 1000000000) :
    Calls Tryz.prog 137 #[.slice (some ⟨b, off, none⟩) n c] w fun e w' => ∃ v', e = .returned v' ∧ w'.ownsRow w.heap.size 26 1 v' n vs ∧ Below w.heap.size w w' := by
  obtain ⟨i0, hi, hz0, hz1, hz2⟩ := info_parts info_cMp
  have q : ∀ (w : World) (a : Option Addr) (n c n' c' : Nat), (binOp .eql 126 (.slice a n c) (.slice none n' c')).run Tryz.prog w = .ok (.bool a.isNone) w := fun w a n c n' c' => Go.Lib.run_eql_slice_nil w _ _ a n c n' c' und_cMp
  have u : ∀ w, Sem.run Tryz.prog (underlying 126) w = .ok (TypeDesc.slice 26) w := run_underlying und_cMp
  have X : Aside (∀ j u, vs[j]? = some u → w.cell? ⟨b, off + j, none⟩ = some u) := hc
  have X2 : Aside (∀ u ∈ vs, u.oneCell' = true) := hone
  have X3 : Aside (vs.length = n * 1) := hvl
  have Y : Aside (n * 24 ≤ 140737488355328) := hbig
  have Y2 : Aside (n ≤ 1000000000) := hbig2
  clear hc hbig hone hvl hbig2
  go_enter Tryz.func137, Tryz.ntmps137
  go_wp2_with (at_builtin; refine wpList_append_own _ rfl _ _ 126 rfl w.heap.size 26 i0 (.slice none 0 0) 1 24 und_cMp hi hz0 hz1 hz2 rfl (by decide) _ _ _ rfl (World.ownsRow_made w #[] 0 (Nat.le_refl _) (Nat.zero_le _) rfl) ⟨b, off, none⟩ n c vs rfl ?qc1 ?qc2 ?qc3 ?qc4 ?qc5 ?qc6 ?qc7)
  case qc1 => exact X3.out
  case qc2 =>
    intro j u hj
    rw [Addr.add_lit]
    exact Go.Lib.cell?_alloc_some _ (X.out j u hj)
  case qc3 => exact X2.out
  case qc4 => have := Y2.out; unfold maxLen; omega
  case qc5 => have := Y.out; omega
  case qc6 => simp
  intro v' w1 hown hgrow hnil
  go_wp2
  go_ret
  refine ⟨v', rfl, by simpa using hown, ?_⟩
  exact ((Below.refl _ w).alloc (Nat.le_refl _) _).grown hgrow (by simp) (by intro k hk; simp [Value.ownBlock] at hk; omega)
set_option maxRecDepth 100000 in
theorem clMp_zero (a : Addr) (c : Nat) (w : World) : Calls Tryz.prog 137 #[.slice (some a) 0 c] w fun e w' => ∃ v', e = .returned v' ∧ w'.ownsRow w.heap.size 26 1 v' 0 [] ∧ Below w.heap.size w w' := by
  obtain ⟨i0, hi, hz0, hz1, hz2⟩ := info_parts info_cMp
  have q : ∀ (w : World) (a : Option Addr) (n c n' c' : Nat), (binOp .eql 126 (.slice a n c) (.slice none n' c')).run Tryz.prog w = .ok (.bool a.isNone) w := fun w a n c n' c' => Go.Lib.run_eql_slice_nil w _ _ a n c n' c' und_cMp
  have u : ∀ w, Sem.run Tryz.prog (underlying 126) w = .ok (TypeDesc.slice 26) w := run_underlying und_cMp
  go_enter Tryz.func137, Tryz.ntmps137
  go_wp2_with (at_builtin; refine wpList_append_own _ rfl _ _ 126 rfl w.heap.size 26 i0 (.slice none 0 0) 1 24 und_cMp hi hz0 hz1 hz2 rfl (by decide) _ _ _ rfl (World.ownsRow_made w #[] 0 (Nat.le_refl _) (Nat.zero_le _) rfl) a 0 c [] rfl rfl (by intro j u hj; simp at hj) (by intro u hu; cases hu) (by unfold maxLen; omega) (by decide) (by simp) ?_)
  intro v' w1 hown hgrow hnil
  go_wp2
  go_ret
  refine ⟨v', rfl, by simpa using hown, ?_⟩
  exact ((Below.refl _ w).alloc (Nat.le_refl _) _).grown hgrow (by simp) (by intro k hk; simp [Value.ownBlock] at hk; omega)
theorem clMp : Clones Tryz.prog 137 26 1 24 := ⟨clMp_nil, clMp_some, clMp_zero⟩
theorem spec_cloneAMp (l : List D) (h : (∀ x ∈ l, x.cells.length = 1) ∧ l.length * 24 ≤ 140737488355328 ∧ l.length ≤ 1000000000) (hne : l ≠ []) : Spec Tryz.prog 0 137 [vL l] [] [] (.c (.arr ⟨0, 9⟩ l.length)) [] [(⟨0, 9⟩, ⟨true, 1, l⟩)] :=
  spec_cloneA Tryz.func137 rfl (by decide) clMp (by decide) l h.1 h.2.1 h.2.2 hne
theorem info_cSp : (Tryz.prog.info? 129).map (fun i => (i.zero, i.size, i.bytes)) = some (some (.agg #[.int .i64 0, .int .i64 0]), 2, 16) := by kernel_rfl
theorem und_cSp : Tryz.prog.underlying 130 = some (.slice 129) := Tryz.underlying130
set_option maxRecDepth 100000 in
theorem clSp_nil (n c : Nat) (w : World) : Calls Tryz.prog 136 #[.slice none n c] w fun e w' => e = .returned (.slice none 0 0) ∧ w' = w := by
  have q : ∀ (w : World) (a : Option Addr) (n c n' c' : Nat), (binOp .eql 130 (.slice a n c) (.slice none n' c')).run Tryz.prog w = .ok (.bool a.isNone) w := fun w a n c n' c' => Go.Lib.run_eql_slice_nil w _ _ a n c n' c' und_cSp
  go_enter Tryz.func136, Tryz.ntmps136
  go_wp2
  go_ret
  exact ⟨rfl, rfl⟩
set_option maxRecDepth 100000 in
theorem clSp_some (n : Nat) (vs : List Value) (b off c : Nat) (w : World) (hvl : vs.length = n * 2) (hc : ∀ j u, vs[j]? = some u → w.cell? ⟨b, off + j, none⟩ = some u) (hone : ∀ u ∈ vs, u.oneCell' = true) (hbig : n * 16 ≤ 140737488355328) (hbig2 : n ≤ 1000000000) :
    Calls Tryz.prog 136 #[.slice (some ⟨b, off, none⟩) n c] w fun e w' => ∃ v', e = .returned v' ∧ w'.ownsRow w.heap.size 129 2 v' n vs ∧ Below w.heap.size w w' := by
  obtain ⟨i0, hi, hz0, hz1, hz2⟩ := info_parts info_cSp
  have q : ∀ (w : World) (a : Option Addr) (n c n' c' : Nat), (binOp .eql 130 (.slice a n c) (.slice none n' c')).run Tryz.prog w = .ok (.bool a.isNone) w := fun w a n c n' c' => Go.Lib.run_eql_slice_nil w _ _ a n c n' c' und_cSp
  have u : ∀ w, Sem.run Tryz.prog (underlying 130) w = .ok (TypeDesc.slice 129) w := run_underlying und_cSp
  have X : Aside (∀ j u, vs[j]? = some u → w.cell? ⟨b, off + j, none⟩ = some u) := hc
  have X2 : Aside (∀ u ∈ vs, u.oneCell' = true) := hone
  have X3 : Aside (vs.length = n * 2) := hvl
  have Y : Aside (n * 16 ≤ 140737488355328) := hbig
  have Y2 : Aside (n ≤ 1000000000) := hbig2
  clear hc hbig hone hvl hbig2
  go_enter Tryz.func136, Tryz.ntmps136
  go_wp2_with (at_builtin; refine wpList_append_own _ rfl _ _ 130 rfl w.heap.size 129 i0 (.agg #[.int .i64 0, .int .i64 0]) 2 16 und_cSp hi hz0 hz1 hz2 rfl (by decide) _ _ _ rfl (World.ownsRow_made w #[] 0 (Nat.le_refl _) (Nat.zero_le _) rfl) ⟨b, off, none⟩ n c vs rfl ?qc1 ?qc2 ?qc3 ?qc4 ?qc5 ?qc6 ?qc7)
  case qc1 => exact X3.out
  case qc2 =>
    intro j u hj
    rw [Addr.add_lit]
    exact Go.Lib.cell?_alloc_some _ (X.out j u hj)
  case qc3 => exact X2.out
  case qc4 => have := Y2.out; unfold maxLen; omega
  case qc5 => have := Y.out; omega
  case qc6 => simp
  intro v' w1 hown hgrow hnil
  go_wp2
  go_ret
  refine ⟨v', rfl, by simpa using hown, ?_⟩
  exact ((Below.refl _ w).alloc (Nat.le_refl _) _).grown hgrow (by simp) (by intro k hk; simp [Value.ownBlock] at hk; omega)
set_option maxRecDepth 100000 in
theorem clSp_zero (a : Addr) (c : Nat) (w : World) : Calls Tryz.prog 136 #[.slice (some a) 0 c] w fun e w' => ∃ v', e = .returned v' ∧ w'.ownsRow w.heap.size 129 2 v' 0 [] ∧ Below w.heap.size w w' := by
  obtain ⟨i0, hi, hz0, hz1, hz2⟩ := info_parts info_cSp
  have q : ∀ (w : World) (a : Option Addr) (n c n' c' : Nat), (binOp .eql 130 (.slice a n c) (.slice none n' c')).run Tryz.prog w = .ok (.bool a.isNone) w := fun w a n c n' c' => Go.Lib.run_eql_slice_nil w _ _ a n c n' c' und_cSp
  have u : ∀ w, Sem.run Tryz.prog (underlying 130) w = .ok (TypeDesc.slice 129) w := run_underlying und_cSp
  go_enter Tryz.func136, Tryz.ntmps136
  go_wp2_with (at_builtin; refine wpList_append_own _ rfl _ _ 130 rfl w.heap.size 129 i0 (.agg #[.int .i64 0, .int .i64 0]) 2 16 und_cSp hi hz0 hz1 hz2 rfl (by decide) _ _ _ rfl (World.ownsRow_made w #[] 0 (Nat.le_refl _) (Nat.zero_le _) rfl) a 0 c [] rfl rfl (by intro j u hj; simp at hj) (by intro u hu; cases hu) (by unfold maxLen; omega) (by decide) (by simp) ?_)
  intro v' w1 hown hgrow hnil
  go_wp2
  go_ret
  refine ⟨v', rfl, by simpa using hown, ?_⟩
  exact ((Below.refl _ w).alloc (Nat.le_refl _) _).grown hgrow (by simp) (by intro k hk; simp [Value.ownBlock] at hk; omega)
theorem clSp : Clones Tryz.prog 136 129 2 16 := ⟨clSp_nil, clSp_some, clSp_zero⟩
theorem spec_cloneSp (l : List D) (h : (∀ x ∈ l, x.cells.length = 2) ∧ l.length * 16 ≤ 140737488355328 ∧ l.length ≤ 1000000000) : Spec Tryz.prog 0 136 [vL l] [] [] (vL l) [] [] :=
  spec_cloneL Tryz.func136 rfl (by decide) clSp (by decide) l h.1 h.2.1 h.2.2
theorem info_cSg : (Tryz.prog.info? 211).map (fun i => (i.zero, i.size, i.bytes)) = some (some (.agg #[.int .i64 0, .int .i64 0, .int .i64 0]), 3, 24) := by kernel_rfl
theorem und_cSg : Tryz.prog.underlying 36 = some (.slice 211) := Tryz.underlying36
set_option maxRecDepth 100000 in
theorem clSg_nil (n c : Nat) (w : World) : Calls Tryz.prog 139 #[.slice none n c] w fun e w' => e = .returned (.slice none 0 0) ∧ w' = w := by
  have q : ∀ (w : World) (a : Option Addr) (n c n' c' : Nat), (binOp .eql 36 (.slice a n c) (.slice none n' c')).run Tryz.prog w = .ok (.bool a.isNone) w := fun w a n c n' c' => Go.Lib.run_eql_slice_nil w _ _ a n c n' c' und_cSg
  go_enter Tryz.func139, Tryz.ntmps139
  go_wp2
  go_ret
  exact ⟨rfl, rfl⟩
set_option maxRecDepth 100000 in
theorem clSg_some (n : Nat) (vs : List Value) (b off c : Nat) (w : World) (hvl : vs.length = n * 3) (hc : ∀ j u, vs[j]? = some u → w.cell? ⟨b, off + j, none⟩ = some u) (hone : ∀ u ∈ vs, u.oneCell' = true) (hbig : n * 24 ≤ 140737488355328) (hbig2 : n ≤ 1000000000) :
    Calls Tryz.prog 139 #[.slice (some ⟨b, off, none⟩) n c] w fun e w' => ∃ v', e = .returned v' ∧ w'.ownsRow w.heap.size 211 3 v' n vs ∧ Below w.heap.size w w' := by
  obtain ⟨i0, hi, hz0, hz1, hz2⟩ := info_parts info_cSg
  have q : ∀ (w : World) (a : Option Addr) (n c n' c' : Nat), (binOp .eql 36 (.slice a n c) (.slice none n' c')).run Tryz.prog w = .ok (.bool a.isNone) w := fun w a n c n' c' => Go.Lib.run_eql_slice_nil w _ _ a n c n' c' und_cSg
  have u : ∀ w, Sem.run Tryz.prog (underlying 36) w = .ok (TypeDesc.slice 211) w := run_underlying und_cSg
  have X : Aside (∀ j u, vs[j]? = some u → w.cell? ⟨b, off + j, none⟩ = some u) := hc
  have X2 : Aside (∀ u ∈ vs, u.oneCell' = true) := hone
  have X3 : Aside (vs.length = n * 3) := hvl
  have Y : Aside (n * 24 ≤ 140737488355328) := hbig
  have Y2 : Aside (n ≤ 1000000000) := hbig2
  clear hc hbig hone hvl hbig2
  go_enter Tryz.func139, Tryz.ntmps139
  go_wp2_with (at_builtin; refine wpList_append_own _ rfl _ _ 36 rfl w.heap.size 211 i0 (.agg #[.int .i64 0, .int .i64 0, .int .i64 0]) 3 24 und_cSg hi hz0 hz1 hz2 rfl (by decide) _ _ _ rfl (World.ownsRow_made w #[] 0 (Nat.le_refl _) (Nat.zero_le _) rfl) ⟨b, off, none⟩ n c vs rfl ?qc1 ?qc2 ?qc3 ?qc4 ?qc5 ?qc6 ?qc7)
  case qc1 => exact X3.out
  case qc2 =>
    intro j u hj
    rw [Addr.add_lit]
    exact Go.Lib.cell?_alloc_some _ (X.out j u hj)
  case qc3 => exact X2.out
  case qc4 => have := Y2.out; unfold maxLen; omega
  case qc5 => have := Y.out; omega
  case qc6 => simp
  intro v' w1 hown hgrow hnil
  go_wp2
  go_ret
  refine ⟨v', rfl, by simpa using hown, ?_⟩
  exact ((Below.refl _ w).alloc (Nat.le_refl _) _).grown hgrow (by simp) (by intro k hk; simp [Value.ownBlock] at hk; omega)
set_option maxRecDepth 100000 in
theorem clSg_zero (a : Addr) (c : Nat) (w : World) : Calls Tryz.prog 139 #[.slice (some a) 0 c] w fun e w' => ∃ v', e = .returned v' ∧ w'.ownsRow w.heap.size 211 3 v' 0 [] ∧ Below w.heap.size w w' := by
  obtain ⟨i0, hi, hz0, hz1, hz2⟩ := info_parts info_cSg
  have q : ∀ (w : World) (a : Option Addr) (n c n' c' : Nat), (binOp .eql 36 (.slice a n c) (.slice none n' c')).run Tryz.prog w = .ok (.bool a.isNone) w := fun w a n c n' c' => Go.Lib.run_eql_slice_nil w _ _ a n c n' c' und_cSg
  have u : ∀ w, Sem.run Tryz.prog (underlying 36) w = .ok (TypeDesc.slice 211) w := run_underlying und_cSg
  go_enter Tryz.func139, Tryz.ntmps139
  go_wp2_with (at_builtin; refine wpList_append_own _ rfl _ _ 36 rfl w.heap.size 211 i0 (.agg #[.int .i64 0, .int .i64 0, .int .i64 0]) 3 24 und_cSg hi hz0 hz1 hz2 rfl (by decide) _ _ _ rfl (World.ownsRow_made w #[] 0 (Nat.le_refl _) (Nat.zero_le _) rfl) a 0 c [] rfl rfl (by intro j u hj; simp at hj) (by intro u hu; cases hu) (by unfold maxLen; omega) (by decide) (by simp) ?_)
  intro v' w1 hown hgrow hnil
  go_wp2
  go_ret
  refine ⟨v', rfl, by simpa using hown, ?_⟩
  exact ((Below.refl _ w).alloc (Nat.le_refl _) _).grown hgrow (by simp) (by intro k hk; simp [Value.ownBlock] at hk; omega)
theorem clSg : Clones Tryz.prog 139 211 3 24 := ⟨clSg_nil, clSg_some, clSg_zero⟩
theorem spec_cloneSg (l : List D) (h : (∀ x ∈ l, x.cells.length = 3) ∧ l.length * 24 ≤ 140737488355328 ∧ l.length ≤ 1000000000) : Spec Tryz.prog 0 139 [vL l] [] [] (vL l) [] [] :=
  spec_cloneL Tryz.func139 rfl (by decide) clSg (by decide) l h.1 h.2.1 h.2.2
def E_cloneABx : List V → Boxes → Toks → Name → Option Ent
  | [.c (.d (.list l))], [], [], nF => some ⟨((∀ x ∈ l, x.cells.length = 4) ∧ l.length * 80 ≤ 140737488355328 ∧ l.length ≤ 1000000000) ∧ l ≠ [], .c (.arr nF l.length), [], [(nF, ⟨true, 4, l⟩)]⟩
  | _, _, _, _ => none
def E_cloneABx_eq := And.intro (@E_cloneABx.eq_1) (@E_cloneABx.eq_1)
theorem E_cloneABx_ok : Snd Tryz.prog 135 E_cloneABx := by
  intro vs b k n e h hn hp
  unfold E_cloneABx at h
  split at h
  · cases h; obtain ⟨hp0, hp1⟩ := hp; exact Spec.ren1 (spec_cloneABx _ hp0 hp1) 9 (by simp [supOK, V.names, C.names, namesB, namesK, cvtC_eq]) (Nat.le_of_eq hn) 
  · cases h
def E_cloneAMp : List V → Boxes → Toks → Name → Option Ent
  | [.c (.d (.list l))], [], [], nF => some ⟨((∀ x ∈ l, x.cells.length = 1) ∧ l.length * 24 ≤ 140737488355328 ∧ l.length ≤ 1000000000) ∧ l ≠ [], .c (.arr nF l.length), [], [(nF, ⟨true, 1, l⟩)]⟩
  | _, _, _, _ => none
def E_cloneAMp_eq := And.intro (@E_cloneAMp.eq_1) (@E_cloneAMp.eq_1)
theorem E_cloneAMp_ok : Snd Tryz.prog 137 E_cloneAMp := by
  intro vs b k n e h hn hp
  unfold E_cloneAMp at h
  split at h
  · cases h; obtain ⟨hp0, hp1⟩ := hp; exact Spec.ren1 (spec_cloneAMp _ hp0 hp1) 9 (by simp [supOK, V.names, C.names, namesB, namesK, cvtC_eq]) (Nat.le_of_eq hn) 
  · cases h
def E_cloneSp : List V → Boxes → Toks → Name → Option Ent
  | [.c (.d (.list l))], [], [], _ => some ⟨((∀ x ∈ l, x.cells.length = 2) ∧ l.length * 16 ≤ 140737488355328 ∧ l.length ≤ 1000000000), vL l, [], []⟩
  | _, _, _, _ => none
def E_cloneSp_eq := And.intro (@E_cloneSp.eq_1) (@E_cloneSp.eq_1)
theorem E_cloneSp_ok : Snd Tryz.prog 136 E_cloneSp := by
  intro vs b k n e h hn hp
  unfold E_cloneSp at h
  split at h
  · cases h; have hp0 := hp; exact (spec_cloneSp _ hp0).lift rfl _
  · cases h
def E_cloneSg : List V → Boxes → Toks → Name → Option Ent
  | [.c (.d (.list l))], [], [], _ => some ⟨((∀ x ∈ l, x.cells.length = 3) ∧ l.length * 24 ≤ 140737488355328 ∧ l.length ≤ 1000000000), vL l, [], []⟩
  | _, _, _, _ => none
def E_cloneSg_eq := And.intro (@E_cloneSg.eq_1) (@E_cloneSg.eq_1)
theorem E_cloneSg_ok : Snd Tryz.prog 139 E_cloneSg := by
  intro vs b k n e h hn hp
  unfold E_cloneSg at h
  split at h
  · cases h; have hp0 := hp; exact (spec_cloneSg _ hp0).lift rfl _
  · cases h
end Go.Vam
