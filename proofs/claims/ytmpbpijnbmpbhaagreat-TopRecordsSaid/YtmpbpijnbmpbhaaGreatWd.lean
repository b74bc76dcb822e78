/- A part of the proof. Conditions: none. -/
import Derived.Test.YtmpbpijnbmpbhaaGreatWc
import Derived.Test.YtmpbpijnbmpbhaaGreatVm
import Derived.WalkKit
import Derived.OwnWalk
import Derived.Lib.Walk
import Derived.Lib.SliceRun
set_option linter.unusedVariables false
set_option linter.defProp false
set_option linter.unusedSimpArgs false
set_option maxRecDepth 40000
set_option maxHeartbeats 4000000
namespace Go.Vam
open Go.Proofs Go.RowKit
theorem info_el : (Tryz.prog.info? 21).map (fun i => (i.zero, i.size, i.bytes)) = some (some (.int .i32 0), 1, 4) := by kernel_rfl
theorem und_el : Tryz.prog.underlying 45 = some (.slice 21) := Tryz.underlying45
set_option maxRecDepth 100000 in
theorem clone_nil (n c : Nat) (w : World) : Calls Tryz.prog 131 #[.slice none n c] w fun e w' => e = .returned (.slice none 0 0) ∧ w' = w := by
  have q : ∀ (w : World) (a : Option Addr) (n c n' c' : Nat), (binOp .eql 45 (.slice a n c) (.slice none n' c')).run Tryz.prog w = .ok (.bool a.isNone) w := fun w a n c n' c' => Go.Lib.run_eql_slice_nil w _ _ a n c n' c' und_el
  go_enter Tryz.func131, Tryz.ntmps131
  go_wp2
  go_ret
  exact ⟨rfl, rfl⟩
set_option maxRecDepth 100000 in
theorem clone_some (l : List Int) (hbig : l.length * 4 ≤ 140737488355328) (b off c : Nat) (w : World) (hc : ∀ j, j < l.length → w.cell? ⟨b, off + j, none⟩ = some (.int .i32 (l.getD j 0))) :
    Calls Tryz.prog 131 #[.slice (some ⟨b, off, none⟩) l.length c] w fun e w' => ∃ v', e = .returned v' ∧ w'.ownsRow w.heap.size 21 1 v' l.length (l.map (Value.int .i32)) ∧ Below w.heap.size w w' := by
  obtain ⟨i0, hi, hz0, hz1, hz2⟩ := info_parts info_el
  have q : ∀ (w : World) (a : Option Addr) (n c n' c' : Nat), (binOp .eql 45 (.slice a n c) (.slice none n' c')).run Tryz.prog w = .ok (.bool a.isNone) w := fun w a n c n' c' => Go.Lib.run_eql_slice_nil w _ _ a n c n' c' und_el
  have u : ∀ w, Sem.run Tryz.prog (underlying 45) w = .ok (TypeDesc.slice 21) w := run_underlying und_el
  have X : Aside (∀ j, j < l.length → w.cell? ⟨b, off + j, none⟩ = some (.int .i32 (l.getD j 0))) := hc
  have Y : Aside (l.length * 4 ≤ 140737488355328) := hbig
  clear hc hbig
  generalize hn : l.length = n at *
  go_enter Tryz.func131, Tryz.ntmps131
  go_wp2_with (at_builtin; refine wpList_append_own _ rfl _ _ 45 rfl w.heap.size 21 i0 (.int .i32 0) 1 4 und_el hi hz0 hz1 hz2 rfl (by decide) _ _ _ rfl (World.ownsRow_made w #[] 0 (Nat.le_refl _) (Nat.zero_le _) rfl) ⟨b, off, none⟩ n c (l.map (Value.int .i32)) rfl ?qc1 ?qc2 ?qc3 ?qc4 ?qc5 ?qc6 ?_)
  case qc1 => simp [hn]
  case qc2 =>
    intro j u hj
    have hjn : j < n := by
      have := (List.getElem?_eq_some_iff.1 hj).1
      simpa [hn] using this
    rw [Addr.add_lit]
    refine Go.Lib.cell?_alloc_some _ ?_
    rw [X.out j hjn]
    have e : (l.map (Value.int .i32))[j]? = some (Value.int .i32 (l.getD j 0)) := by simp [List.getD, hn, hjn, List.getElem?_eq_getElem (show j < l.length by omega)]
    rw [e] at hj
    exact hj
  case qc3 => intro u hu; obtain ⟨x, _, rfl⟩ := List.mem_map.1 hu; rfl
  case qc4 => have := Y.out; unfold maxLen; omega
  case qc5 => have := Y.out; omega
  case qc6 => simp
  intro v' w1 hown hgrow hnil
  go_wp2
  go_ret
  refine ⟨v', rfl, by simpa using hown, ?_⟩
  exact ((Below.refl _ w).alloc (Nat.le_refl _) _).grown hgrow (by simp) (by intro k hk; simp [Value.ownBlock] at hk; omega)
set_option maxRecDepth 100000 in
theorem clone_zero (a : Addr) (c : Nat) (w : World) : Calls Tryz.prog 131 #[.slice (some a) 0 c] w fun e w' => ∃ v', e = .returned v' ∧ w'.ownsRow w.heap.size 21 1 v' 0 [] ∧ Below w.heap.size w w' := by
  obtain ⟨i0, hi, hz0, hz1, hz2⟩ := info_parts info_el
  have q : ∀ (w : World) (a : Option Addr) (n c n' c' : Nat), (binOp .eql 45 (.slice a n c) (.slice none n' c')).run Tryz.prog w = .ok (.bool a.isNone) w := fun w a n c n' c' => Go.Lib.run_eql_slice_nil w _ _ a n c n' c' und_el
  have u : ∀ w, Sem.run Tryz.prog (underlying 45) w = .ok (TypeDesc.slice 21) w := run_underlying und_el
  go_enter Tryz.func131, Tryz.ntmps131
  go_wp2_with (at_builtin; refine wpList_append_own _ rfl _ _ 45 rfl w.heap.size 21 i0 (.int .i32 0) 1 4 und_el hi hz0 hz1 hz2 rfl (by decide) _ _ _ rfl (World.ownsRow_made w #[] 0 (Nat.le_refl _) (Nat.zero_le _) rfl) a 0 c [] rfl rfl (by intro j u hj; simp at hj) (by intro u hu; cases hu) (by unfold maxLen; omega) (by omega) (by simp) ?_)
  intro v' w1 hown hgrow hnil
  go_wp2
  go_ret
  refine ⟨v', rfl, by simpa using hown, ?_⟩
  exact ((Below.refl _ w).alloc (Nat.le_refl _) _).grown hgrow (by simp) (by intro k hk; simp [Value.ownBlock] at hk; omega)
theorem spec_clone (l : List Int) (hl : l.length * 4 ≤ 140737488355328) : Spec Tryz.prog 0 131 [vL (LI .i32 l)] [] [] (vL (LI .i32 l)) [] [] :=
  spec_clone_of Tryz.func131 rfl (by decide) l clone_nil (clone_some l hl) clone_zero
theorem run_grow (w : World) (ty : TypeId) (a : Option Addr) (n : Nat) (h0 : 0 < n) (hb : n * 4 ≤ 140737488355328) :
    (Builtin.append_ #[45, 3] ty #[.slice a 0 0, .int .i64 n]).run Tryz.prog w = .ok (.slice (some ⟨w.heap.size, 0, none⟩) n (grownCap w n 0 21)) (w.drew.alloc (.cells (Builtin.zeroCells #[.int .i32 0] n ++ Builtin.zeroCells #[.int .i32 0] (grownCap w n 0 21 - n)) 21)) := by
  obtain ⟨i0, hi, hz0, hz1, hz2⟩ := info_parts info_el
  have ut : Sem.run Tryz.prog (underlying 45) w = .ok (TypeDesc.slice 21) w := run_underlying und_el w
  have ui : ∀ w, Sem.run Tryz.prog (underlying 3) w = .ok (TypeDesc.int .i64) w := run_underlying Tryz.underlying3
  have hn0 : n ≠ 0 := by omega
  have hw : IntKind.i64.wrap (n : Int) = n := IntWalk.i64_in _ (by omega)
  have c1 : ¬ (9223372036854775807 < (n : Int)) := by omega
  have c2 : ¬ (281474976710656 < Builtin.nextslicecap n 0 * i0.bytes) := by rw [nextslicecap_zero h0, hz2]; omega
  have c3 : ¬ (281474976710656 < (n : Int) * (i0.bytes : Int)) := by rw [hz2]; omega
  have c4 : ¬ ((n : Int) < 0) := by omega
  have c5 : ¬ (n * i0.size = 0) := by rw [hz1]; omega
  have c6 : ∀ w, (Builtin.firstCells i0.size 0 (.slice a 0 0)).run Tryz.prog w = .ok #[] w := fun w => by
    cases a <;> simp [Builtin.firstCells, loadCells, loadCellsFrom]
  have zc : (Value.cells (.int .i32 0)) = #[.int .i32 0] := rfl
  simp [Builtin.append_, run_underlying und_el, run_underlying Tryz.underlying3, sizeOf, typeInfo, zeroValue, hi, hz0, asInt, asIntOf, hw, hn0, c4, c5, c1, c2, c3, Question.forced, c6, newRow, grownCap, zc]
set_option maxRecDepth 100000 in
theorem grow_calls (n : Nat) (hb : n * 4 ≤ 140737488355328) (a : Option Addr) (w : World) : Calls Tryz.prog 203 #[.slice a 0 0, .int .i64 n] w (Grew a w) := by
  have u : ∀ w, Sem.run Tryz.prog (underlying 45) w = .ok (TypeDesc.slice 21) w := run_underlying und_el
  have h1 : ¬ ((n : Int) < 0) := by omega
  have h2 : wrap64 ((0 : Int) - (0 : Int)) = 0 := by unfold wrap64; decide
  have h3 : wrap64 ((n : Int) - 0) = (n : Int) := by unfold wrap64; omega
  by_cases h0 : n = 0
  · subst h0
    go_enter Tryz.func203, Tryz.ntmps203
    go_wp2
    go_ret
    exact .inl ⟨rfl, rfl⟩
  · have h4 : ((n : Int) > 0) := by omega
    have hr := fun ty => run_grow w ty a n (by omega) hb
    have hG : n ≤ grownCap w n 0 21 := grownCap_ge w _ _ _
    have hG2 : grownCap w n 0 21 ≤ 9223372036854775807 := grownCap_le_maxLen w n 0 21 (by unfold maxLen; omega)
    generalize grownCap w n 0 21 = G at *
    go_enter Tryz.func203, Tryz.ntmps203
    go_wp2_with (at_builtin; refine wpList_appended rfl rfl rfl rfl hr ?_)
    all_goals
      go_ret
      refine .inr ⟨G, Builtin.zeroCells #[.int .i32 0] n ++ Builtin.zeroCells #[.int .i32 0] (G - n), 21, rfl, rfl, ?_, rfl, rfl, rfl⟩
      simp [Builtin.zeroCells]
      omega
theorem spec_grow0 (n : Nat) (hb : n * 4 ≤ 140737488355328) : Spec Tryz.prog 0 203 [.c .nil, vI .i64 n] [] [] (.c (.own ⟨0, 9⟩ [])) [] [(⟨0, 9⟩, ⟨false, 1, []⟩)] :=
  spec_grow_of Tryz.func203 rfl (by decide) n (grow_calls n hb)
theorem spec_grow (n : Int) (h : 0 ≤ n ∧ n * 4 ≤ 140737488355328) : Spec Tryz.prog 0 203 [.c .nil, vI .i64 n] [] [] (.c (.own ⟨0, 9⟩ [])) [] [(⟨0, 9⟩, ⟨false, 1, []⟩)] := by
  have := spec_grow0 n.toNat (by omega)
  rw [show ((n.toNat : Nat) : Int) = n by omega] at this
  exact this
def E_grow : List V → Boxes → Toks → Name → Option Ent
  | [.c .nil, .c (.d (.int .i64 n))], [], [], nF => some ⟨(0 ≤ n ∧ n * 4 ≤ 140737488355328), .c (.own nF []), [], [(nF, ⟨false, 1, []⟩)]⟩
  | _, _, _, _ => none
def E_grow_eq := And.intro (@E_grow.eq_1) (@E_grow.eq_1)
theorem E_grow_ok : Snd Tryz.prog 203 E_grow := by
  intro vs b k n e h hn hp
  unfold E_grow at h
  split at h
  · cases h; have hp0 := hp; exact Spec.ren1 (spec_grow _ hp0) 9 (by simp [supOK, V.names, C.names, namesB, namesK]) (Nat.le_of_eq hn) 
  · cases h
def E_clone : List V → Boxes → Toks → Name → Option Ent
  | [.c (.d (.list q_l))], [], [], _ => some ⟨(ints q_l).length * 4 ≤ 140737488355328 ∧ q_l = LI .i32 (ints q_l), vL (LI .i32 (ints q_l)), [], []⟩
  | _, _, _, _ => none
def E_clone_eq := And.intro (@E_clone.eq_1) (@E_clone.eq_1)
theorem E_clone_ok : Snd Tryz.prog 131 E_clone := by
  intro vs b k n e h hn hp
  unfold E_clone at h
  split at h
  · cases h; obtain ⟨hp0, hq0⟩ := hp; obtain ⟨_, rfl⟩ := LI_ex hq0; simp only [ints_LI, bys_LB, blks_LK, lls_LL] at hp0 ⊢; exact (spec_clone _ hp0).lift rfl _
  · cases h
structure Rs where
  c : Int
  p : Ph
  l : List Int
def rs0 : Rs := ⟨0, ⟨0, 0, 0, 0, 0⟩, []⟩
def rsV (x : Rs) : Bool := phV x.p && blkV x.c x.l
theorem rsV_in {x : Rs} (h : rsV x = true) : phV x.p = true ∧ blkV x.c x.l = true := by simpa [rsV] using h
theorem blk_in {c : Int} {l : List Int} (h : blkV c l = true) (hl : l.length ≤ 1000000) : (1 ≤ c ∧ c ≤ 8) ∧ l.length = l.length / c.toNat * c.toNat ∧ l.length / c.toNat ≤ 65536 ∧ l.all smpX = true := by
  obtain ⟨h1, h2⟩ := blkV_in h
  obtain ⟨k1, k2, k3⟩ := chBk_in h1
  exact ⟨⟨k1, k2⟩, k3, blkV_frames h hl, h2⟩
theorem smp_get {l : List Int} (h : l.all smpX = true) (i : Nat) : -8388608 ≤ l[i]?.getD 0 ∧ l[i]?.getD 0 ≤ 8388607 := by
  cases hi : l[i]? with
  | none => decide
  | some x => exact smpX_in (List.all_eq_true.1 h x (List.mem_of_getElem? hi))
def waN (x : Rs) : Int := if rsV x = true then ((x.l.length / x.c.toNat : Nat) : Int) else 0
def pnE (n d : Int) : Int := if phV ⟨n, d, 0, 0, 0⟩ = true then 0 else 1
def pnN (n d : Int) : Int := if pnE n d = 0 then n else 0
def pnD (n d : Int) : Int := if pnE n d = 0 then d else 0
def nwE (c n d : Int) : Int := if rsV ⟨c, ⟨n, d, 0, 0, 0⟩, []⟩ = true then 0 else 1
def nwR (c n d : Int) : Rs := if rsV ⟨c, ⟨n, d, 0, 0, 0⟩, []⟩ = true then ⟨c, ⟨n, d, 0, 0, 0⟩, []⟩ else rs0
def feE (x : Rs) (k : Int) (y : List Int) : Int := if (!rsV x || !blkV k y) = true then 1 else if k ≠ x.c then 11 else if 65536 < (x.l.length + y.length) / x.c.toNat then 3 else 0
def feR (x : Rs) (k : Int) (y : List Int) : Rs := if feE x k y = 0 then { x with l := x.l ++ y } else rs0
theorem sum_div {c : Int} {a b : Nat} (hc : 1 ≤ c) (h : a + b ≤ 9000000) : IntKind.i64.wrap ((IntKind.i64.wrap ((a : Int) + (b : Int))).tdiv c) = (((a + b) / c.toNat : Nat) : Int) := by
  have hz : (a + b) / c.toNat ≤ a + b := Nat.div_le_self ..
  have e : ((a : Int) + (b : Int)) = ((a + b : Nat) : Int) := by omega
  rw [e, IntWalk.i64_in ((a + b : Nat) : Int) (by omega), tdivN _ (by omega)]
  generalize (a + b) / c.toNat = z at *
  exact IntWalk.i64_in _ (by omega)
theorem len_div {c : Int} {a : Nat} (hc : 1 ≤ c) (h : a ≤ 9000000) : IntKind.i64.wrap ((a : Int).tdiv c) = ((a / c.toNat : Nat) : Int) := by
  have hz : a / c.toNat ≤ a := Nat.div_le_self ..
  rw [tdivN _ (by omega)]
  generalize a / c.toNat = z at *
  exact IntWalk.i64_in _ (by omega)
theorem gLL2 {x y : List Int} {i : Nat} : (([D.list (LI .i32 x), D.list (LI .i32 y)])[i]?).getD (D.list []) = D.list (LI .i32 (([x, y])[i]?.getD [])) := by
  match i with
  | 0 => rfl
  | 1 => rfl
  | i + 2 => rfl
def catN (x y : List Int) (i : Nat) : Nat := (([x, y].take i).map List.length).sum
def catL (x y : List Int) (i : Nat) : List Int := ([x, y].take i).flatten
theorem feE_ok {x : Rs} {k : Int} {y : List Int} (h : feE x k y = 0) : rsV x = true ∧ blkV k y = true ∧ k = x.c ∧ (x.l.length + y.length) / x.c.toNat ≤ 65536 := by
  unfold feE at h
  split at h
  · cases h
  · split at h
    · cases h
    · split at h
      · cases h
      · rename_i h1 h2 h3
        simp only [Bool.or_eq_true, Bool.not_eq_true', not_or, Bool.not_eq_false] at h1
        exact ⟨h1.1, h1.2, by simpa using h2, by omega⟩
theorem spec_rest (c n d a p f : Int) (l : List Int) : Spec Tryz.prog 0 196 [.agg [.d (.int .i64 c), .d (.int .i64 n), .d (.int .i64 d), .d (.int .i64 a), .d (.int .i64 p), .d (.int .i64 f), .d (.list (LI .i32 l))]] [] [] (.agg [.d (.int .i64 c), .d (.list (LI .i32 l))]) [] [] := by
  refine sE (md := fun _ => 0) (L := []) [] 7 tabs_nil Tryz.func196 rfl rfl rfl ?_
  simp (maxSteps := 1000000) only [↓gPre, gPost, gCore, gDef, gSt, gS0, Nat.reduceShiftRight, Nat.reduceMod, ↓reduceIte, reduceCtorEq, Nat.reduceEqDiff, Nat.reduceLT, Nat.reduceLeDiff, Nat.reduceAdd, Nat.reduceMul, Int.reduceLE, Int.reduceLT, Int.reduceNeg, Int.reduceAdd, Int.reduceToNat, Tryz.ntmps196, Tryz.results196, gTT]
def E_rest : List V → Boxes → Toks → Name → Option Ent
  | [.agg [.d (.int .i64 c), .d (.int .i64 n), .d (.int .i64 d), .d (.int .i64 a), .d (.int .i64 p), .d (.int .i64 f), .d (.list q_l)]], [], [], _ => some ⟨q_l = LI .i32 (ints q_l), .agg [.d (.int .i64 c), .d (.list (LI .i32 (ints q_l)))], [], []⟩
  | _, _, _, _ => none
def E_rest_eq := And.intro (@E_rest.eq_1) (@E_rest.eq_1)
theorem E_rest_ok : Snd Tryz.prog 196 E_rest := by
  intro vs b k n e h hn hp
  unfold E_rest at h
  split at h
  · cases h; have hq0 := hp; obtain ⟨_, rfl⟩ := LI_ex hq0; simp only [ints_LI, bys_LB, blks_LK, lls_LL]; exact (spec_rest _ _ _ _ _ _ _).lift rfl _
  · cases h
theorem spec_rsvalid (c n d a p f : Int) (l : List Int) (hl : l.length ≤ 1000000) : Spec Tryz.prog 0 123 [.agg [.d (.int .i64 c), .d (.int .i64 n), .d (.int .i64 d), .d (.int .i64 a), .d (.int .i64 p), .d (.int .i64 f), .d (.list (LI .i32 l))]] [] [] (vB (rsV ⟨c, ⟨n, d, a, p, f⟩, l⟩)) [] [] := by
  refine sE (md := fun _ => 0) (L := [(160, E_phvalid), (196, E_rest), (62, E_bvalid)]) [] 7 (tabs_cons E_phvalid_ok (tabs_cons E_rest_ok (tabs_cons E_bvalid_ok tabs_nil))) Tryz.func123 rfl rfl rfl ?_
  simp (maxSteps := 1000000) only [↓gPre, gPost, gCore, gDef, gSt, gS0, Nat.reduceShiftRight, Nat.reduceMod, ↓reduceIte, reduceCtorEq, Nat.reduceEqDiff, Nat.reduceLT, Nat.reduceLeDiff, Nat.reduceAdd, Nat.reduceMul, Int.reduceLE, Int.reduceLT, Int.reduceNeg, Int.reduceAdd, Int.reduceToNat, E_phvalid_eq, E_rest_eq, E_bvalid_eq, Tryz.ntmps123, Tryz.results123, gTT]
  exact ⟨fun _ => hl, rfl⟩
def E_rsvalid : List V → Boxes → Toks → Name → Option Ent
  | [.agg [.d (.int .i64 c), .d (.int .i64 n), .d (.int .i64 d), .d (.int .i64 a), .d (.int .i64 p), .d (.int .i64 f), .d (.list q_l)]], [], [], _ => some ⟨(ints q_l).length ≤ 1000000 ∧ q_l = LI .i32 (ints q_l), vB (rsV ⟨c, ⟨n, d, a, p, f⟩, (ints q_l)⟩), [], []⟩
  | _, _, _, _ => none
def E_rsvalid_eq := And.intro (@E_rsvalid.eq_1) (@E_rsvalid.eq_1)
theorem E_rsvalid_ok : Snd Tryz.prog 123 E_rsvalid := by
  intro vs b k n e h hn hp
  unfold E_rsvalid at h
  split at h
  · cases h; obtain ⟨hp0, hq0⟩ := hp; obtain ⟨_, rfl⟩ := LI_ex hq0; simp only [ints_LI, bys_LB, blks_LK, lls_LL] at hp0 ⊢; exact (spec_rsvalid _ _ _ _ _ _ _ hp0).lift rfl _
  · cases h
theorem spec_pnew (n d : Int) : Spec Tryz.prog 0 122 [.agg [.d (.int .i64 n), .d (.int .i64 d)]] [] [] (.tup [.agg [.int .i64 (pnN n d), .int .i64 (pnD n d), .int .i64 0, .int .i64 0, .int .i64 0], .int .i64 (pnE n d)]) [] [] := by
  refine spec_of_E (X := ⟨Tryz.prog, tt, Tryz.f122.ntmps, 1, fun _ => 0, (tab [(160, E_phvalid)])⟩) (M := []) (m := 543) rfl rfl ⟨tt_ok, tab_ok (tabs_cons E_phvalid_ok tabs_nil) _ rfl rfl⟩ tt_mixed Tryz.func122 rfl (by decide) (by show (1 : Nat) ≤ _; exact Nat.le_of_ble_eq_true rfl) ⟨by simp [V.has, C.has], by simp [C.has], by simp⟩ ?_
  simp (maxSteps := 1000000) only [↓gPre, gPost, gCore, gDef, gSt, gS0, Nat.reduceShiftRight, Nat.reduceMod, ↓reduceIte, reduceCtorEq, Nat.reduceEqDiff, Nat.reduceLT, Nat.reduceLeDiff, Nat.reduceAdd, Nat.reduceMul, Int.reduceLE, Int.reduceLT, Int.reduceNeg, Int.reduceAdd, Int.reduceToNat, E_phvalid_eq, Tryz.ntmps122, Tryz.results122, gTT]
  refine ⟨fun h => ?_, fun h => ?_⟩
  · simp [pnN, pnD, pnE, h]
  · have h' : phV ⟨n, d, 0, 0, 0⟩ = true := by simpa using h
    simp [pnN, pnD, pnE, h']
def E_pnew : List V → Boxes → Toks → Name → Option Ent
  | [.agg [.d (.int .i64 n), .d (.int .i64 d)]], [], [], _ => some ⟨True, .tup [.agg [.int .i64 (pnN n d), .int .i64 (pnD n d), .int .i64 0, .int .i64 0, .int .i64 0], .int .i64 (pnE n d)], [], []⟩
  | _, _, _, _ => none
def E_pnew_eq := And.intro (@E_pnew.eq_1) (@E_pnew.eq_1)
theorem E_pnew_ok : Snd Tryz.prog 122 E_pnew := by
  intro vs b k n e h hn hp
  unfold E_pnew at h
  split at h
  · cases h; exact (spec_pnew _ _).lift rfl _
  · cases h
theorem spec_rsnew (c n d : Int) : Spec Tryz.prog 0 47 [vI .i64 c, .agg [.d (.int .i64 n), .d (.int .i64 d)]] [] [] (.tup [.agg [.int .i64 (nwR c n d).c, .int .i64 (nwR c n d).p.n, .int .i64 (nwR c n d).p.d, .int .i64 (nwR c n d).p.a, .int .i64 (nwR c n d).p.p, .int .i64 (nwR c n d).p.f, .list (LI .i32 (nwR c n d).l)], .int .i64 (nwE c n d)]) [] [] := by
  refine sE (md := fun _ => 0) (L := [(122, E_pnew), (123, E_rsvalid)]) [] 8389115 (tabs_cons E_pnew_ok (tabs_cons E_rsvalid_ok tabs_nil)) Tryz.func47 rfl rfl rfl ?_
  simp (maxSteps := 1000000) only [↓gPre, gPost, gCore, gDef, gSt, gS0, Nat.reduceShiftRight, Nat.reduceMod, ↓reduceIte, reduceCtorEq, Nat.reduceEqDiff, Nat.reduceLT, Nat.reduceLeDiff, Nat.reduceAdd, Nat.reduceMul, Int.reduceLE, Int.reduceLT, Int.reduceNeg, Int.reduceAdd, Int.reduceToNat, E_pnew_eq, E_rsvalid_eq, Tryz.ntmps47, Tryz.results47, gTT]
  refine ⟨fun h => ?_, fun h => ?_⟩
  · have e : rsV ⟨c, ⟨n, d, 0, 0, 0⟩, []⟩ = false := by
      by_cases hp : phV ⟨n, d, 0, 0, 0⟩ = true
      · have e1 : pnE n d = 0 := by simp [pnE, hp]
        simp [pnN, pnD, e1] at h; exact h
      · simp [rsV, hp]
    simp [nwR, nwE, e, rs0, LI_nil]
  · have hp : pnE n d = 0 := by simp at h; exact h.1
    simp [pnN, pnD, hp] at h ⊢
    simp [nwR, nwE, h, LI_nil]
def E_rsnew : List V → Boxes → Toks → Name → Option Ent
  | [.c (.d (.int .i64 c)), .agg [.d (.int .i64 n), .d (.int .i64 d)]], [], [], _ => some ⟨True, .tup [.agg [.int .i64 (nwR c n d).c, .int .i64 (nwR c n d).p.n, .int .i64 (nwR c n d).p.d, .int .i64 (nwR c n d).p.a, .int .i64 (nwR c n d).p.p, .int .i64 (nwR c n d).p.f, .list (LI .i32 (nwR c n d).l)], .int .i64 (nwE c n d)], [], []⟩
  | _, _, _, _ => none
def E_rsnew_eq := And.intro (@E_rsnew.eq_1) (@E_rsnew.eq_1)
theorem E_rsnew_ok : Snd Tryz.prog 47 E_rsnew := by
  intro vs b k n e h hn hp
  unfold E_rsnew at h
  split at h
  · cases h; exact (spec_rsnew _ _ _).lift rfl _
  · cases h
theorem spec_waiting (c n d a p f : Int) (l : List Int) (hl : l.length ≤ 1000000) : Spec Tryz.prog 0 55 [.agg [.d (.int .i64 c), .d (.int .i64 n), .d (.int .i64 d), .d (.int .i64 a), .d (.int .i64 p), .d (.int .i64 f), .d (.list (LI .i32 l))]] [] [] (vI .i64 (waN ⟨c, ⟨n, d, a, p, f⟩, l⟩)) [] [] := by
  refine spec_of_E (X := ⟨Tryz.prog, tt, Tryz.f55.ntmps, 1, fun _ => 0, (tab [(123, E_rsvalid)])⟩) (M := []) (m := 39) rfl rfl ⟨tt_ok, tab_ok (tabs_cons E_rsvalid_ok tabs_nil) _ rfl rfl⟩ tt_mixed Tryz.func55 rfl (by decide) (by show (1 : Nat) ≤ _; exact Nat.le_of_ble_eq_true rfl) ⟨by simp [V.has, C.has], by simp [C.has], by simp⟩ ?_
  simp (maxSteps := 1000000) only [↓gPre, gPost, gCore, gDef, gSt, gS0, Nat.reduceShiftRight, Nat.reduceMod, ↓reduceIte, reduceCtorEq, Nat.reduceEqDiff, Nat.reduceLT, Nat.reduceLeDiff, Nat.reduceAdd, Nat.reduceMul, Int.reduceLE, Int.reduceLT, Int.reduceNeg, Int.reduceAdd, Int.reduceToNat, E_rsvalid_eq, Tryz.ntmps55, Tryz.results55, gTT]
  refine ⟨hl, fun h => by simp [waN, h], fun h => ?_⟩
  have hv : rsV ⟨c, ⟨n, d, a, p, f⟩, l⟩ = true := by simpa using h
  obtain ⟨⟨k1, k2⟩, k3, k4, k5⟩ := blk_in (rsV_in hv).2 hl
  simp only at k1 k2
  refine ⟨by omega, ?_⟩
  rw [len_div k1 (by omega)]
  simp [waN, hv]
def E_waiting : List V → Boxes → Toks → Name → Option Ent
  | [.agg [.d (.int .i64 c), .d (.int .i64 n), .d (.int .i64 d), .d (.int .i64 a), .d (.int .i64 p), .d (.int .i64 f), .d (.list q_l)]], [], [], _ => some ⟨(ints q_l).length ≤ 1000000 ∧ q_l = LI .i32 (ints q_l), vI .i64 (waN ⟨c, ⟨n, d, a, p, f⟩, (ints q_l)⟩), [], []⟩
  | _, _, _, _ => none
def E_waiting_eq := And.intro (@E_waiting.eq_1) (@E_waiting.eq_1)
theorem E_waiting_ok : Snd Tryz.prog 55 E_waiting := by
  intro vs b k n e h hn hp
  unfold E_waiting at h
  split at h
  · cases h; obtain ⟨hp0, hq0⟩ := hp; obtain ⟨_, rfl⟩ := LI_ex hq0; simp only [ints_LI, bys_LB, blks_LK, lls_LL] at hp0 ⊢; exact (spec_waiting _ _ _ _ _ _ _ hp0).lift rfl _
  · cases h
theorem spec_concat (x y : List Int) (hx : x.length ≤ 1000000) (hy : y.length ≤ 1000000) : Spec Tryz.prog 0 143 [.c (.d (.list [.list (LI .i32 x), .list (LI .i32 y)]))] [] [] (vL (LI .i32 (x ++ y))) [] [] := by
  refine sE (md := fun s => if s = 24 then 3 else 0) (L := [(203, E_grow)]) [] 504373101 (tabs_cons E_grow_ok tabs_nil) Tryz.func143 rfl rfl rfl ?_
  simp (maxSteps := 1000000) only [↓gPre, gPost, gCore, gDef, gSt, gS0, Nat.reduceShiftRight, Nat.reduceMod, ↓reduceIte, reduceCtorEq, Nat.reduceEqDiff, Nat.reduceLT, Nat.reduceLeDiff, Nat.reduceAdd, Nat.reduceMul, Int.reduceLE, Int.reduceLT, Int.reduceNeg, Int.reduceAdd, Int.reduceToNat, E_grow_eq, gLL2, Tryz.ntmps143, Tryz.results143, gTT]
  have hb : ∀ i : Nat, i ≤ 2 → (catN x y i ≤ 2000000) := fun i hi => by
    have : i = 0 ∨ i = 1 ∨ i = 2 := by omega
    rcases this with rfl | rfl | rfl <;> simp [catN, catL] <;> omega
  have hs : ∀ i : Nat, i < 2 → catN x y (i + 1) = catN x y i + (([x, y])[i]?.getD []).length := fun i hi => by
    have : i = 0 ∨ i = 1 := by omega
    rcases this with rfl | rfl <;> simp [catN, catL]
  have hf : ∀ i : Nat, i < 2 → catL x y (i + 1) = catL x y i ++ (([x, y])[i]?.getD []) := fun i hi => by
    have : i = 0 ∨ i = 1 := by omega
    rcases this with rfl | rfl <;> simp [catN, catL]
  have hl : ∀ i : Nat, i ≤ 2 → (catL x y i).length ≤ 2000000 := fun i hi => by
    have : i = 0 ∨ i = 1 ∨ i = 2 := by omega
    rcases this with rfl | rfl | rfl <;> simp [catN, catL] <;> omega
  have hg : ∀ i : Nat, (([x, y])[i]?.getD []).length ≤ 1000000 := fun i => by
    match i with
    | 0 => exact hx
    | 1 => exact hy
    | i + 2 => exact Nat.zero_le _
  refine ELoop_keep (fun i => ⟨[(11, vI .i64 (i : Nat)), (3, vI .i64 ((catN x y i : Nat) : Int))], [], []⟩) (fun i => i ≤ 2) (fun i => 2 - i) (· + 1) 0 (by decide) ?_ ?_
  · simp (maxSteps := 1000000) only [↓gPre, gPost, gCore, gDef, gSt, gS0, Nat.reduceShiftRight, Nat.reduceMod, ↓reduceIte, reduceCtorEq, Nat.reduceEqDiff, Nat.reduceLT, Nat.reduceLeDiff, Nat.reduceAdd, Nat.reduceMul, Int.reduceLE, Int.reduceLT, Int.reduceNeg, Int.reduceAdd, Int.reduceToNat, E_grow_eq, gLL2, Tryz.ntmps143, Tryz.results143, gTT]
    exact ⟨rfl, rfl⟩
  intro i hi
  simp (maxSteps := 1000000) only [↓gPre, gPost, gCore, gDef, gSt, gS0, Nat.reduceShiftRight, Nat.reduceMod, ↓reduceIte, reduceCtorEq, Nat.reduceEqDiff, Nat.reduceLT, Nat.reduceLeDiff, Nat.reduceAdd, Nat.reduceMul, Int.reduceLE, Int.reduceLT, Int.reduceNeg, Int.reduceAdd, Int.reduceToNat, E_grow_eq, gLL2, Tryz.ntmps143, Tryz.results143, gTT]
  have b1 := hb i hi
  have b2 := hg i
  refine ⟨fun h => ?_, fun h => ?_⟩
  · have h2 : i < 2 := by have := of_decide_eq_true h; omega
    have b3 := hs i h2
    rw [IntWalk.i64_in (_ + _) (by omega), b3]
    refine ⟨by omega, fun h => ?_, fun h => ?_⟩
    · have := of_decide_eq_true h; omega
    · exact ⟨⟨(wrapN _ (by omega)).symm, by omega⟩, by omega, by omega⟩
  · refine ⟨⟨by omega, by omega⟩, ?_⟩
    refine ELoop_keep (fun i => ⟨[(27, vI .i64 (i : Nat)), (6, .c (.own ⟨1, 24⟩ (LI .i32 (catL x y i))))], [], [(⟨1, 24⟩, ⟨false, 1, LI .i32 (catL x y i)⟩)]⟩) (fun i => i ≤ 2) (fun i => 2 - i) (· + 1) 0 (by decide) ?_ ?_
    · simp (maxSteps := 1000000) only [↓gPre, gPost, gCore, gDef, gSt, gS0, Nat.reduceShiftRight, Nat.reduceMod, ↓reduceIte, reduceCtorEq, Nat.reduceEqDiff, Nat.reduceLT, Nat.reduceLeDiff, Nat.reduceAdd, Nat.reduceMul, Int.reduceLE, Int.reduceLT, Int.reduceNeg, Int.reduceAdd, Int.reduceToNat, E_grow_eq, gLL2, Tryz.ntmps143, Tryz.results143, gTT]
      simp [LI_nil, catL]
    intro j hj
    simp (maxSteps := 1000000) only [↓gPre, gPost, gCore, gDef, gSt, gS0, Nat.reduceShiftRight, Nat.reduceMod, ↓reduceIte, reduceCtorEq, Nat.reduceEqDiff, Nat.reduceLT, Nat.reduceLeDiff, Nat.reduceAdd, Nat.reduceMul, Int.reduceLE, Int.reduceLT, Int.reduceNeg, Int.reduceAdd, Int.reduceToNat, E_grow_eq, gLL2, Tryz.ntmps143, Tryz.results143, gTT]
    have b1 := hl j hj
    have b2 := hg j
    refine ⟨fun h => ?_, fun h => ?_⟩
    · have h2 : j < 2 := by have := of_decide_eq_true h; omega
      rw [hf j h2]
      exact ⟨by omega, by unfold roomOK; omega, ⟨⟨(wrapN _ (by omega)).symm, rfl⟩, rfl⟩, by omega, by omega⟩
    · have : j = 2 := by have := of_decide_eq_false h; omega
      subst this
      simp [catL]
def E_concat : List V → Boxes → Toks → Name → Option Ent
  | [.c (.d (.list [.list q_x, .list q_y]))], [], [], _ => some ⟨(ints q_x).length ≤ 1000000 ∧ (ints q_y).length ≤ 1000000 ∧ q_x = LI .i32 (ints q_x) ∧ q_y = LI .i32 (ints q_y), vL (LI .i32 ((ints q_x) ++ (ints q_y))), [], []⟩
  | _, _, _, _ => none
def E_concat_eq := And.intro (@E_concat.eq_1) (@E_concat.eq_1)
theorem E_concat_ok : Snd Tryz.prog 143 E_concat := by
  intro vs b k n e h hn hp
  unfold E_concat at h
  split at h
  · cases h; obtain ⟨hp0, hp1, hq0, hq1⟩ := hp; obtain ⟨_, rfl⟩ := LI_ex hq0; obtain ⟨_, rfl⟩ := LI_ex hq1; simp only [ints_LI, bys_LB, blks_LK, lls_LL] at hp0 hp1 ⊢; exact (spec_concat _ _ hp0 hp1).lift rfl _
  · cases h
theorem spec_feed (c n d a p f : Int) (l : List Int) (k : Int) (y : List Int) (hl : l.length ≤ 1000000) (hy : y.length ≤ 1000000) : Spec Tryz.prog 0 88 [.agg [.d (.int .i64 c), .d (.int .i64 n), .d (.int .i64 d), .d (.int .i64 a), .d (.int .i64 p), .d (.int .i64 f), .d (.list (LI .i32 l))], .agg [.d (.int .i64 k), .d (.list (LI .i32 y))]] [] [] (.tup [.agg [.int .i64 (feR ⟨c, ⟨n, d, a, p, f⟩, l⟩ k y).c, .int .i64 (feR ⟨c, ⟨n, d, a, p, f⟩, l⟩ k y).p.n, .int .i64 (feR ⟨c, ⟨n, d, a, p, f⟩, l⟩ k y).p.d, .int .i64 (feR ⟨c, ⟨n, d, a, p, f⟩, l⟩ k y).p.a, .int .i64 (feR ⟨c, ⟨n, d, a, p, f⟩, l⟩ k y).p.p, .int .i64 (feR ⟨c, ⟨n, d, a, p, f⟩, l⟩ k y).p.f, .list (LI .i32 (feR ⟨c, ⟨n, d, a, p, f⟩, l⟩ k y).l)], .int .i64 (feE ⟨c, ⟨n, d, a, p, f⟩, l⟩ k y)]) [] [] := by
  refine sE (md := fun _ => 0) (L := [(123, E_rsvalid), (62, E_bvalid), (143, E_concat)]) [(5, [0, 0, 0, 0, 0, 33898430591, 0, 0, 0, 0, 0, 0])] 8454271 (tabs_cons E_rsvalid_ok (tabs_cons E_bvalid_ok (tabs_cons E_concat_ok tabs_nil))) Tryz.func88 rfl rfl rfl ?_
  simp (maxSteps := 1000000) only [↓gPre, gPost, gCore, gDef, gSt, gS0, Nat.reduceShiftRight, Nat.reduceMod, ↓reduceIte, reduceCtorEq, Nat.reduceEqDiff, Nat.reduceLT, Nat.reduceLeDiff, Nat.reduceAdd, Nat.reduceMul, Int.reduceLE, Int.reduceLT, Int.reduceNeg, Int.reduceAdd, Int.reduceToNat, E_rsvalid_eq, E_bvalid_eq, E_concat_eq, Tryz.ntmps88, Tryz.results88, gTT]
  refine ⟨hl, fun _ => hy, fun h => ?_, fun h => ⟨fun h2 => ?_, fun h2 => ?_⟩⟩
  · have e : feE ⟨c, ⟨n, d, a, p, f⟩, l⟩ k y = 1 := by unfold feE; rw [if_pos h]
    simp [feR, e, rs0, LI_nil]
  · have hk : k ≠ c := by simpa using h2
    have e : feE ⟨c, ⟨n, d, a, p, f⟩, l⟩ k y = 11 := by unfold feE; rw [if_neg (by rw [h]; decide), if_pos hk]
    simp [feR, e, rs0, LI_nil]
  have hk : k = c := by simpa using h2
  have hv : rsV ⟨c, ⟨n, d, a, p, f⟩, l⟩ = true := by simp at h; exact h.1
  obtain ⟨⟨k1, k2⟩, k3, k4, k5⟩ := blk_in (rsV_in hv).2 hl
  simp only at k1 k2
  rw [sum_div k1 (by omega)]
  refine ⟨by omega, fun h3 => ?_, fun h3 => ?_⟩
  · have h4 : 65536 < (l.length + y.length) / c.toNat := by have := of_decide_eq_true h3; omega
    have e : feE ⟨c, ⟨n, d, a, p, f⟩, l⟩ k y = 3 := by unfold feE; rw [if_neg (by rw [h]; decide), if_neg (by simpa using hk), if_pos h4]
    simp [feR, e, rs0, LI_nil]
  have h4 : ¬ 65536 < (l.length + y.length) / c.toNat := by have := of_decide_eq_false h3; omega
  have e : feE ⟨c, ⟨n, d, a, p, f⟩, l⟩ k y = 0 := by unfold feE; rw [if_neg (by rw [h]; decide), if_neg (by simpa using hk), if_neg h4]
  refine ⟨⟨hl, hy⟩, ?_⟩
  simp [feR, e]
def E_feed : List V → Boxes → Toks → Name → Option Ent
  | [.agg [.d (.int .i64 c), .d (.int .i64 n), .d (.int .i64 d), .d (.int .i64 a), .d (.int .i64 p), .d (.int .i64 f), .d (.list q_l)], .agg [.d (.int .i64 k), .d (.list q_y)]], [], [], _ => some ⟨(ints q_l).length ≤ 1000000 ∧ (ints q_y).length ≤ 1000000 ∧ q_l = LI .i32 (ints q_l) ∧ q_y = LI .i32 (ints q_y), .tup [.agg [.int .i64 (feR ⟨c, ⟨n, d, a, p, f⟩, (ints q_l)⟩ k (ints q_y)).c, .int .i64 (feR ⟨c, ⟨n, d, a, p, f⟩, (ints q_l)⟩ k (ints q_y)).p.n, .int .i64 (feR ⟨c, ⟨n, d, a, p, f⟩, (ints q_l)⟩ k (ints q_y)).p.d, .int .i64 (feR ⟨c, ⟨n, d, a, p, f⟩, (ints q_l)⟩ k (ints q_y)).p.a, .int .i64 (feR ⟨c, ⟨n, d, a, p, f⟩, (ints q_l)⟩ k (ints q_y)).p.p, .int .i64 (feR ⟨c, ⟨n, d, a, p, f⟩, (ints q_l)⟩ k (ints q_y)).p.f, .list (LI .i32 (feR ⟨c, ⟨n, d, a, p, f⟩, (ints q_l)⟩ k (ints q_y)).l)], .int .i64 (feE ⟨c, ⟨n, d, a, p, f⟩, (ints q_l)⟩ k (ints q_y))], [], []⟩
  | _, _, _, _ => none
def E_feed_eq := And.intro (@E_feed.eq_1) (@E_feed.eq_1)
theorem E_feed_ok : Snd Tryz.prog 88 E_feed := by
  intro vs b k n e h hn hp
  unfold E_feed at h
  split at h
  · cases h; obtain ⟨hp0, hp1, hq0, hq1⟩ := hp; obtain ⟨_, rfl⟩ := LI_ex hq0; obtain ⟨_, rfl⟩ := LI_ex hq1; simp only [ints_LI, bys_LB, blks_LK, lls_LL] at hp0 hp1 ⊢; exact (spec_feed _ _ _ _ _ _ _ _ _ hp0 hp1).lift rfl _
  · cases h
end Go.Vam
