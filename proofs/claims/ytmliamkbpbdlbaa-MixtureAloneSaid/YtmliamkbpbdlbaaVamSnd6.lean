/- The value-level machine, part 12: slices that are made, built-in functions, appends. Conditions: none. -/
import Derived.Test.YtmliamkbpbdlbaaVamSnd5
set_option linter.unusedVariables false
set_option linter.unusedSimpArgs false
namespace Go.Vam

section
variable {ok : Foot} {ℓ : Loc} {w : World}

/-- Literals in order: the row holds the elements. -/
theorem fill_seq (sz : Nat) : ∀ (us : List Value) (i0 : Nat) (cs : Array Value), (∀ u ∈ us, u.cells.size = sz) → (i0 + us.length) * sz ≤ cs.size →
    ∃ cs', Instr.fill (fun i => some (i * sz, sz)) cs ((List.range' i0 us.length).zip us) = some cs' ∧ cs'.size = cs.size ∧ (∀ x, x < i0 * sz → cs'[x]? = cs[x]?) ∧
      ∀ (p : Nat) u (j : Nat) v, us[p]? = some u → u.cells[j]? = some v → cs'[(i0 + p) * sz + j]? = some v
  | [], i0, cs, _, _ => ⟨cs, by simp [Instr.fill], rfl, fun _ _ => rfl, by simp⟩
  | u :: us, i0, cs, h, hs => by
    have hu := h u (by simp)
    simp only [List.length_cons] at hs
    have hmul : (i0 + (us.length + 1)) * sz = i0 * sz + sz + us.length * sz := by rw [Nat.add_mul, Nat.add_mul, Nat.one_mul]; omega
    obtain ⟨cs', h1, h2, h3, h4⟩ := fill_seq sz us (i0 + 1) (setFrom cs (i0 * sz) u.cells.toList) (fun u hu => h u (by simp [hu])) (by rw [size_setFrom]; rw [show i0 + 1 + us.length = i0 + (us.length + 1) by omega]; exact hs)
    refine ⟨cs', ?_, by rw [h2, size_setFrom], fun x hx => ?_, fun p u' j v hp hv => ?_⟩
    · simp only [List.length_cons, List.range'_succ, List.zip_cons_cons, Instr.fill]
      have e1 : ¬ (u.cells.size ≠ sz ∨ i0 * sz + u.cells.size > cs.size) := by omega
      rw [if_neg (by simpa using e1), fill_step]
      exact h1
    · rw [h3 x (by rw [Nat.add_mul, Nat.one_mul]; omega), setFrom_out _ _ _ _ (.inl hx)]
    · cases p with
      | zero =>
        simp only [List.getElem?_cons_zero, Option.some.injEq] at hp
        subst hp
        have hj : j < sz := by rw [← hu]; exact (Array.getElem?_eq_some_iff.1 hv).1
        rw [Nat.add_zero, h3 _ (by rw [Nat.add_mul, Nat.one_mul]; omega)]
        rw [setFrom_in _ _ _ _ (by simp only [Array.length_toList, hu]; omega) (by simp only [Array.length_toList, hu]; exact hj)]
        simpa using hv
      | succ p =>
        simp only [List.getElem?_cons_succ] at hp
        rw [show i0 + (p + 1) = i0 + 1 + p by omega]
        exact h4 p u' j v hp hv

theorem toDs_all : ∀ (vs : List V) (l : List D), toDs vs = some l → l.length = vs.length ∧ ∀ (i : Nat) x, l[i]? = some x → ∃ v, vs[i]? = some v ∧ v.toD = some x
  | [], l, h => by simp only [toDs, Option.some.injEq] at h; subst h; simp
  | v :: vs, l, h => by
    simp only [toDs] at h
    split at h
    case h_2 => cases h
    rename_i x xs hx hxs
    simp only [Option.some.injEq] at h
    subst h
    obtain ⟨h1, h2⟩ := toDs_all vs xs hxs
    refine ⟨by simp [h1], fun i y hy => ?_⟩
    cases i with
    | zero => simp at hy; subst hy; exact ⟨v, by simp, hx⟩
    | succ i => simp at hy; simpa using h2 i y hy

/-- A row of zero values. -/
theorem zero_holds {P : Program} {e : TypeId} {ei : TI} {i : TypeInfo} {d : TypeDesc} {z : Value} (h : TI.Ok P e ei i d z) {x : D} (hx : zeroD ei = some x) (hxl : x.cells.length = ei.size) (n c : Nat) (hn : n ≤ c) :
    Holds ok w ei.size (List.replicate n x) (fun k => (madeCells z.cells (c * i.size))[k]?) := by
  have hzc : RCs ok ⟨fun _ => 0, fun _ => .bool false, fun _ => 0⟩ w z.cells ei.zero := by simpa using (zcs_rep ok ⟨fun _ => 0, fun _ => .bool false, fun _ => 0⟩ w z.cells.toList ei.zero h.zcells).1
  unfold zeroD at hx
  split at hx
  case h_2 => cases hx
  rename_i ds hds
  obtain ⟨h1, h2⟩ := hzc.toDs hds
  have hxc : x.cells = ds := by
    split at hx
    · simp only [Option.some.injEq] at hx; subst hx; rfl
    · split at hx
      · simp only [Option.some.injEq] at hx
        subst hx
        rename_i y
        have := (h2 0 y (by simp)).1
        cases y <;> first | rfl | simp [D.sc] at this
      · cases hx
  have hzs : z.cells.size = ei.size := by rw [← h1, ← hxc, hxl]
  refine ⟨fun y hy => by rw [List.eq_of_mem_replicate hy]; exact hxl, fun p y j q hy hq => ?_⟩
  have hp : p < n := by have := (List.getElem?_eq_some_iff.1 hy).1; simpa using this
  rw [List.getElem?_replicate, if_pos hp] at hy
  cases hy
  rw [hxc] at hq
  obtain ⟨hsc, u, hu, hrep⟩ := h2 j q hq
  have hj : j < ei.size := by rw [← hzs]; exact (Array.getElem?_eq_some_iff.1 hu).1
  refine ⟨hsc, u, ?_, hrep⟩
  have hlt : p * ei.size + j < c * i.size := by
    rw [h.size]
    have : (p + 1) * ei.size ≤ c * ei.size := Nat.mul_le_mul_right _ (by omega)
    rw [Nat.add_mul, Nat.one_mul] at this; omega
  simp only [madeCells, Array.getElem?_map]
  rw [Array.getElem?_range, if_pos hlt]
  have hmod : (p * ei.size + j) % z.cells.size = j := by rw [hzs, Nat.mul_comm, Nat.mul_add_mod]; exact Nat.mod_eq_of_lt hj
  simp only [Option.map_some, hmod]
  rw [getElem!_def, hu]
end

section
variable {X : Ctx} {gd : Option Bool} {o : Oper}

theorem madeCells_one {z : Array Value} {n i : Nat} {u : Value} (hz : z.size = 1) (h : (madeCells z n)[i]? = some u) : z[0]? = some u := by
  unfold madeCells at h
  rw [Array.getElem?_map] at h
  obtain ⟨k, _, rfl⟩ := Option.map_eq_some_iff.1 h
  rw [hz, Nat.mod_one, Array.getElem?_eq_getElem (by omega), getElem!_pos z 0 (by omega)]
theorem cells_oneCell {u : Value} (h : u.oneCell' = true) : u.cells.size = 1 := by
  cases u <;> first | rfl | cases h
theorem cells_zero {u : Value} (h : u.oneCell' = true) : u.cells[0]? = some u := by
  cases u <;> first | rfl | cases h
theorem toCs_all : ∀ (vs : List V) (cs : List C), toCs vs = some cs → cs.length = vs.length ∧ ∀ (i : Nat) v, vs[i]? = some v → ∃ x, cs[i]? = some x ∧ v = .c x
  | [], cs, h => by simp only [toCs, Option.some.injEq] at h; subst h; simp
  | .c x :: vs, cs, h => by
    simp only [toCs, Option.map_eq_some_iff] at h
    obtain ⟨cs', h1, rfl⟩ := h
    obtain ⟨h2, h3⟩ := toCs_all vs cs' h1
    refine ⟨by simp [h2], fun i v hv => ?_⟩
    cases i with
    | zero => simp at hv; subst hv; exact ⟨x, by simp, rfl⟩
    | succ i => simp at hv; simpa using h3 i v hv
  | .agg _ :: _, _, h => by cases h
  | .tup _ :: _, _, h => by cases h
  | .ts _ _ :: _, _, h => by cases h
  | .g _ _ :: _, _, h => by cases h

theorem snd_buildSlice (hT : TOk X) (hd : ∀ d, o.dst = some d → d < X.n) (hg : gd.getD true = true) {t : TypeId} {len : Nat} {ps : Array (Nat × Operand)} (ho : o.op = .buildSlice t len ps) : Sound X gd o := by
  rintro S st a w R r hr hfr ⟨ok, ℓ, hs⟩ K Q hK
  simp only [opSem, ho] at hr
  obtain ⟨vs, R1, h1, h2, hf1⟩ := opnds_run hs hg _ hr
  obtain ⟨ti, hti, h3⟩ := orFail_inv h2
  obtain ⟨e, he, h4⟩ := orFail_inv h3
  obtain ⟨ei, hei, h5⟩ := orFail_inv h4
  obtain ⟨i, dsc, z, hto⟩ := TI.ok (hT t ti hti)
  obtain ⟨i', dsc', z', heo⟩ := TI.ok (hT e ei hei)
  have hu := hto.und
  rw [hto.elem e he] at hu
  split at h5
  case isFalse => exact (fail_inv h5).elim
  rename_i hc
  have hlen0 : ps.toList.length = len := by have := congrArg List.length hc.1; simpa using this
  split at h5
  · obtain ⟨rfl, h6⟩ := noGd_inv h5
    obtain ⟨hone, h7⟩ := need_inv h6
    obtain ⟨cs, hcs, h8⟩ := orFail_inv h7
    obtain ⟨d, hdd, h9⟩ := orFail_inv h8
    have hrr := ret_inv h9
    subst hrr
    obtain ⟨hc1, hc2⟩ := toCs_all vs cs hcs
    have hus : ((ps.toList.map (·.2)).map a.eval).length = len := by simp [hlen0]
    have hvl : vs.length = len := by have := h1.1; simp only [List.size_toArray] at this; omega
    have hcell : ∀ (p : Nat) u, ((ps.toList.map (·.2)).map a.eval)[p]? = some u → ∃ x, cs[p]? = some x ∧ RC ok ℓ w u x ∧ ∀ n, x.has n → ∃ v, v ∈ vs ∧ v.has n := by
      intro p u hp
      have hlt : p < vs.length := by rw [hvl, ← hus]; exact (List.getElem?_eq_some_iff.1 hp).1
      obtain ⟨x, hx1, hx2⟩ := hc2 p vs[p] (List.getElem?_eq_getElem hlt)
      have hrv := h1.2 p u vs[p] (by simpa using hp) (List.getElem?_eq_getElem hlt)
      rw [hx2] at hrv
      exact ⟨x, hx1, hrv, fun n hn => ⟨vs[p], List.getElem_mem hlt, by rw [hx2]; exact hn⟩⟩
    have husz : ∀ u ∈ (ps.toList.map (·.2)).map a.eval, u.cells.size = ei.size := by
      intro u hu
      obtain ⟨p, hp⟩ := List.mem_iff_getElem?.1 hu
      obtain ⟨x, _, hx, _⟩ := hcell p u hp
      rw [cells_oneCell hx.oneCell, hone]
    have hrun : ∃ cs' : Array Value, (Instr.buildSlice t len (ps.map fun p => (p.1, a.eval p.2))).run X.P w = .ok (.slice (some ⟨w.heap.size, 0, none⟩) len len) (w.alloc (.cells cs' e)) ∧ cs'.size = len ∧ ∀ (p : Nat) (u : Value), ((ps.toList.map (·.2)).map a.eval)[p]? = some u → cs'[p]? = some u := by
      let base : Array Value := (Array.range (len * ei.size)).map fun k => (if len * ei.size = 0 then #[] else z'.cells)[k % (if len * ei.size = 0 then #[] else z'.cells).size]!
      obtain ⟨cs', h9, h10, _, h11⟩ := fill_seq ei.size ((ps.toList.map (·.2)).map a.eval) 0 base husz (by rw [hus]; simp [base])
      have hzip : (ps.map fun p => (p.1, a.eval p.2)).toList = (List.range' 0 ((ps.toList.map (·.2)).map a.eval).length).zip ((ps.toList.map (·.2)).map a.eval) := by
        rw [hus, ← List.range_eq_range', ← hc.1]
        simp only [Array.toList_map, List.map_map]
        rw [List.zip_map']
        rfl
      refine ⟨cs', ?_, by rw [h10]; simp [base, hone], fun p u hp => ?_⟩
      · have hz : (zeroValue e).run X.P w = .ok z' w := by simp [zeroValue, typeInfo, heo.info, heo.zero]
        have hnb : ¬ (len * ei.size > 2 ^ 24) := by have := hc.2; omega
        rw [← hzip] at h9
        simp only [Instr.buildSlice, Sem.run_bind, run_underlying hu, Result.andThen_ok, run_sizeOf' heo, hnb, if_false, Sem.run_pure]
        by_cases h0 : len * ei.size = 0
        · simp only [h0, if_true, Sem.run_bind, Sem.run_pure, Result.andThen_ok]
          simp only [base, h0, if_true] at h9
          rw [h9]
          simp [newRow]
        · simp only [h0, if_false, Sem.run_bind, hz, Result.andThen_ok, Sem.run_pure]
          simp only [base, h0, if_false] at h9
          rw [h9]
          simp [newRow]
      · obtain ⟨x, _, hx, _⟩ := hcell p u hp
        have := h11 p u 0 u hp (by rw [cells_zero hx.oneCell])
        rwa [Nat.zero_add, hone, Nat.mul_one, Nat.add_zero] at this
    obtain ⟨cs', hrun, hcs1, hcs2⟩ := hrun
    have hex : (execOp a.eval o).run X.P w = .ok (.value (.slice (some ⟨w.heap.size, 0, none⟩) len len)) (w.alloc (.cells cs' e)) := by
      simp [execOp, ho, hrun]
    have hrow : RCs ok ℓ w cs' cs := by
      refine ⟨by rw [hcs1, hc1, hvl], fun i u c hu' hc' => ?_⟩
      have hi : i < ((ps.toList.map (·.2)).map a.eval).length := by rw [hus, ← hcs1]; exact (Array.getElem?_eq_some_iff.1 hu').1
      obtain ⟨x, hx1, hx2, _⟩ := hcell i _ (List.getElem?_eq_getElem hi)
      rw [hc'] at hx1
      cases hx1
      have := hcs2 i _ (List.getElem?_eq_getElem hi)
      rw [hu'] at this
      cases this
      exact hx2
    have hfree := hfr ⟨X.L, d⟩ (by simp)
    have hnew := hs.newBox hfree e hrow (fun c hc' hh => by
      obtain ⟨i, hi⟩ := List.getElem?_of_mem hc'
      have hil : i < ((ps.toList.map (·.2)).map a.eval).length := by rw [hus, ← hvl, ← hc1]; exact (List.getElem?_eq_some_iff.1 hi).1
      obtain ⟨x, hx1, _, hx3⟩ := hcell i _ (List.getElem?_eq_getElem hil)
      rw [hi] at hx1
      cases hx1
      obtain ⟨v, hv, hvn⟩ := hx3 _ hh
      exact hf1 _ hfree v hv hvn)
    refine wp_value hex (hK _ _ (Sim.fin hnew hd hg (fun _ => ?_)))
    simp only [RV, RC, Loc.setI, if_true]
  obtain ⟨l, h6, h7⟩ := orFail_inv h5
  obtain ⟨huni, h8⟩ := need_inv h7
  obtain ⟨hl1, hl2⟩ := toDs_all vs l h6
  have hlen : ps.toList.length = len := by have := congrArg List.length hc.1; simpa using this
  have hus : ((ps.toList.map (·.2)).map a.eval).length = len := by simp [hlen]
  have hvl : vs.length = len := by have := h1.1; simp only [List.size_toArray] at this; omega
  have hll : l.length = len := by omega
  have hcell : ∀ (p : Nat) u, ((ps.toList.map (·.2)).map a.eval)[p]? = some u → ∃ x, l[p]? = some x ∧ x.cells.length = u.cells.size ∧ ∀ (j : Nat) y, x.cells[j]? = some y → y.sc = true ∧ ∃ z, u.cells[j]? = some z ∧ Rep ok w z y := by
    intro p u hp
    have hlt : p < l.length := by rw [hll, ← hus]; exact (List.getElem?_eq_some_iff.1 hp).1
    obtain ⟨v, hv, hvd⟩ := hl2 p l[p] (List.getElem?_eq_getElem hlt)
    obtain ⟨h9, h10⟩ := toD_cells (h1.2 p u v (by simpa using hp) hv) hvd
    exact ⟨l[p], List.getElem?_eq_getElem hlt, h9, h10⟩
  have husz : ∀ u ∈ (ps.toList.map (·.2)).map a.eval, u.cells.size = ei.size := by
    intro u hu
    obtain ⟨p, hp⟩ := List.mem_iff_getElem?.1 hu
    obtain ⟨x, hx, h9, _⟩ := hcell p u hp
    rw [← h9]; exact huni x (List.mem_of_getElem? hx)
  have hzero : ∀ f : Nat → Value, ((Array.range (len * ei.size)).map f).size = len * ei.size := by intro f; simp
  have hrun : ∃ cs', (Instr.buildSlice t len (ps.map fun p => (p.1, a.eval p.2))).run X.P w = .ok (.slice (some ⟨w.heap.size, 0, none⟩) len len) (w.alloc (.cells cs' e)) ∧ cs'.size = len * ei.size ∧ Holds ok w ei.size l (fun k => cs'[k]?) := by
    let base : Array Value := (Array.range (len * ei.size)).map fun k => (if len * ei.size = 0 then #[] else z'.cells)[k % (if len * ei.size = 0 then #[] else z'.cells).size]!
    obtain ⟨cs', h9, h10, _, h11⟩ := fill_seq ei.size ((ps.toList.map (·.2)).map a.eval) 0 base husz (by rw [hus]; simp [base])
    have hzip : (ps.map fun p => (p.1, a.eval p.2)).toList = (List.range' 0 ((ps.toList.map (·.2)).map a.eval).length).zip ((ps.toList.map (·.2)).map a.eval) := by
      rw [hus, ← List.range_eq_range', ← hc.1]
      simp only [Array.toList_map, List.map_map]
      rw [List.zip_map']
      rfl
    refine ⟨cs', ?_, by rw [h10]; simp [base], huni, fun p x j y hx hy => ?_⟩
    · have hz : (zeroValue e).run X.P w = .ok z' w := by simp [zeroValue, typeInfo, heo.info, heo.zero]
      have hnb : ¬ (len * ei.size > 2 ^ 24) := by have := hc.2; omega
      rw [← hzip] at h9
      simp only [Instr.buildSlice, Sem.run_bind, run_underlying hu, Result.andThen_ok, run_sizeOf' heo, hnb, if_false, Sem.run_pure]
      by_cases h0 : len * ei.size = 0
      · simp only [h0, if_true, Sem.run_bind, Sem.run_pure, Result.andThen_ok]
        simp only [base, h0, if_true] at h9
        rw [h9]
        simp [newRow]
      · simp only [h0, if_false, Sem.run_bind, hz, Result.andThen_ok, Sem.run_pure]
        simp only [base, h0, if_false] at h9
        rw [h9]
        simp [newRow]
    · have hlt : p < len := by rw [← hll]; exact (List.getElem?_eq_some_iff.1 hx).1
      have hp : ((ps.toList.map (·.2)).map a.eval)[p]? = some ((ps.toList.map (·.2)).map a.eval)[p] := List.getElem?_eq_getElem (by omega)
      obtain ⟨x', hx', _, h12⟩ := hcell p _ hp
      rw [hx] at hx'
      cases hx'
      obtain ⟨hsc, u, hu', hrep⟩ := h12 j y hy
      refine ⟨hsc, u, ?_, hrep⟩
      have := h11 p _ j u hp hu'
      rwa [Nat.zero_add] at this
  obtain ⟨cs', hrun, hcs, hh⟩ := hrun
  have hex : (execOp a.eval o).run X.P w = .ok (.value (.slice (some ⟨w.heap.size, 0, none⟩) len len)) (w.alloc (.cells cs' e)) := by
    simp [execOp, ho, hrun]
  rw [show len = l.length from hll.symm] at hex
  split at h8
  · obtain ⟨rfl, h9⟩ := noGd_inv h8
    obtain ⟨d, hdd, h10⟩ := orFail_inv h9
    have hrr := ret_inv h10
    subst hrr
    obtain ⟨ℓ', hs', hrv⟩ := hs.newBuf (hfr ⟨X.L, d⟩ (by simp)) (T := e) (cap := l.length) (Nat.le_refl _) (by rw [hcs, hll]) hh
    exact wp_value hex (hK _ _ (Sim.fin hs' hd hg (fun _ => hrv)))
  · rw [ret_inv h8] at hK
    have hs' := hs.newRow (.cells cs' e) (l.length * ei.size)
    have hrep := Rep.newRow hs.mem.alive e (cap := l.length) (Nat.le_refl _) hh
    exact wp_value hex (hK _ _ (Sim.fin hs' hd hg (fun _ => ⟨hrep, rfl⟩)))

theorem snd_makeSlice (hT : TOk X) (hd : ∀ d, o.dst = some d → d < X.n) (hg : gd.getD true = true) {t : TypeId} {x y : Operand} (ho : o.op = .makeSlice t x y) : Sound X gd o := by
  rintro S st a w R r hr hfr ⟨ok, ℓ, hs⟩ K Q hK
  simp only [opSem, ho] at hr
  obtain ⟨xv, R1, h1, h2, hf1⟩ := opnd_run hs hg hr
  obtain ⟨yv, R2, h3, h4, hf2⟩ := opnd_run hs hg h2
  obtain ⟨k, n, rfl, h5⟩ := asI_inv h4
  obtain ⟨k', m, rfl, h6⟩ := asI_inv h5
  obtain ⟨ti, hti, h7⟩ := orFail_inv h6
  obtain ⟨e, he, h8⟩ := orFail_inv h7
  obtain ⟨ei, hei, h9⟩ := orFail_inv h8
  obtain ⟨zd, hzd, h10⟩ := orFail_inv h9
  obtain ⟨⟨g0, g1, g2, g3⟩, h11⟩ := gNeed_inv hg h10
  obtain ⟨i, dsc, z, hto⟩ := TI.ok (hT t ti hti)
  obtain ⟨i', dsc', z', heo⟩ := TI.ok (hT e ei hei)
  have hu := hto.und
  rw [hto.elem e he] at hu
  have hx : a.eval x = .int k n := h1.1.int_inv
  have hy : a.eval y = .int k' m := h3.1.int_inv
  split at h11
  case isFalse => exact (fail_inv h11).elim
  rename_i hc
  have hh := zero_holds (ok := ok) (w := w) heo hzd hc.1 n.toNat m.toNat (by omega)
  have hcs : (madeCells z'.cells (m.toNat * i'.size)).size = m.toNat * ei.size := by rw [size_madeCells, heo.size]
  have hex : (execOp a.eval o).run X.P w = .ok (.value (.slice (some ⟨w.heap.size, 0, none⟩) n.toNat m.toNat)) (w.alloc (.cells (madeCells z'.cells (m.toNat * i'.size)) e)) := by
    have hb : (i'.bytes : Int) * m ≤ 281474976710656 := by rw [heo.bytes, Int.mul_comm]; omega
    simp [execOp, ho, hx, hy, run_make w t e i' z' hu heo.info heo.zero k k' n m g0 g1 hb g3]
  split at h11
  · obtain ⟨rfl, h12⟩ := noGd_inv h11
    obtain ⟨d, hdd, h13⟩ := orFail_inv h12
    have hrr := ret_inv h13
    subst hrr
    obtain ⟨ℓ', hs', hrv⟩ := hs.newBuf (hfr ⟨X.L, d⟩ (by simp)) (T := e) (cap := m.toNat) (by simp; omega) hcs hh
    rw [show (List.replicate n.toNat zd).length = n.toNat by simp] at hrv hs'
    exact wp_value hex (hK _ _ (Sim.fin hs' hd hg (fun _ => hrv)))
  · split at h11
    · obtain ⟨rfl, h12⟩ := noGd_inv h11
      obtain ⟨rfl, h13⟩ := need_inv h12
      obtain ⟨d, hdd, h14⟩ := orFail_inv h13
      have hrr := ret_inv h14
      subst hrr
      obtain ⟨ℓ', hs', hrv⟩ := hs.newArr (hfr ⟨X.L, d⟩ (by simp)) (T := e) (by simpa using hcs) hh
      rw [show (List.replicate n.toNat zd).length = n.toNat by simp] at hrv
      exact wp_value hex (hK _ _ (Sim.fin hs' hd hg (fun _ => hrv)))
    · split at h11
      · obtain ⟨rfl, h12⟩ := noGd_inv h11
        obtain ⟨⟨rfl, hone⟩, h13⟩ := need_inv h12
        obtain ⟨c0, hc0, h14⟩ := orFail_inv h13
        obtain ⟨d, hdd, h15⟩ := orFail_inv h14
        have hrr := ret_inv h15
        subst hrr
        have hzc : RCs ok ℓ w z'.cells ei.zero ∧ ∀ c ∈ ei.zero, ∀ n, ¬ c.has n := by simpa using zcs_rep ok ℓ w z'.cells.toList ei.zero heo.zcells
        have hsz1 : i'.size = 1 := by rw [heo.size, hone]
        have hrow : RCs ok ℓ w (madeCells z'.cells (n.toNat * i'.size)) (List.replicate n.toNat c0) := by
          refine ⟨by rw [size_madeCells, hsz1]; simp, fun i u c hu hc => ?_⟩
          obtain ⟨hin, rfl⟩ : i < n.toNat ∧ c = c0 := by
            rw [List.getElem?_replicate] at hc
            split at hc
            · rename_i hlt; exact ⟨hlt, by cases hc; rfl⟩
            · cases hc
          refine hzc.1.2 0 u c ?_ hc0
          have hzs : z'.cells.size = 1 := by rw [hzc.1.1, heo.zlen, hone]
          exact madeCells_one hzs hu
        have hnew := hs.newBox (hfr ⟨X.L, d⟩ (by simp)) e hrow (fun c hc => hzc.2 c (by rw [List.mem_replicate] at hc; rw [hc.2]; exact List.mem_of_getElem? hc0) _)
        refine wp_value hex (hK _ _ (Sim.fin hnew hd hg (fun _ => ?_)))
        simp only [RV, RC, Loc.setI, if_true]
      rw [ret_inv h11] at hK
      have hs' := hs.newRow (.cells (madeCells z'.cells (m.toNat * i'.size)) e) ((List.replicate n.toNat zd).length * ei.size)
      have hrep := Rep.newRow hs.mem.alive e (cap := m.toNat) (by simp; omega) hh
      simp only [List.length_replicate] at hrep hs'
      exact wp_value hex (hK _ _ (Sim.fin hs' hd hg (fun _ => ⟨hrep, rfl⟩)))

theorem caps_run {ok ℓ w} : ∀ (us : List Value) (vs : List V) (l : List (Name × Nat)), RVs ok ℓ w us.toArray vs →
    vs.foldr (fun v acc => match v, acc with
      | .c (.lp n off), some l => some ((n, off) :: l)
      | _, _ => none) (some []) = some l → us = l.map fun p => Value.pointer (some ⟨ℓ.i p.1, p.2, none⟩)
  | [], [], l, h, hl => by simp at hl; subst hl; rfl
  | [], _ :: _, _, h, _ => by have := h.1; simp at this
  | _ :: _, [], _, h, _ => by have := h.1; simp at this
  | u :: us, v :: vs, l, h, hl => by
    simp only [List.foldr_cons] at hl
    split at hl
    · rename_i n off l' hl'
      simp only [Option.some.injEq] at hl
      subst hl
      have hu : RV ok ℓ w u (.c (.lp n off)) := h.2 0 u _ (by simp) (by simp)
      simp only [RV, RC] at hu
      have := caps_run us vs l' ⟨by have := h.1; simpa using this, fun j a b ha hb => h.2 (j + 1) a b (by simpa using ha) (by simpa using hb)⟩ hl'
      simp [hu, this]
    · cases hl

theorem snd_makeFunc (hd : ∀ d, o.dst = some d → d < X.n) (hg : gd.getD true = true) {f : FuncId} {fi ca : Array Operand} (ho : o.op = .makeFunc (.func f) fi ca) : Sound X gd o := by
  rintro S st a w R r hr hfr ⟨ok, ℓ, hs⟩ K Q hK
  simp only [opSem, ho] at hr
  split at hr
  case isFalse =>
    split at hr
    case isFalse => exact (fail_inv hr).elim
    rename_i h0
    obtain ⟨vs, R1, h1, h2, hf1⟩ := opnds_run hs hg _ hr
    split at h2
    case h_2 => exact (fail_inv h2).elim
    rename_i n off
    rw [ret_inv h2] at hK
    have hca : ca = #[] := by cases ca; simpa using h0
    have hl := h1.1
    simp only [List.size_toArray, List.length_map, List.length_singleton] at hl
    obtain ⟨x, hx⟩ : ∃ x, fi.toList = [x] := by
      match h : fi.toList with
      | [x] => exact ⟨x, rfl⟩
      | [] => rw [h] at hl; cases hl
      | _ :: _ :: _ => rw [h] at hl; simp at hl
    have hu : RV ok ℓ w (a.eval x) (.c (.lp n off)) := h1.2 0 _ _ (by simp [hx]) (by simp)
    simp only [RV, RC] at hu
    have e1 : fi.map a.eval = #[Value.pointer (some ⟨ℓ.i n, off, none⟩)] := by
      apply Array.ext'
      simp [hx, hu]
    refine wp_value (u := .func (.func f) #[Value.pointer (some ⟨ℓ.i n, off, none⟩)] #[]) (w' := w) ?_ (hK _ _ (Sim.plain hs hd hg (by simp [RV, RC, fnV, rcv, fnP])))
    simp [execOp, ho, hca, Instr.makeFunc, e1]
  rename_i h0
  obtain ⟨vs, R1, h1, h2, hf1⟩ := opnds_run hs hg _ hr
  obtain ⟨l, h3, h4⟩ := orFail_inv h2
  obtain ⟨hrc, h4⟩ := need_inv h4
  rw [ret_inv h4] at hK
  have hc := caps_run _ vs l h1 h3
  have hfi : fi = #[] := by cases fi; simpa using h0
  refine wp_value (u := .func (.func f) #[] (l.map fun p => Value.pointer (some ⟨ℓ.i p.1, p.2, none⟩)).toArray) (w' := w) ?_ (hK _ _ (Sim.plain hs hd hg (by simp [RV, RC, fnV, hrc, fnP])))
  have e1 : ca.map a.eval = (l.map fun p => Value.pointer (some ⟨ℓ.i p.1, p.2, none⟩)).toArray := by rw [← hc]; apply Array.ext'; simp
  simp [execOp, ho, hfi, Instr.makeFunc, e1]

theorem args_eval (a : Act) (xs : Array Operand) : xs.map a.eval = (xs.toList.map a.eval).toArray := by apply Array.ext'; simp
end

end Go.Vam
