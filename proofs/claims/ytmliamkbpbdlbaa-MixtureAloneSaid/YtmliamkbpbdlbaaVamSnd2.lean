/- The value-level machine, part 8: loads, places, comparisons, slices, literals do what the symbolic state says. Conditions: none. -/
import Derived.Test.YtmliamkbpbdlbaaVamSnd1
set_option linter.unusedVariables false
set_option linter.unusedSimpArgs false
namespace Go.Vam

theorem addr_add (x o n : Nat) : (⟨x, o, none⟩ : Addr).add n = ⟨x, o + n, none⟩ := by
  unfold Addr.add; split <;> simp_all

section
variable {P : Program} {t : TypeId} {ti : TI} {i : TypeInfo} {d : TypeDesc} {z : Value} {w : World}

theorem run_isAgg (h : TI.Ok P t ti i d z) : (isAgg t).run P w = .ok ti.agg w := by
  unfold isAgg
  rw [Sem.run_bind, run_underlying h.und w, ← h.agg]
  cases d <;> rfl

theorem run_sizeOf' (h : TI.Ok P t ti i d z) : (sizeOf t).run P w = .ok ti.size w := by
  simp [sizeOf, typeInfo, h.info, h.size]

theorem run_loadVar_agg (h : TI.Ok P t ti i d z) (hag : ti.agg = true) {x o : Nat} {us : List Value} (hl : us.length = ti.size) (hc : ∀ j u, us[j]? = some u → w.cell? ⟨x, o + j, none⟩ = some u) :
    (loadVar t ⟨x, o, none⟩).run P w = .ok (.agg us.toArray) w := by
  simp only [loadVar, Sem.run_bind, run_isAgg h, hag, Result.andThen_ok, if_true, run_sizeOf' h, run_loadCells_row P w x o ti.size us hl hc]
  rfl

theorem run_loadVar_one (h : TI.Ok P t ti i d z) (hag : ti.agg = false) {x o : Nat} {u : Value} (hc : w.cell? ⟨x, o, none⟩ = some u) :
    (loadVar t ⟨x, o, none⟩).run P w = .ok u w := by
  simp [loadVar, run_isAgg h, hag, hc]

theorem field_of (h : TI.Ok P t ti i d z) {j : Nat} {p : Nat × Nat} (hp : ti.fields[j]? = some p) : ∃ fs f, P.underlying t = some (.struct fs) ∧ fs[j]? = some f ∧ f.offset = p.1 ∧ f.type = p.2 := by
  have hne : ti.fields ≠ [] := by intro e; rw [e] at hp; simp at hp
  obtain ⟨fs, rfl, hfs, _⟩ := h.fields hne
  rw [← hfs, List.getElem?_map, Option.map_eq_some_iff] at hp
  obtain ⟨f, hf, rfl⟩ := hp
  exact ⟨fs, f, h.und, by simpa using hf, rfl, rfl⟩

theorem run_fieldAt (h : TI.Ok P t ti i d z) {j : Nat} {p : Nat × Nat} (hp : ti.fields[j]? = some p) {fi : TI} {i' d' z'} (hf : TI.Ok P p.2 fi i' d' z') (h0 : 0 < fi.size) (x o : Nat) :
    (Instr.fieldAt t (.pointer (some ⟨x, o, none⟩)) j).run P w = .ok (.pointer (some ⟨x, o + p.1, none⟩)) w := by
  obtain ⟨fs, f, hu, hfj, ho, ht⟩ := field_of h hp
  have hs : (sizeOf f.type).run P w = .ok fi.size w := by rw [ht]; exact run_sizeOf' hf
  have h0' : ¬ fi.size = 0 := by omega
  simp [Instr.fieldAt, run_underlying hu, hfj, Instr.sureAddr, fieldPlace, hs, h0', addr_add, ho]
end

section
variable {ok : Foot} {ℓ : Loc} {w : World}

theorem cut_getElem {β : Type} (l : List β) (off n j : Nat) : (cut l off n)[j]? = if j < n then l[off + j]? else none := by
  unfold cut
  rw [List.getElem?_take]
  split <;> simp [List.getElem?_drop]

theorem cut_length {β : Type} (l : List β) (off n : Nat) (h : off + n ≤ l.length) : (cut l off n).length = n := by
  unfold cut; simp; omega

/-- A part of a row that reads. -/
theorem partV_cells {ti : TI} {vs : Array Value} {cs : List C} {off : Nat} {v : V} (h : RCs ok ℓ w vs cs) (hp : partV ti cs off = some v) :
    (ti.agg = true → ∃ us : List Value, us.length = ti.size ∧ (∀ j u, us[j]? = some u → vs[off + j]? = some u) ∧ RV ok ℓ w (.agg us.toArray) v) ∧
    (ti.agg = false → ∃ u, vs[off]? = some u ∧ RV ok ℓ w u v) := by
  unfold partV at hp
  by_cases ha : ti.agg = true
  · rw [if_pos ha] at hp
    split at hp
    · rename_i hle
      simp only [Option.some.injEq] at hp
      subst hp
      refine ⟨fun _ => ⟨cut vs.toList off ti.size, ?_, fun j u hu => ?_, ?_⟩, fun e => by rw [ha] at e; cases e⟩
      · exact cut_length _ _ _ (by simp [h.1]; exact hle)
      · rw [cut_getElem] at hu
        split at hu
        · simpa using hu
        · cases hu
      · refine ⟨_, rfl, ?_, fun j u c hu hc => ?_⟩
        · rw [cut_length _ _ _ hle]
          simp only [List.size_toArray]
          exact cut_length _ _ _ (by simp [h.1]; exact hle)
        · rw [cut_getElem] at hc
          simp only [List.getElem?_toArray] at hu
          rw [cut_getElem] at hu
          split at hc
          · rename_i hj
            rw [if_pos hj] at hu
            exact h.2 (off + j) u c (by simpa using hu) hc
          · cases hc
    · cases hp
  · rw [if_neg ha, Option.map_eq_some_iff] at hp
    obtain ⟨c, hc, rfl⟩ := hp
    refine ⟨fun e => absurd e ha, fun _ => ?_⟩
    have hlt : off < vs.size := by rw [h.1]; exact (List.getElem?_eq_some_iff.1 hc).1
    exact ⟨vs[off], Array.getElem?_eq_getElem hlt, h.2 off _ c (Array.getElem?_eq_getElem hlt) hc⟩

/-- A part of what a pointer leads to. -/
theorem partD_cells {ti : TI} {x : D} {b o off : Nat} {y : D} (h : PtrTo ok w x b o) (hp : partD ti x.cells off = some y) (hna : ti.agg = false → ∀ zs, y ≠ .agg zs) :
    PtrTo ok w y b (o + off) ∧ (ti.agg = true → ∃ cs, y = .agg cs ∧ cs.length = ti.size) := by
  unfold partD at hp
  by_cases ha : ti.agg = true
  · rw [if_pos ha] at hp
    split at hp
    · rename_i hle
      simp only [Option.some.injEq] at hp
      subst hp
      refine ⟨fun j u hu => ?_, fun _ => ⟨_, rfl, cut_length _ _ _ hle⟩⟩
      simp only [D.cells] at hu
      rw [cut_getElem] at hu
      split at hu
      · rw [Nat.add_assoc]
        exact h (off + j) u hu
      · cases hu
    · cases hp
  · rw [if_neg ha] at hp
    refine ⟨fun j u hu => ?_, fun e => absurd e ha⟩
    have hc : y.cells = [y] := by
      cases y with
      | agg cs => exact absurd rfl (hna (by simpa using ha) cs)
      | _ => rfl
    rw [hc] at hu
    cases j with
    | zero => simp at hu; subst hu; exact h off y hp
    | succ j => simp at hu
end

section
variable {X : Ctx} {gd : Option Bool} {o : Oper}

theorem snd_nilCheck (hd : ∀ d, o.dst = some d → d < X.n) (hg : gd.getD true = true) {x : Operand} (ho : o.op = .nilCheck x) : Sound X gd o := by
  rintro S st a w R r hr _ ⟨ok, ℓ, hs⟩ K Q hK
  simp only [opSem, ho] at hr
  obtain ⟨v, R1, h1, h2, hfr⟩ := opnd_run hs hg hr
  split at h2
  · rw [ret_inv h2] at hK
    refine wp_value (w' := w) ?_ (hK _ _ (Sim.plain hs hd hg h1))
    simp only [RV, RC] at h1
    simp [execOp, ho, h1]
  · rw [ret_inv h2] at hK
    refine wp_value (w' := w) ?_ (hK _ _ (Sim.plain hs hd hg h1))
    obtain ⟨b, o', h3, _⟩ := h1
    simp [execOp, ho, h3]
  · rw [ret_inv h2] at hK
    refine wp_value (w' := w) ?_ (hK _ _ (Sim.plain hs hd hg h1))
    simp only [RV, RC] at h1
    simp [execOp, ho, h1]
  · rw [ret_inv h2] at hK
    refine wp_value (w' := w) ?_ (hK _ _ (Sim.plain hs hd hg h1))
    obtain ⟨b, o', h3, _⟩ := h1
    simp [execOp, ho, h3]
  · rw [ret_inv h2] at hK
    refine wp_value (w' := w) ?_ (hK _ _ (Sim.plain hs hd hg h1))
    simp only [RV, RC] at h1
    unfold fnV at h1
    split at h1 <;> simp [execOp, ho, h1]
  · exact (fail_inv h2).elim

theorem snd_load (hT : TOk X) (hd : ∀ d, o.dst = some d → d < X.n) (hg : gd.getD true = true) {t : TypeId} {x : Operand} (ho : o.op = .load t x) : Sound X gd o := by
  rintro S st a w R r hr _ ⟨ok, ℓ, hs⟩ K Q hK
  simp only [opSem, ho] at hr
  obtain ⟨v, R1, h1, h2, hfr⟩ := opnd_run hs hg hr
  obtain ⟨ti, hti, h3⟩ := orFail_inv h2
  obtain ⟨i, dsc, z, hto⟩ := TI.ok (hT t ti hti)
  split at h3
  · -- a box
    rename_i n off
    obtain ⟨cs, R2, h4, h5⟩ := getB_inv h3
    obtain ⟨v', h6, h7⟩ := orFail_inv h5
    rw [ret_inv h7] at hK
    obtain ⟨vs, T, h8, h9, _⟩ := hs.mem.box n cs h4
    obtain ⟨h10, h11⟩ := partV_cells h9 h6
    simp only [RV, RC] at h1
    by_cases ha : ti.agg = true
    · obtain ⟨us, hl, hcell, hrv⟩ := h10 ha
      refine wp_value (w' := w) ?_ (hK _ _ (Sim.plain hs hd hg hrv))
      simp [execOp, ho, h1, Instr.loadAt, Instr.sureAddr, run_loadVar_agg hto ha hl (fun j u hu => by rw [cell_row h8]; exact hcell j u hu)]
    · have ha' : ti.agg = false := by simpa using ha
      obtain ⟨u, hu, hrv⟩ := h11 ha'
      refine wp_value (w' := w) ?_ (hK _ _ (Sim.plain hs hd hg hrv))
      simp [execOp, ho, h1, Instr.loadAt, Instr.sureAddr, run_loadVar_one hto ha' (show w.cell? ⟨ℓ.i n, off, none⟩ = some u by rw [cell_row h8]; exact hu)]
  · -- what a pointer leads to
    rename_i y
    obtain ⟨b, o', h4, h5⟩ := h1
    by_cases ha : ti.agg = true
    · rw [if_pos ha] at h3
      by_cases hsz : y.cells.length = ti.size
      · rw [if_pos hsz] at h3
        split at h3
        · rename_i cs
          rw [ret_inv h3] at hK
          simp only [D.cells] at hsz h5
          have hall : ∀ j : Nat, j < cs.length → ∃ u, w.cell? ⟨b, o' + j, none⟩ = some u := fun j hj => let ⟨_, _, u, hu, _⟩ := h5 j cs[j] (List.getElem?_eq_getElem hj); ⟨u, hu⟩
          let us : List Value := (List.range cs.length).map fun j => (w.cell? ⟨b, o' + j, none⟩).getD default
          have hus : ∀ j u, us[j]? = some u → w.cell? ⟨b, o' + j, none⟩ = some u := by
            intro j u hu
            simp only [us, List.getElem?_map, Option.map_eq_some_iff] at hu
            obtain ⟨j', hj', rfl⟩ := hu
            obtain ⟨hlt, rfl⟩ := List.getElem?_eq_some_iff.1 hj'
            simp only [List.getElem_range, List.length_range] at hlt ⊢
            obtain ⟨u, hu⟩ := hall j hlt
            simp [hu]
          have hl : us.length = ti.size := by simp [us, hsz]
          refine wp_value (u := .agg us.toArray) (w' := w) ?_ (hK _ _ (Sim.plain hs hd hg ⟨_, rfl, by simp [us], fun j u c hu hc => ?_⟩))
          · simp [execOp, ho, h4, Instr.loadAt, Instr.sureAddr, run_loadVar_agg hto ha hl hus]
          · simp only [List.getElem?_map, Option.map_eq_some_iff] at hc
            obtain ⟨y, hy, rfl⟩ := hc
            obtain ⟨hsc, _, u', hu', hrep⟩ := h5 j y hy
            have := hus j u (by simpa using hu)
            rw [hu'] at this
            cases this
            exact ⟨hrep, hsc⟩
        · exact (fail_inv h3).elim
      · rw [if_neg hsz] at h3; exact (fail_inv h3).elim
    · have ha' : ti.agg = false := by simpa using ha
      rw [if_neg ha] at h3
      split at h3
      · exact (fail_inv h3).elim
      · exact (fail_inv h3).elim
      · rename_i h6 h7
        rw [ret_inv h3] at hK
        have hc : y.cells = [y] := by
          cases y with
          | agg cs => exact absurd rfl (h6 cs)
          | _ => rfl
        obtain ⟨hsc, _, u, hu, hrep⟩ := h5 0 y (by rw [hc]; rfl)
        refine wp_value (w' := w) ?_ (hK _ _ (Sim.plain hs hd hg ⟨hrep, hsc⟩))
        have hu' : w.cell? ⟨b, o', none⟩ = some u := hu
        simp [execOp, ho, h4, Instr.loadAt, Instr.sureAddr, run_loadVar_one hto ha' hu']
  · -- a row
    rename_i kk wd ri
    split at h3
    case isFalse => exact (fail_inv h3).elim
    rename_i hagg
    rw [ret_inv h3] at hK
    obtain ⟨b, o', h4, h5, h6⟩ := h1
    refine wp_value (w' := w) ?_ (hK _ _ (Sim.plain hs hd hg (v := .c (.vw kk (ri * wd) wd)) rfl))
    simp [execOp, ho, h4, Instr.loadAt, Instr.sureAddr, run_loadVar_one hto hagg h6]
  · -- an array's element
    rename_i k j off
    obtain ⟨tk, R2, h4, h5⟩ := getK_inv h3
    have hold : ∃ x' y, (tk.isArr = true ∧ tk.l[j]? = some x') ∧ partD ti x'.cells off = some y ∧ y.okV = true ∧ r = { v := y.toV } := by
      split at h5
      · rename_i hc
        obtain ⟨zz, _, h6⟩ := orFail_inv h5
        obtain ⟨⟨g1, g2, g3⟩, h7⟩ := gNeed_inv hg h6
        rw [g3] at h7
        obtain ⟨h8, n1, n2⟩ := scR_inv h7
        obtain ⟨h9, h10⟩ := need_inv h8
        have hx : tk.l[j]? = some (tk.l[j]?.getD zz) := by rw [List.getElem?_eq_getElem g2]; rfl
        refine ⟨tk.l[j]?.getD zz, tk.l[j]?.getD zz, ⟨g1, hx⟩, ?_, h9, ?_⟩
        · unfold partD
          rw [if_neg (by rw [hc.1]; decide), hc.2]
          generalize tk.l[j]?.getD zz = q at *
          cases q with
          | agg l => exact absurd rfl (n1 l)
          | _ => rfl
        · rw [ret_inv h10]
          generalize tk.l[j]?.getD zz = q at *
          cases q with
          | agg l => exact absurd rfl (n1 l)
          | tup l => exact absurd rfl (n2 l)
          | _ => rfl
      · obtain ⟨x', h6⟩ := exD_inv h5
        obtain ⟨h7, h9⟩ := gNeed_inv hg h6
        obtain ⟨y, h10, h11⟩ := orFail_inv h9
        obtain ⟨hy, h11⟩ := need_inv h11
        exact ⟨x', y, h7, h10, hy, ret_inv h11⟩
    obtain ⟨x', y, ⟨h7, h8⟩, h10, hy, h11⟩ := hold
    rw [h11] at hK
    obtain ⟨hz, huni, cs, T, h12, h13, h14, _⟩ := hs.mem.arr k tk h4 h7
    simp only [RV, RC] at h1
    rw [hz] at h1
    unfold partD at h10
    by_cases ha : ti.agg = true
    · rw [if_pos ha] at h10
      split at h10
      · rename_i hle
        simp only [Option.some.injEq] at h10
        subst h10
        have hall : ∀ m : Nat, m < ti.size → ∃ u y, (cut x'.cells off ti.size)[m]? = some y ∧ w.cell? ⟨ℓ.i k, j * tk.sz + off + m, none⟩ = some u ∧ Rep ok w u y ∧ y.sc = true := by
          intro m hm
          have hlt : off + m < x'.cells.length := by omega
          obtain ⟨hsc, u, hu, hrep⟩ := h14 j x' (off + m) x'.cells[off + m] h8 (List.getElem?_eq_getElem hlt)
          refine ⟨u, x'.cells[off + m], ?_, ?_, hrep, hsc⟩
          · rw [cut_getElem, if_pos hm]; exact List.getElem?_eq_getElem hlt
          · rw [cell_row h12, Nat.add_assoc]; exact hu
        let us : List Value := (List.range ti.size).map fun m => (w.cell? ⟨ℓ.i k, j * tk.sz + off + m, none⟩).getD default
        have hus : ∀ m u, us[m]? = some u → w.cell? ⟨ℓ.i k, j * tk.sz + off + m, none⟩ = some u := by
          intro m u hu
          simp only [us, List.getElem?_map, Option.map_eq_some_iff] at hu
          obtain ⟨m', hm', rfl⟩ := hu
          obtain ⟨hlt, rfl⟩ := List.getElem?_eq_some_iff.1 hm'
          simp only [List.getElem_range, List.length_range] at hlt ⊢
          obtain ⟨u, _, _, hu, _⟩ := hall m hlt
          simp [hu]
        have hl : us.length = ti.size := by simp [us]
        refine wp_value (u := .agg us.toArray) (w' := w) ?_ (hK _ _ (Sim.plain hs hd hg ⟨_, rfl, by simp [us, cut_length _ _ _ hle], fun m u c hu hc => ?_⟩))
        · simp [execOp, ho, h1, Instr.loadAt, Instr.sureAddr, run_loadVar_agg hto ha hl hus]
        · simp only [List.getElem?_map, Option.map_eq_some_iff] at hc
          obtain ⟨y, hy, rfl⟩ := hc
          have hm : m < ti.size := by rw [← cut_length _ _ _ hle]; exact (List.getElem?_eq_some_iff.1 hy).1
          obtain ⟨u', y', hy', hu', hrep, hsc⟩ := hall m hm
          rw [hy] at hy'
          cases hy'
          have := hus m u (by simpa using hu)
          rw [hu'] at this
          cases this
          exact ⟨hrep, hsc⟩
      · cases h10
    · have ha' : ti.agg = false := by simpa using ha
      rw [if_neg ha] at h10
      obtain ⟨hsc, u, hu, hrep⟩ := h14 j x' off y h8 h10
      refine wp_value (w' := w) ?_ (hK _ _ (Sim.plain hs hd hg (toV_rep hrep hy)))
      simp [execOp, ho, h1, Instr.loadAt, Instr.sureAddr, run_loadVar_one hto ha' (show w.cell? ⟨ℓ.i k, j * tk.sz + off, none⟩ = some u by rw [cell_row h12]; exact hu)]
  · exact (fail_inv h3).elim

theorem snd_fieldAddr (hT : TOk X) (hd : ∀ d, o.dst = some d → d < X.n) (hg : gd.getD true = true) {t : TypeId} {x : Operand} {j : Nat} (ho : o.op = .fieldAddr t x j) : Sound X gd o := by
  rintro S st a w R r hr _ ⟨ok, ℓ, hs⟩ K Q hK
  simp only [opSem, ho] at hr
  obtain ⟨v, R1, h1, h2, hfr⟩ := opnd_run hs hg hr
  obtain ⟨ti, hti, h3⟩ := orFail_inv h2
  obtain ⟨p, hp, h4⟩ := orFail_inv h3
  obtain ⟨fi, hfi, h5⟩ := orFail_inv h4
  obtain ⟨i, dsc, z, hto⟩ := TI.ok (hT t ti hti)
  obtain ⟨i', dsc', z', hfo⟩ := TI.ok (hT p.2 fi hfi)
  by_cases hc : 0 < fi.size ∧ ti.agg = true
  · rw [if_pos hc] at h5
    split at h5
    · rw [ret_inv h5] at hK
      simp only [RV, RC] at h1
      refine wp_value (w' := w) ?_ (hK _ _ (Sim.plain hs hd hg rfl))
      simp [execOp, ho, h1, run_fieldAt hto hp hfo hc.1]
    · obtain ⟨y, h6, h7⟩ := orFail_inv h5
      obtain ⟨h8, h9⟩ := need_inv h7
      rw [ret_inv h9] at hK
      obtain ⟨b, o', h10, h11⟩ := h1
      refine wp_value (w' := w) ?_ (hK _ _ (Sim.plain hs hd hg ⟨b, o' + p.1, rfl, (partD_cells h11 h6 h8).1⟩))
      simp [execOp, ho, h10, run_fieldAt hto hp hfo hc.1]
    · rw [ret_inv h5] at hK
      simp only [RV, RC] at h1
      refine wp_value (u := .pointer (some ⟨_, _ + (_ + p.1), none⟩)) (w' := w) ?_ (hK _ _ (Sim.plain hs hd hg rfl))
      rename_i k j' off
      simp [execOp, ho, h1, run_fieldAt hto hp hfo hc.1, Nat.add_assoc]
    · exact (fail_inv h5).elim
  · rw [if_neg hc] at h5; exact (fail_inv h5).elim

theorem run_part {P : Program} {t : TypeId} {ti : TI} {i : TypeInfo} {d : TypeDesc} {z : Value} {w : World} (h : TI.Ok P t ti i d z) (cs : Array Value) (off : Nat) :
    (part t cs off).run P w = if ti.agg = true then .ok (.agg (cs.extract off (off + ti.size))) w else (match cs[off]? with | some v => .ok v w | none => .halt (.stuck "part: no such cell") w) := by
  simp only [part, Sem.run_bind, run_isAgg h, Result.andThen_ok]
  by_cases ha : ti.agg = true
  · simp [ha, run_sizeOf' h]
  · have ha' : ti.agg = false := by simpa using ha
    simp only [ha', Bool.false_eq_true, if_false]
    cases cs[off]? <;> rfl

theorem snd_field (hT : TOk X) (hd : ∀ d, o.dst = some d → d < X.n) (hg : gd.getD true = true) {t : TypeId} {x : Operand} {j : Nat} (ho : o.op = .field t x j) : Sound X gd o := by
  rintro S st a w R r hr _ ⟨ok, ℓ, hs⟩ K Q hK
  simp only [opSem, ho] at hr
  obtain ⟨v, R1, h1, h2, hfr⟩ := opnd_run hs hg hr
  obtain ⟨ti, hti, h3⟩ := orFail_inv h2
  obtain ⟨p, hp, h4⟩ := orFail_inv h3
  obtain ⟨fi, hfi, h5⟩ := orFail_inv h4
  obtain ⟨i, dsc, z, hto⟩ := TI.ok (hT t ti hti)
  obtain ⟨i', dsc', z', hfo⟩ := TI.ok (hT p.2 fi hfi)
  by_cases hc : ti.agg = true
  · rw [if_pos hc] at h5
    split at h5
    · obtain ⟨v', h6, h7⟩ := orFail_inv h5
      rw [ret_inv h7] at hK
      obtain ⟨vs, h8, h9⟩ := h1
      obtain ⟨h10, h11⟩ := partV_cells h9 h6
      obtain ⟨fs, f, hu, hfj, hoff, hty⟩ := field_of hto hp
      by_cases ha : fi.agg = true
      · obtain ⟨us, hl, hcell, hrv⟩ := h10 ha
        refine wp_value (w' := w) ?_ (hK _ _ (Sim.plain hs hd hg hrv))
        have hle : p.1 + fi.size ≤ vs.size := by
          unfold partV at h6
          rw [if_pos ha] at h6
          split at h6
          · rename_i hle; rw [h9.1]; exact hle
          · cases h6
        have e : vs.extract p.1 (p.1 + fi.size) = us.toArray := by
          apply Array.ext_getElem?
          intro m
          by_cases hm : m < fi.size
          · have hlt : p.1 + m < vs.size := by omega
            rw [Array.getElem?_extract]
            have hm' : m < us.length := by omega
            have := hcell m us[m] (List.getElem?_eq_getElem hm')
            simp only [List.getElem?_toArray]
            rw [List.getElem?_eq_getElem hm', if_pos (by omega)]
            exact this
          · rw [Array.getElem?_eq_none (by simp; omega), Array.getElem?_eq_none (by simp; omega)]
        simp [execOp, ho, h8, Instr.field, run_underlying hu, hfj, asAgg, hty, hoff, run_part hfo, ha, e]
      · have ha' : fi.agg = false := by simpa using ha
        obtain ⟨u, hu', hrv⟩ := h11 ha'
        refine wp_value (w' := w) ?_ (hK _ _ (Sim.plain hs hd hg hrv))
        simp [execOp, ho, h8, Instr.field, run_underlying hu, hfj, asAgg, hty, hoff, run_part hfo, ha', hu']
    · exact (fail_inv h5).elim
  · rw [if_neg hc] at h5; exact (fail_inv h5).elim

end

end Go.Vam
