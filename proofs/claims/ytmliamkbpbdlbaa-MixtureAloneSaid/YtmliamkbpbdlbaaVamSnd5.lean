/- The value-level machine, part 11: new memory, stores, appends. Conditions: none. -/
import Derived.Test.YtmliamkbpbdlbaaVamSnd4
set_option linter.unusedVariables false
set_option linter.unusedSimpArgs false
namespace Go.Vam

section
variable {X : Ctx} {S : Start} {ok : Foot} {ℓ : Loc} {st : St} {a : Act} {w : World}

theorem RC.toD {u : Value} {c : C} {x : D} (h : RC ok ℓ w u c) (hx : c.toD = some x) : Rep ok w u x ∧ x.sc = true := by
  cases c with
  | d y => simp only [C.toD, Option.some.injEq] at hx; subst hx; exact h
  | nil => simp only [C.toD, Option.some.injEq] at hx; subst hx; obtain ⟨b, rfl⟩ := h; exact ⟨.nil _ _, rfl⟩
  | own k l => simp only [C.toD, Option.some.injEq] at hx; subst hx; exact ⟨h.1, rfl⟩
  | arr k n => cases hx
  | lp n off => cases hx
  | pd x => cases hx
  | _ => cases hx

theorem toDs_getElem : ∀ (cs : List C) (ds : List D), C.toDs cs = some ds → ds.length = cs.length ∧ ∀ (j : Nat) c, cs[j]? = some c → ∃ y, ds[j]? = some y ∧ c.toD = some y
  | [], ds, h => by simp only [C.toDs, Option.some.injEq] at h; subst h; simp
  | c :: cs, ds, h => by
    simp only [C.toDs] at h
    split at h
    case h_2 => cases h
    rename_i x xs hx hxs
    simp only [Option.some.injEq] at h
    subst h
    obtain ⟨h1, h2⟩ := toDs_getElem cs xs hxs
    refine ⟨by simp [h1], fun j c' hc => ?_⟩
    cases j with
    | zero => simp at hc; subst hc; exact ⟨x, by simp, hx⟩
    | succ j => simp at hc; simpa using h2 j c' hc

theorem RCs.toDs {vs : Array Value} {cs : List C} {ds : List D} (h : RCs ok ℓ w vs cs) (hd : C.toDs cs = some ds) :
    ds.length = vs.size ∧ ∀ (j : Nat) y, ds[j]? = some y → y.sc = true ∧ ∃ u, vs[j]? = some u ∧ Rep ok w u y := by
  obtain ⟨h1, h2⟩ := toDs_getElem cs ds hd
  refine ⟨by rw [h1, h.1], fun j y hy => ?_⟩
  have hj : j < cs.length := by rw [← h1]; exact (List.getElem?_eq_some_iff.1 hy).1
  obtain ⟨y', hy', hc⟩ := h2 j cs[j] (List.getElem?_eq_getElem hj)
  rw [hy] at hy'
  cases hy'
  have hv : j < vs.size := by rw [h.1]; exact hj
  have := (h.2 j vs[j] cs[j] (Array.getElem?_eq_getElem hv) (List.getElem?_eq_getElem hj)).toD hc
  exact ⟨this.2, vs[j], Array.getElem?_eq_getElem hv, this.1⟩

/-- A datum's cells lie in the value's cells. -/
theorem toD_cells {u : Value} {v : V} {x : D} (h : RV ok ℓ w u v) (hx : v.toD = some x) :
    x.cells.length = u.cells.size ∧ ∀ (j : Nat) y, x.cells[j]? = some y → y.sc = true ∧ ∃ z, u.cells[j]? = some z ∧ Rep ok w z y := by
  cases v with
  | c c =>
    have h1 := RC.oneCell h
    have h2 : u.cells = #[u] := by cases u <;> first | rfl | simp [Value.oneCell'] at h1
    obtain ⟨h3, h4⟩ := RC.toD h hx
    have h5 : x.cells = [x] := by cases x <;> first | rfl | simp [D.sc] at h4
    rw [h2, h5]
    refine ⟨rfl, fun j y hy => ?_⟩
    cases j with
    | zero => simp at hy; subst hy; exact ⟨h4, u, by simp, h3⟩
    | succ j => simp at hy
  | agg cs =>
    simp only [V.toD, Option.map_eq_some_iff] at hx
    obtain ⟨ds, hds, rfl⟩ := hx
    obtain ⟨vs, rfl, hr⟩ := h
    exact hr.toDs hds
  | tup ds => cases hx
  | ts sh cs => cases hx
  | g γ v => cases hx

/-- The fresh row of a world. -/
theorem SimW.newRow (hs : SimW X S ok ℓ st a w) (ob : Obj) (hi : Nat) : SimW X S (okRow ok w.heap.size 0 hi) ℓ st a (w.alloc ob) :=
  hs.move (Chg.row hs.mem.alive _ _ _ ob) (fun _ _ _ n _ => .refl ℓ n) (hs.mem.newRow ob hi) ⟨rfl, rfl, rfl, by simp⟩
    (fun i hi _ => heap_alloc_lt w ob (Nat.lt_of_lt_of_le hi hs.ext.size))
    (fun x o hx => hx.elim .inl (fun h => .inr (.inl (by rw [h.1]; exact hs.ext.size)))) hs.own (fun n _ => ⟨.refl ℓ n, fun _ => ⟨rfl, rfl, rfl⟩⟩) hs.inH

theorem SimW.drew (hs : SimW X S ok ℓ st a w) : SimW X S ok ℓ st a w.drew :=
  hs.move ⟨fun _ _ h => h, fun _ _ _ => rfl⟩ (fun _ _ _ n _ => .refl ℓ n) (hs.mem.frame ⟨fun _ _ h => h, fun _ _ _ => rfl⟩ (fun _ _ _ => rfl) (fun _ _ h => .inl h) hs.mem.alive) ⟨rfl, rfl, rfl, Nat.le_refl _⟩
    (fun _ _ _ => rfl) (fun x o hx => .inl hx) hs.own (fun n _ => ⟨.refl ℓ n, fun _ => ⟨rfl, rfl, rfl⟩⟩) hs.inH

theorem St.Free.ne {n m : Name} (hf : st.Free n) {t : Nat} {v : V} (hv : lk st.t t = some v) (hm : v.has m) : m ≠ n := fun e => hf.t t v hv (e ▸ hm)

/-- A new box in a state. -/
theorem SimW.newBox (hs : SimW X S ok ℓ st a w) {d : Nat} (hf : st.Free ⟨X.L, d⟩) {vs : Array Value} {cs : List C} (T : TypeId) (hr : RCs ok ℓ w vs cs) (hn : ∀ c ∈ cs, ¬ c.has ⟨X.L, d⟩) :
    SimW X S ok (ℓ.setI ⟨X.L, d⟩ w.heap.size) ⟨st.t, (⟨X.L, d⟩, cs) :: st.b, st.k⟩ a (w.alloc (.cells vs T)) := by
  obtain ⟨h1, h2⟩ := hs.mem.newBox hf.m T hr hn
  refine hs.move (Chg.alloc hs.mem.alive _) (fun t v hv n hh => .setI _ (hf.ne hv hh)) h1 ⟨rfl, rfl, rfl, by simp⟩
    (fun i hi _ => heap_alloc_lt w _ (Nat.lt_of_lt_of_le hi hs.ext.size)) (fun x o hx => .inl hx) (fun n x hx => ?_) (fun n hlt => ?_) (fun n hlt hh => ?_)
  · rcases h2 n x hx with rfl | h
    · exact .inl hs.ext.size
    · exact hs.own n x h
  · have hne : n ≠ ⟨X.L, d⟩ := fun e => by rw [e] at hlt; exact Nat.lt_irrefl _ hlt
    exact ⟨.setI _ hne, fun _ => ⟨by simp [Loc.setI, hne], rfl, rfl⟩⟩
  · have hne : n ≠ ⟨X.L, d⟩ := fun e => by rw [e] at hlt; exact Nat.lt_irrefl _ hlt
    rw [lk_cons_ne _ _ hne.symm] at hh
    exact hs.inH n hlt hh

theorem SimW.newBuf (hs : SimW X S ok ℓ st a w) {d : Nat} (hf : st.Free ⟨X.L, d⟩) {sz : Nat} {l : List D} {cs : Array Value} (T : TypeId) {cap : Nat} (hcap : l.length ≤ cap) (hcs : cs.size = cap * sz)
    (hh : Holds ok w sz l (fun i => cs[i]?)) :
    ∃ ℓ', SimW X S (okRow ok w.heap.size 0 (l.length * sz)) ℓ' ⟨st.t, st.b, (⟨X.L, d⟩, ⟨false, sz, l⟩) :: st.k⟩ a (w.alloc (.cells cs T)) ∧
      RV (okRow ok w.heap.size 0 (l.length * sz)) ℓ' (w.alloc (.cells cs T)) (.slice (some ⟨w.heap.size, 0, none⟩) l.length cap) (.c (.own ⟨X.L, d⟩ l)) := by
  obtain ⟨h1, h2⟩ := hs.mem.newBuf (n := ⟨X.L, d⟩) T hcap hcs hh hf.m.nb (fun tk h => by rw [hf.m.nk] at h; cases h) (fun m cs hm c hc hh => absurd hh (hf.m.nc m cs hm c hc))
  refine ⟨_, hs.move (Chg.row hs.mem.alive _ _ _ _) (fun t v hv n hh => .setH _ (hf.ne hv hh)) h1 ⟨rfl, rfl, rfl, by simp⟩
    (fun i hi _ => heap_alloc_lt w _ (Nat.lt_of_lt_of_le hi hs.ext.size)) (fun x o hx => hx.elim .inl (fun h => .inr (.inl (by rw [h.1]; exact hs.ext.size)))) (fun n x hx => ?_) (fun n hlt => ?_) (fun n hlt hh => ?_),
    Rep.newRow hs.mem.alive T hcap hh, ?_, ?_⟩
  · rcases h2 n x hx with rfl | h
    · exact .inl hs.ext.size
    · exact hs.own n x h
  · have hne : n ≠ ⟨X.L, d⟩ := fun e => by rw [e] at hlt; exact Nat.lt_irrefl _ hlt
    exact ⟨.setH _ hne, fun _ => ⟨rfl, rfl, by simp [Loc.setH, hne]⟩⟩
  · have hne : n ≠ ⟨X.L, d⟩ := fun e => by rw [e] at hlt; exact Nat.lt_irrefl _ hlt
    rw [lk_cons_ne _ _ hne.symm] at hh
    exact hs.inH n hlt hh
  · simp [Loc.setH, hlen]
  · simp [Loc.setH, hlen]

theorem SimW.newArr (hs : SimW X S ok ℓ st a w) {d : Nat} (hf : st.Free ⟨X.L, d⟩) {sz : Nat} {l : List D} {cs : Array Value} (T : TypeId) (hcs : cs.size = l.length * sz) (hh : Holds ok w sz l (fun i => cs[i]?)) :
    ∃ ℓ', SimW X S ok ℓ' ⟨st.t, st.b, (⟨X.L, d⟩, ⟨true, sz, l⟩) :: st.k⟩ a (w.alloc (.cells cs T)) ∧
      RV ok ℓ' (w.alloc (.cells cs T)) (.slice (some ⟨w.heap.size, 0, none⟩) l.length l.length) (.c (.arr ⟨X.L, d⟩ l.length)) := by
  obtain ⟨h1, h2⟩ := hs.mem.newArr hf.m T hcs hh
  refine ⟨_, hs.move (Chg.alloc hs.mem.alive _) (fun t v hv n hh => ?_) h1 ⟨rfl, rfl, rfl, by simp⟩
    (fun i hi _ => heap_alloc_lt w _ (Nat.lt_of_lt_of_le hi hs.ext.size)) (fun x o hx => .inl hx) (fun n x hx => ?_) (fun n hlt => ?_) (fun n hlt hh => ?_), ?_⟩
  · have hne := hf.ne hv hh
    exact ⟨by simp [Loc.setI, Loc.setZ, hne], by simp [Loc.setI, Loc.setZ, hne], Nat.le_refl _, fun _ => rfl⟩
  · rcases h2 n x hx with rfl | h
    · exact .inl hs.ext.size
    · exact hs.own n x h
  · have hne : n ≠ ⟨X.L, d⟩ := fun e => by rw [e] at hlt; exact Nat.lt_irrefl _ hlt
    exact ⟨⟨by simp [Loc.setI, Loc.setZ, hne], by simp [Loc.setI, Loc.setZ, hne], Nat.le_refl _, fun _ => rfl⟩, fun _ => ⟨by simp [Loc.setI, Loc.setZ, hne], by simp [Loc.setI, Loc.setZ, hne], rfl⟩⟩
  · have hne : n ≠ ⟨X.L, d⟩ := fun e => by rw [e] at hlt; exact Nat.lt_irrefl _ hlt
    rw [lk_cons_ne _ _ hne.symm] at hh
    exact hs.inH n hlt hh
  · simp [RV, RC, Loc.setI, Loc.setZ]
end

section
variable {X : Ctx} {gd : Option Bool} {o : Oper}

theorem snd_alloc (hT : TOk X) (hd : ∀ d, o.dst = some d → d < X.n) {e : TypeId} (ho : o.op = .alloc e) : Sound X gd o := by
  rintro S st a w R r hr hfr ⟨ok, ℓ, hs⟩ K Q hK
  simp only [opSem, ho] at hr
  obtain ⟨rfl, hr⟩ := noGd_inv hr
  obtain ⟨d, hdd, h2⟩ := orFail_inv hr
  obtain ⟨ti, hti, h3⟩ := orFail_inv h2
  have hrr := ret_inv h3
  subst hrr
  obtain ⟨i, dsc, z, hto⟩ := TI.ok (hT e ti hti)
  have hf := hfr ⟨X.L, d⟩ (by simp)
  obtain ⟨h4, h5⟩ := zcs_rep ok ℓ w z.cells.toList ti.zero hto.zcells
  have hs' := hs.newBox hf e (vs := z.cells) (cs := ti.zero) (by simpa using h4) (fun c hc => h5 c hc _)
  refine wp_value (u := .pointer (some ⟨w.heap.size, 0, none⟩)) (w' := w.alloc (.cells z.cells e)) ?_ (hK _ _ (Sim.fin hs' hd rfl (fun _ => ?_)))
  · have hz : (zeroValue e).run X.P w = .ok z w := by simp [zeroValue, typeInfo, hto.info, hto.zero]
    simp [execOp, ho, Instr.alloc, hz, newVar, newRow]
  · simp [RV, RC, Loc.setI]

theorem snd_box (hd : ∀ d, o.dst = some d → d < X.n) {e : TypeId} {x : Operand} (ho : o.op = .box e x) : Sound X gd o := by
  rintro S st a w R r hr hfr ⟨ok, ℓ, hs⟩ K Q hK
  simp only [opSem, ho] at hr
  obtain ⟨rfl, hr⟩ := noGd_inv hr
  obtain ⟨d, hdd, h2⟩ := orFail_inv hr
  obtain ⟨v, R1, h3, h4, hf1⟩ := opnd_run hs rfl h2
  obtain ⟨cs, h5, h6⟩ := orFail_inv h4
  have hrr := ret_inv h6
  subst hrr
  have hf := hfr ⟨X.L, d⟩ (by simp)
  have hs' := hs.newBox hf e (cells_rep h3 h5) (fun c hc hh => hf1 _ hf (cells_has h5 hc hh))
  refine wp_value (u := .pointer (some ⟨w.heap.size, 0, none⟩)) (w' := w.alloc (.cells (a.eval x).cells e)) ?_ (hK _ _ (Sim.fin hs' hd rfl (fun _ => ?_)))
  · simp [execOp, ho, Instr.box, newVar, newRow]
  · simp [RV, RC, Loc.setI]

theorem run_storeVar {P : Program} {t : TypeId} {ti : TI} {i : TypeInfo} {d : TypeDesc} {z : Value} {w : World} (h : TI.Ok P t ti i d z) {x o : Nat} {vs : Array Value} {T : TypeId} (hrow : w.heap[x]? = some (.cells vs T (0, 0)))
    {u : Value} (hu : u.cells.size = ti.size) (hone : ∀ v ∈ u.cells.toList, v.oneCell' = true) (hle : o + ti.size ≤ vs.size) :
    (storeVar t ⟨x, o, none⟩ u).run P w = .ok () (setBlk w x (.cells (setFrom vs o u.cells.toList) T (0, 0))) := by
  have := run_storeCells P u.cells.toList w x o 0 vs T hrow (by simp; omega) hone
  simp only [Nat.add_zero] at this
  simp [storeVar, run_sizeOf' h, hu, this]

theorem RCs.oneCell {ok ℓ w} {vs : Array Value} {cs : List C} (h : RCs ok ℓ w vs cs) : ∀ v ∈ vs.toList, v.oneCell' = true := by
  intro v hv
  obtain ⟨j, hj, rfl⟩ := List.mem_iff_getElem.1 hv
  have hj' : j < vs.size := by simpa using hj
  have hc : j < cs.length := by rw [← h.1]; exact hj'
  exact (h.2 j _ _ (by simp) (List.getElem?_eq_getElem hc)).oneCell

theorem snd_store (hT : TOk X) (hd : ∀ d, o.dst = some d → d < X.n) {t : TypeId} {p x : Operand} (ho : o.op = .store t p x) : Sound X gd o := by
  rintro S st a w R r hr hfr ⟨ok, ℓ, hs⟩ K Q hK
  simp only [opSem, ho] at hr
  obtain ⟨rfl, hr⟩ := noGd_inv hr
  split at hr
  case isFalse => exact (fail_inv hr).elim
  rename_i hdst
  obtain ⟨pv, R1, h1, h2, hf1⟩ := opnd_run hs rfl hr
  obtain ⟨xv, R2, h3, h4, hf2⟩ := opnd_run hs rfl h2
  obtain ⟨ti, hti, h5⟩ := orFail_inv h4
  obtain ⟨i, dsc, z, hto⟩ := TI.ok (hT t ti hti)
  split at h5
  · rename_i n off
    obtain ⟨cs, R3, h6, h7⟩ := getB_inv h5
    obtain ⟨ys, h8, h9⟩ := orFail_inv h7
    split at h9
    case isFalse => exact (fail_inv h9).elim
    rename_i hc
    have hrr := ret_inv h9
    subst hrr
    obtain ⟨vs, T, h10, h11, _⟩ := hs.mem.box n cs h6
    have hxc := cells_rep h3 h8
    have hl := h11.lay (off := off) hxc (by omega)
    obtain ⟨h12, h13, h14⟩ := hs.mem.setBox h6 T hl
    simp only [RV, RC] at h1
    have hlt := hs.mem.owned_lt (.box h6)
    have hs' : SimW X S ok ℓ ⟨st.t, (n, lay cs off ys) :: st.b, st.k⟩ a (setBlk w (ℓ.i n) (.cells (setFrom vs off (a.eval x).cells.toList) T (0, 0))) := by
      refine hs.move h13 (fun _ _ _ n _ => .refl ℓ n) h12 ⟨rfl, rfl, rfl, by simp [size_setBlk]⟩ (fun j hj hm => heap_setBlk_ne w _ (fun e => ?_)) (fun x o hx => .inl hx) (fun m x hx => hs.own m x (h14 m x hx))
        (fun n _ => ⟨.refl ℓ n, fun _ => ⟨rfl, rfl, rfl⟩⟩) (fun m hlt' hh => hs.inH m hlt' ?_)
      · rcases hs.own n _ (.box h6) with h | h
        · omega
        · exact hm (e ▸ h)
      · by_cases e : m = n
        · rw [e]; exact .inl (by simp [h6])
        · rwa [lk_cons_ne _ _ (Ne.symm e)] at hh
    refine wp_skip' (w' := setBlk w (ℓ.i n) (.cells (setFrom vs off (a.eval x).cells.toList) T (0, 0))) ?_ (hK _ _ ?_)
    · have := run_storeVar (P := X.P) (w := w) hto h10 (u := a.eval x) (o := off) (by rw [hxc.1]; exact hc.1) hxc.oneCell (by rw [h11.1]; exact hc.2)
      simp [execOp, ho, h1, Instr.storeAt, Instr.sureAddr, this]
    · rw [hdst]
      exact ⟨ok, ℓ, hs'⟩
  · rename_i k j off
    obtain ⟨tk, R3, h6, h7⟩ := getK_inv h5
    have hold : ∃ y xs ds, (tk.isArr = true ∧ tk.l[j]? = some y) ∧ xv.cells = some xs ∧ C.toDs xs = some ds ∧ (ds.length = ti.size ∧ off + ti.size ≤ y.cells.length) ∧
        Runs (match y with
          | .agg ys => (.ret { v := .tup [], k := [(k, ⟨true, tk.sz, tk.l.set j (.agg (lay ys off ds))⟩)] } : Rd Out)
          | _ => match ds with
            | [d] => .need (d.cells.length = 1) (.ret { v := .tup [], k := [(k, ⟨true, tk.sz, tk.l.set j d⟩)] })
            | _ => .fail) st [] r := by
      split at h7
      · rename_i hc
        obtain ⟨zz, _, h8⟩ := orFail_inv h7
        obtain ⟨d, h9, h10⟩ := orFail_inv h8
        obtain ⟨⟨g1, g2, g3⟩, h11⟩ := need_inv h10
        rw [g3] at h11
        obtain ⟨h12, n1, n2⟩ := scR_inv h11
        obtain ⟨h13, n3, n4⟩ := scR_inv h12
        have hx : tk.l[j]? = some (tk.l[j]?.getD zz) := by rw [List.getElem?_eq_getElem g2]; rfl
        have hxv : ∃ x, xv = .c x ∧ x.toD = some d := by
          cases xv with
          | c x => exact ⟨x, rfl, h9⟩
          | agg cs =>
            simp only [V.toD, Option.map_eq_some_iff] at h9
            obtain ⟨ds, _, rfl⟩ := h9
            exact absurd rfl (n3 ds)
          | _ => cases h9
        obtain ⟨x, rfl, hxd⟩ := hxv
        refine ⟨tk.l[j]?.getD zz, [x], [d], ⟨g1, hx⟩, rfl, ?_, ⟨hc.2.2.symm, ?_⟩, ?_⟩
        · simp only [C.toDs, hxd]
        · rw [hc.2.1, hc.2.2]
          generalize tk.l[j]?.getD zz = q at *
          cases q with
          | agg l => exact absurd rfl (n1 l)
          | _ => exact Nat.le_refl _
        · have hd1 : d.cells.length = 1 := by
            cases d with
            | agg l => exact absurd rfl (n3 l)
            | _ => rfl
          rw [ret_inv h13]
          generalize tk.l[j]?.getD zz = q at *
          cases q with
          | agg l => exact absurd rfl (n1 l)
          | _ => exact .need hd1 (.ret _ _)
      · obtain ⟨y, h8⟩ := exD_inv h7
        obtain ⟨h9, h11⟩ := need_inv h8
        obtain ⟨xs, h12, h13⟩ := orFail_inv h11
        obtain ⟨ds, h14, h15⟩ := orFail_inv h13
        split at h15
        case isFalse => exact (fail_inv h15).elim
        rename_i hc
        refine ⟨y, xs, ds, h9, h12, h14, hc, ?_⟩
        cases y with
        | agg ys => rw [ret_inv h15]; exact .ret _ _
        | _ =>
          match ds, h15 with
          | [d], h15 =>
            obtain ⟨h16, h17⟩ := need_inv h15
            rw [ret_inv h17]
            exact .need h16 (.ret _ _)
          | [], h15 => exact (fail_inv h15).elim
          | _ :: _ :: _, h15 => exact (fail_inv h15).elim
    obtain ⟨y, xs, ds, ⟨h9, h10⟩, h12, h14, hc, h15⟩ := hold
    have hxc := cells_rep h3 h12
    obtain ⟨hz, huni, cs0, T0, hr0, hs0, hold0, hnok⟩ := hs.mem.arr k tk h6 h9
    simp only [RV, RC] at h1
    rw [hz] at h1
    have hjl : j < tk.l.length := (List.getElem?_eq_some_iff.1 h10).1
    have hyl : y.cells.length = tk.sz := huni y (List.mem_of_getElem? h10)
    obtain ⟨hdl, hdc⟩ := hxc.toDs h14
    have hfit : j * tk.sz + off + ds.length ≤ cs0.size := by
      have : (j + 1) * tk.sz ≤ tk.l.length * tk.sz := Nat.mul_le_mul_right _ hjl
      rw [Nat.add_mul, Nat.one_mul] at this
      omega
    -- the new element
    have key : ∀ y' : D, y'.cells = lay y.cells off ds → y'.cells.length = tk.sz → Holds ok w tk.sz (tk.l.set j y') (fun i => (setFrom cs0 (j * tk.sz + off) (a.eval x).cells.toList)[i]?) := by
      intro y' hy' hyl'
      refine ⟨fun z hz => ?_, fun i z m q hz hq => ?_⟩
      · rcases List.mem_or_eq_of_mem_set hz with h | rfl
        · exact huni z h
        · exact hyl'
      · have hul : (a.eval x).cells.toList.length = ds.length := by simp [hdl]
        by_cases e : i = j
        · subst e
          rw [List.getElem?_set_self hjl] at hz
          cases hz
          rw [hy', lay_getElem _ _ _ _ (by omega)] at hq
          split at hq
          · rename_i hm
            obtain ⟨hsc, u, hu, hrep⟩ := hdc (m - off) q hq
            refine ⟨hsc, u, ?_, hrep⟩
            have := setFrom_in (a.eval x).cells.toList cs0 (i * tk.sz + off) (m - off) (by rw [hul]; exact hfit) (by omega)
            rw [show i * tk.sz + off + (m - off) = i * tk.sz + m by omega] at this
            show (setFrom cs0 (i * tk.sz + off) (a.eval x).cells.toList)[i * tk.sz + m]? = some u
            rw [this]; simpa using hu
          · rename_i hm
            obtain ⟨hsc, u, hu, hrep⟩ := hold0 i y m q h10 hq
            refine ⟨hsc, u, ?_, hrep⟩
            show (setFrom cs0 (i * tk.sz + off) (a.eval x).cells.toList)[i * tk.sz + m]? = some u
            rw [setFrom_out _ _ _ _ (by rw [hul]; omega)]; exact hu
        · rw [List.getElem?_set_ne (Ne.symm e)] at hz
          obtain ⟨hsc, u, hu, hrep⟩ := hold0 i z m q hz hq
          refine ⟨hsc, u, ?_, hrep⟩
          have hm : m < tk.sz := by rw [← huni z (List.mem_of_getElem? hz)]; exact (List.getElem?_eq_some_iff.1 hq).1
          show (setFrom cs0 (j * tk.sz + off) (a.eval x).cells.toList)[i * tk.sz + m]? = some u
          rw [setFrom_out _ _ _ _ ?_]
          · exact hu
          · rw [hul]
            rcases Nat.lt_or_gt_of_ne e with h | h
            · left
              have : (i + 1) * tk.sz ≤ j * tk.sz := Nat.mul_le_mul_right _ h
              rw [Nat.add_mul, Nat.one_mul] at this; omega
            · right
              have : (j + 1) * tk.sz ≤ i * tk.sz := Nat.mul_le_mul_right _ h
              rw [Nat.add_mul, Nat.one_mul] at this; omega
    have done : ∀ y' : D, y'.cells = lay y.cells off ds → y'.cells.length = tk.sz → r = { v := .tup [], k := [(k, ⟨true, tk.sz, tk.l.set j y'⟩)] } → o.wp X.P a w K Q := by
      intro y' hy' hyl' hrr
      subst hrr
      obtain ⟨h16, h17, h18⟩ := hs.mem.setArr h6 h9 (l' := tk.l.set j y') (cs := setFrom cs0 (j * tk.sz + off) (a.eval x).cells.toList) (T := T0) (by simp) (by rw [size_setFrom]; exact hs0) (key y' hy' hyl')
      have hs' : SimW X S ok ℓ ⟨st.t, st.b, (k, ⟨true, tk.sz, tk.l.set j y'⟩) :: st.k⟩ a (setBlk w (ℓ.i k) (.cells (setFrom cs0 (j * tk.sz + off) (a.eval x).cells.toList) T0 (0, 0))) := by
        refine hs.move h17 (fun _ _ _ n _ => .refl ℓ n) h16 ⟨rfl, rfl, rfl, by simp [size_setBlk]⟩ (fun j' hj' hm => heap_setBlk_ne w _ (fun e => ?_)) (fun x o hx => .inl hx) (fun m x hx => hs.own m x (h18 m x hx))
          (fun n _ => ⟨.refl ℓ n, fun _ => ⟨rfl, rfl, rfl⟩⟩) (fun m hlt' hh => hs.inH m hlt' ?_)
        · rcases hs.own k _ (.arr h6 h9) with h | h
          · omega
          · exact hm (e ▸ h)
        · by_cases e : m = k
          · rw [e]; exact .inr (by simp [h6])
          · rwa [lk_cons_ne _ _ (Ne.symm e)] at hh
      refine wp_skip' (w' := setBlk w (ℓ.i k) (.cells (setFrom cs0 (j * tk.sz + off) (a.eval x).cells.toList) T0 (0, 0))) ?_ (hK _ _ ?_)
      · have := run_storeVar (P := X.P) (w := w) hto hr0 (u := a.eval x) (o := j * tk.sz + off) (by rw [← hdl]; exact hc.1) hxc.oneCell (by omega)
        simp [execOp, ho, h1, Instr.storeAt, Instr.sureAddr, this]
      · rw [hdst]
        exact ⟨ok, ℓ, hs'⟩
    split at h15
    · rename_i ys
      refine done (.agg (lay ys off ds)) rfl ?_ (ret_inv h15)
      show (lay ys off ds).length = tk.sz
      rw [lay_length _ _ _ (by simp only [D.cells] at hc; omega)]
      exact hyl
    · split at h15
      · rename_i hna _ d
        obtain ⟨h16, h17⟩ := need_inv h15
        have hyc : y.cells = [y] := by
          cases y with
          | agg ys => exact absurd rfl (hna ys)
          | _ => rfl
        rw [hyc] at hc hyl
        simp only [List.length_singleton] at hc hyl
        have hoff : off = 0 := by omega
        refine done d ?_ (by rw [h16, ← hyl]) (ret_inv h17)
        have hdc' : d.cells = [d] := by
          cases d with
          | agg ys =>
            have := (hdc 0 (.agg ys) (by simp)).1
            simp [D.sc] at this
          | _ => rfl
        rw [hdc', hyc, hoff]
        rfl
      · exact (fail_inv h15).elim
  · exact (fail_inv h5).elim
end

end Go.Vam
