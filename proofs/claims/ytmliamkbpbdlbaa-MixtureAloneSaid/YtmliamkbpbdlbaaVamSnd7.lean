/- The value-level machine, part 13: built-in functions and appends. Conditions: none. -/
import Derived.Test.YtmliamkbpbdlbaaVamSnd6
set_option linter.unusedVariables false
set_option linter.unusedSimpArgs false
namespace Go.Vam

section
variable {ok : Foot} {ℓ : Loc} {w : World}

/-- What an append reads of its second operand. -/
theorem firstCells_rep {P : Program} {u : Value} {m : List D} {sz : Nat} (h : Rep ok w u (.list m)) (huni : ∀ y ∈ m, y.cells.length = sz) :
    ∃ us : List Value, us.length = m.length * sz ∧ Holds ok w sz m (fun i => us[i]?) ∧ (∀ v ∈ us, v.oneCell' = true) ∧ (Builtin.lenOf u).run P w = .ok m.length w ∧ (∀ w', (Builtin.lenOf u).run P w' = .ok m.length w') ∧
      ∀ w' : World, w'.heap = w.heap → (Builtin.firstCells sz m.length u).run P w' = .ok us.toArray w' := by
  obtain ⟨a, cap, rfl, hl⟩ := h.holds
  have hlen : ∀ w', (Builtin.lenOf (.slice a m.length cap)).run P w' = .ok m.length w' := fun w' => by simp [Builtin.lenOf]
  rcases hl with rfl | ⟨blk, o, sz', rfl, _, hh, hok⟩
  · refine ⟨[], by simp, Holds.nil _ _ _ _, by simp, hlen w, hlen, fun w' _ => ?_⟩
    cases a with
    | none => simp [Builtin.firstCells]
    | some a => simp [Builtin.firstCells, loadCells, loadCellsFrom]
  · rcases m with _ | ⟨y, ys⟩
    · refine ⟨[], by simp, Holds.nil _ _ _ _, by simp, hlen w, hlen, fun w' _ => ?_⟩
      simp [Builtin.firstCells, loadCells, loadCellsFrom]
    · have hsz : sz' = sz := hh.sz_eq (List.mem_cons_self) (huni y (List.mem_cons_self))
      subst hsz
      generalize hm : y :: ys = m at *
      have hall : ∀ i, i < m.length * sz' → ∃ u x q, w.cell? ⟨blk, o + i, none⟩ = some u ∧ m[i / sz']? = some x ∧ x.cells[i % sz']? = some q ∧ Rep ok w u q ∧ q.sc = true := by
        intro i hi
        have hpos : 0 < sz' := by
          rcases Nat.eq_zero_or_pos sz' with e | e
          · rw [e, Nat.mul_zero] at hi; omega
          · exact e
        have hq : i / sz' < m.length := Nat.div_lt_of_lt_mul (by rw [Nat.mul_comm]; exact hi)
        have hx : m[i / sz']? = some m[i / sz'] := List.getElem?_eq_getElem hq
        have hmod : i % sz' < (m[i / sz']).cells.length := by rw [hh.1 _ (List.getElem_mem hq)]; exact Nat.mod_lt _ hpos
        obtain ⟨hsc, u, hu, hrep⟩ := hh.2 (i / sz') _ (i % sz') _ hx (List.getElem?_eq_getElem hmod)
        refine ⟨u, _, _, ?_, hx, List.getElem?_eq_getElem hmod, hrep, hsc⟩
        have e : i / sz' * sz' + i % sz' = i := by have := Nat.div_add_mod i sz'; rw [Nat.mul_comm] at this; exact this
        simp only [e] at hu
        exact hu
      let us : List Value := (List.range (m.length * sz')).map fun i => (w.cell? ⟨blk, o + i, none⟩).getD default
      have hul : us.length = m.length * sz' := by simp [us]
      have hus : ∀ i, i < m.length * sz' → us[i]? = w.cell? ⟨blk, o + i, none⟩ := by
        intro i hi
        obtain ⟨u, _, _, hu, _⟩ := hall i hi
        simp [us, hi, hu]
      refine ⟨us, hul, hh.at_eq hus, fun v hv => ?_, hlen w, hlen, fun w' hw => ?_⟩
      · obtain ⟨i, hi⟩ := List.mem_iff_getElem?.1 hv
        have hlt : i < m.length * sz' := by rw [← hul]; exact (List.getElem?_eq_some_iff.1 hi).1
        obtain ⟨u, _, _, hu, _, _, hrep, hsc⟩ := hall i hlt
        rw [hus i hlt, hu] at hi
        cases hi
        exact hrep.oneCell hsc
      · simp only [Builtin.firstCells]
        refine run_loadCells_row P w' blk o (m.length * sz') us hul (fun j u hu => ?_)
        have hlt : j < m.length * sz' := by rw [← hul]; exact (List.getElem?_eq_some_iff.1 hu).1
        rw [hus j hlt] at hu
        rw [← hu]
        simp [World.cell?, hw]
end

section
variable {X : Ctx} {S : Start} {ok : Foot} {ℓ : Loc} {st : St} {a : Act} {w : World}

/-- A buffer moves to a new block. -/
theorem SimW.moveBuf (hs : SimW X S ok ℓ st a w) {n : Name} {tk : Tok} (hn : lk st.k n = some tk) (ha : tk.isArr = false) {l : List D} (hlt : tk.l.length < l.length) {cs : Array Value} (T : TypeId) {cap : Nat}
    (hcap : l.length ≤ cap) (hcs : cs.size = cap * tk.sz) (hh : Holds ok w tk.sz l (fun i => cs[i]?)) :
    ∃ ℓ', SimW X S (okRow ok w.heap.size 0 (l.length * tk.sz)) ℓ' ⟨st.t, st.b, (n, ⟨false, tk.sz, l⟩) :: st.k⟩ a (w.alloc (.cells cs T)) ∧
      RV (okRow ok w.heap.size 0 (l.length * tk.sz)) ℓ' (w.alloc (.cells cs T)) (.slice (some ⟨w.heap.size, 0, none⟩) l.length cap) (.c (.own n l)) := by
  have hnb : lk st.b n = none := by
    cases hb : lk st.b n with
    | none => rfl
    | some c => have := hs.mem.apart n (by simp [hb]); rw [hn] at this; cases this
  obtain ⟨_, _, a0, cap0, hh0, _⟩ := hs.mem.buf n tk hn ha
  have hat : ∀ m, LocAt ℓ (ℓ.setH n (.slice (some ⟨w.heap.size, 0, none⟩) l.length cap)) m := by
    intro m
    by_cases e : m = n
    · subst e
      refine ⟨rfl, rfl, by rw [hh0]; simp [Loc.setH, hlen]; omega, fun e => ?_⟩
      rw [hh0] at e
      simp [Loc.setH, hlen] at e
      omega
    · exact .setH _ e
  obtain ⟨h1, h2⟩ := hs.mem.newBuf (n := n) T hcap hcs hh hnb (fun t h => by rw [hn] at h; cases h; exact ha) (fun m cs hm c hc hh => hat n)
  refine ⟨_, hs.move (Chg.row hs.mem.alive _ _ _ _) (fun t v hv m hh => hat m) h1 ⟨rfl, rfl, rfl, by simp⟩
    (fun i hi _ => heap_alloc_lt w _ (Nat.lt_of_lt_of_le hi hs.ext.size)) (fun x o hx => hx.elim .inl (fun h => .inr (.inl (by rw [h.1]; exact hs.ext.size)))) (fun m x hx => ?_) (fun m hlt => ?_) (fun m hlt hh => ?_),
    Rep.newRow hs.mem.alive T hcap hh, ?_, ?_⟩
  · rcases h2 m x hx with rfl | h
    · exact .inl hs.ext.size
    · exact hs.own m x h
  · refine ⟨hat m, fun hH => ⟨rfl, rfl, ?_⟩⟩
    by_cases e : m = n
    · exact absurd (hs.inH m hlt (.inr (by rw [e, hn]; rfl))) hH
    · simp [Loc.setH, e]
  · by_cases e : m = n
    · exact hs.inH m hlt (.inr (by rw [e, hn]; rfl))
    · rw [lk_cons_ne _ _ (Ne.symm e)] at hh
      exact hs.inH m hlt hh
  · simp [Loc.setH, hlen]
  · simp [Loc.setH, hlen]

/-- A buffer grows in place. -/
theorem SimW.growBuf (hs : SimW X S ok ℓ st a w) {n : Name} {tk : Tok} (hn : lk st.k n = some tk) (ha : tk.isArr = false)
    {blk cap : Nat} {cs : Array Value} {T : TypeId} (hhan : ℓ.h n = .slice (some ⟨blk, 0, none⟩) tk.l.length cap) (hc0 : cap ≠ 0) (hrow : w.heap[blk]? = some (.cells cs T (0, 0)))
    (hcs : cs.size = cap * tk.sz) {m : List D} {us : List Value} (hus : us.length = m.length * tk.sz) (hm : Holds ok w tk.sz m (fun i => us[i]?)) (hfit : tk.l.length + m.length ≤ cap) :
    ∃ ok' ℓ', SimW X S ok' ℓ' ⟨st.t, st.b, (n, ⟨false, tk.sz, tk.l ++ m⟩) :: st.k⟩ a (setBlk w blk (.cells (setFrom cs (tk.l.length * tk.sz) us) T (0, 0))) ∧
      RV ok' ℓ' (setBlk w blk (.cells (setFrom cs (tk.l.length * tk.sz) us) T (0, 0))) (.slice (some ⟨blk, 0, none⟩) (tk.l.length + m.length) cap) (.c (.own n (tk.l ++ m))) := by
  obtain ⟨h1, h2, h3, h4⟩ := hs.mem.grow hn ha hhan hc0 hrow hcs hus hm hfit
  have hblkn : hblk (ℓ.h n) = some blk := by rw [hhan]; simp [hblk, hc0]
  have hat : ∀ m', LocAt ℓ (ℓ.setH n (.slice (some ⟨blk, 0, none⟩) (tk.l.length + m.length) cap)) m' := fun m' => by
    by_cases e : m' = n
    · rw [e]; exact h4
    · exact .setH _ e
  have howner := hs.own n blk (.buf hn ha hblkn)
  refine ⟨_, _, hs.move h2 (fun t v hv m hh => hat m) h1 ⟨rfl, rfl, rfl, by simp [size_setBlk]⟩ (fun j hj hm' => heap_setBlk_ne w _ (fun e => ?_)) (fun x o hx => ?_) (fun m x hx => hs.own m x (h3 m x hx)) (fun m' hlt => ?_) (fun m' hlt hh => ?_), ?_, ?_, ?_⟩
  · rcases howner with h | h
    · omega
    · exact hm' (e ▸ h)
  · rcases hx with hx | ⟨rfl, _⟩
    · exact .inl hx
    · exact .inr howner
  · refine ⟨hat m', fun hH => ⟨rfl, rfl, ?_⟩⟩
    by_cases e : m' = n
    · exact absurd (hs.inH m' hlt (.inr (by rw [e, hn]; rfl))) hH
    · simp [Loc.setH, e]
  · by_cases e : m' = n
    · exact hs.inH m' hlt (.inr (by rw [e, hn]; rfl))
    · rw [lk_cons_ne _ _ (Ne.symm e)] at hh
      exact hs.inH m' hlt hh
  · have := (h1.buf n _ (lk_cons_same _ _ _) rfl).1
    simpa [Loc.setH] using this
  · simp [Loc.setH, hlen]
  · simp [Loc.setH, hlen]

/-- A buffer stays as it is, under another spelling of its content. -/
theorem SimW.sameTok (hs : SimW X S ok ℓ st a w) {n : Name} {tk tk' : Tok} (hn : lk st.k n = some tk) (e : tk' = tk) : SimW X S ok ℓ ⟨st.t, st.b, (n, tk') :: st.k⟩ a w := by
  subst e
  have hk : ∀ m t, lk ((n, tk') :: st.k) m = some t ↔ lk st.k m = some t := by
    intro m t
    by_cases e : m = n
    · subst e; rw [lk_cons_same, hn]
    · rw [lk_cons_ne _ _ (Ne.symm e)]
  have hk' : ∀ m, lk ((n, tk') :: st.k) m = lk st.k m := by
    intro m
    by_cases e : m = n
    · subst e; rw [lk_cons_same, hn]
    · rw [lk_cons_ne _ _ (Ne.symm e)]
  have hown : ∀ m x, Owns ℓ st.b ((n, tk') :: st.k) m x → Owns ℓ st.b st.k m x := by
    intro m x h; unfold Owns at h ⊢; rw [hk' m] at h; exact h
  exact ⟨hs.defers, hs.size, hs.tmps, ⟨hs.mem.box, fun m t h => hs.mem.buf m t ((hk m t).1 h), fun m t h => hs.mem.arr m t ((hk m t).1 h), fun m h => by rw [hk']; exact hs.mem.apart m h, fun m m' x h h' => hs.mem.distinct m m' x (hown _ _ h) (hown _ _ h'), hs.mem.alive⟩,
    hs.ext, hs.sub, hs.sup, fun m x h => hs.own m x (hown m x h), hs.names, fun m hlt h => hs.inH m hlt (by rw [← hk' m]; exact h)⟩

/-- A buffer without room: a name for it. -/
theorem SimW.nilBuf (hs : SimW X S ok ℓ st a w) {n : Name} (hnL : ¬ n.lv < X.L) (hf : st.Free n) {u : Option Addr} (sz : Nat) :
    SimW X S ok (ℓ.setH n (.slice u 0 0)) ⟨st.t, st.b, (n, ⟨false, sz, []⟩) :: st.k⟩ a w ∧ RV ok (ℓ.setH n (.slice u 0 0)) w (.slice u 0 0) (.c (.own n [])) := by
  have hat : ∀ m, m ≠ n → LocAt ℓ (ℓ.setH n (.slice u 0 0)) m := fun m hm => .setH _ hm
  obtain ⟨h1, h2⟩ := hs.mem.loc (ℓ' := ℓ.setH n (.slice u 0 0)) hf.m (fun m hm => ⟨rfl, rfl, by simp [Loc.setH, hm]⟩)
  have hown : ∀ m x, Owns (ℓ.setH n (.slice u 0 0)) st.b ((n, ⟨false, sz, []⟩) :: st.k) m x → Owns (ℓ.setH n (.slice u 0 0)) st.b st.k m x := by
    intro m x h
    rcases h with ⟨h1, rfl⟩ | ⟨t, h1, h2, rfl⟩ | ⟨t, h1, h2, h3⟩
    · exact .inl ⟨h1, rfl⟩
    · by_cases e : m = n
      · subst e; rw [lk_cons_same] at h1; cases h1; cases h2
      · rw [lk_cons_ne _ _ (Ne.symm e)] at h1; exact .arr h1 h2
    · by_cases e : m = n
      · subst e; simp [Loc.setH, hblk] at h3; cases u <;> simp [hblk] at h3
      · rw [lk_cons_ne _ _ (Ne.symm e)] at h1; exact .buf h1 h2 h3
  have hm : MemOK ok (ℓ.setH n (.slice u 0 0)) st.b ((n, ⟨false, sz, []⟩) :: st.k) w := by
    refine ⟨h1.box, fun m t hm ha => ?_, fun m t hm ha => ?_, fun m hm => ?_, fun m m' x hm hm' => h1.distinct m m' x (hown _ _ hm) (hown _ _ hm'), h1.alive⟩
    · by_cases e : m = n
      · subst e; rw [lk_cons_same] at hm; cases hm
        have : (ℓ.setH m (.slice u 0 0)).h m = .slice u 0 0 := by simp [Loc.setH]
        exact ⟨by rw [this]; exact .nil _ _, by simp, u, 0, this, .inl rfl⟩
      · rw [lk_cons_ne _ _ (Ne.symm e)] at hm; exact h1.buf m t hm ha
    · have e : m ≠ n := fun e => by subst e; rw [lk_cons_same] at hm; cases hm; cases ha
      rw [lk_cons_ne _ _ (Ne.symm e)] at hm; exact h1.arr m t hm ha
    · have e : m ≠ n := fun e => by rw [e, hf.m.nb] at hm; cases hm
      rw [lk_cons_ne _ _ (Ne.symm e)]; exact h1.apart m hm
  refine ⟨hs.move (.refl ok w) (fun t v hv m hh => hat m (hf.ne hv hh)) hm ⟨rfl, rfl, rfl, Nat.le_refl _⟩ (fun _ _ _ => rfl) (fun x o hx => .inl hx) (fun m x hx => hs.own m x (h2 m x (hown m x hx))) (fun m hlt => ?_) (fun m hlt hh => ?_), .nil _ _, ?_, ?_⟩
  · have hne : m ≠ n := fun e => hnL (e ▸ hlt)
    exact ⟨hat m hne, fun _ => ⟨rfl, rfl, by simp [Loc.setH, hne]⟩⟩
  · have hne : m ≠ n := fun e => hnL (e ▸ hlt)
    rw [lk_cons_ne _ _ hne.symm] at hh
    exact hs.inH m hlt hh
  · simp [Loc.setH, hlen]
  · simp [Loc.setH, hlen]
end


section
variable {P : Program} {t e : TypeId} {ti ei : TI} {i i' : TypeInfo} {d d' : TypeDesc} {z z' : Value} {w : World}

theorem run_append_fit (hu : P.underlying t = some (.slice e)) (heo : TI.Ok P e ei i' d' z') (ty : TypeId) (base : Option Addr) (n cap m : Nat) (x : Value) (us : List Value)
    (hlen : (Builtin.lenOf x).run P w = .ok m w) (hf : (Builtin.firstCells ei.size m x).run P w = .ok us.toArray w) (hfit : n + m ≤ cap) :
    (Builtin.append_ #[t, t] ty #[.slice base n cap, x]).run P w = ((match base with | some a => storeCells (a.add (n * ei.size)) us | none => pure () : Sem Unit).run P w).andThen fun _ w' => .ok (.slice base (n + m) cap) w' := by
  cases base with
  | none => simp [Builtin.append_, run_underlying hu, run_sizeOf' heo, hlen, hfit, hf]
  | some a => simp [Builtin.append_, run_underlying hu, run_sizeOf' heo, hlen, hfit, hf]

theorem run_append_grows (hu : P.underlying t = some (.slice e)) (heo : TI.Ok P e ei i' d' z') (ty : TypeId) (base : Option Addr) (n cap m : Nat) (x : Value) (us olds : List Value)
    (hlen : (Builtin.lenOf x).run P w = .ok m w) (hf : ∀ w' : World, w'.heap = w.heap → (Builtin.firstCells ei.size m x).run P w' = .ok us.toArray w')
    (hfo : ∀ w' : World, w'.heap = w.heap → (Builtin.firstCells ei.size n (.slice base n cap)).run P w' = .ok olds.toArray w') (hg : cap < n + m) (hroom : roomOK (n + m) ei.bytes) :
    (Builtin.append_ #[t, t] ty #[.slice base n cap, x]).run P w =
      .ok (.slice (some ⟨w.heap.size, 0, none⟩) (n + m) (grownCap w (n + m) cap e))
        (w.drew.alloc (.cells (olds.toArray ++ us.toArray ++ Builtin.zeroCells z'.cells (grownCap w (n + m) cap e - (n + m))) e)) := by
  have hn : ¬ (n + m ≤ cap) := by omega
  obtain ⟨hr1, hr2⟩ := hroom
  have h48 := growslice_fits (old := cap) (bytes := ei.bytes) hg hr1
  have h48' : ¬ (281474976710656 < Builtin.nextslicecap (n + m) cap * ei.bytes) := by omega
  have h63' : ¬ (9223372036854775807 < ((n : Int) + (m : Int))) := by omega
  have hf1 := hf w.drew rfl
  have hf2 := hfo w.drew rfl
  simp [Builtin.append_, run_underlying hu, sizeOf, typeInfo, heo.info, heo.size, heo.bytes, zeroValue, heo.zero, hlen, hn, h63', h48', Question.forced, hf1, hf2, newRow, grownCap]
  congr 2
  rw [← Array.append_assoc]
  congr 1
  simp
end

section
variable {X : Ctx} {gd : Option Bool} {o : Oper}

theorem Holds.list {ok : Foot} {w : World} {sz : Nat} {l m : List D} {us vs rest : List Value} (h : Holds ok w sz l (fun i => us[i]?)) (h' : Holds ok w sz m (fun i => vs[i]?)) (hu : us.length = l.length * sz) (hv : vs.length = m.length * sz) :
    Holds ok w sz (l ++ m) (fun i => (us ++ vs ++ rest)[i]?) := by
  refine h.append h' (fun i hi => ?_) (fun i hi => ?_)
  · simp only [List.append_assoc]; rw [List.getElem?_append_left (by omega)]
  · simp only [List.append_assoc]; rw [List.getElem?_append_right (by omega), List.getElem?_append_left (by omega)]; congr 1; omega

/-- Appending: what is appended is known by its cells. -/
theorem append_core (hT : TOk X) (hd : ∀ d, o.dst = some d → d < X.n) {ty : TypeId} {t t2 : TypeId} {S : Start} {ok ℓ st a w} (hs : SimW X S ok ℓ st a w) {su xu : Value} {sv : V} (h1 : RV ok ℓ w su sv)
    {d : Nat} (hdd : o.dst = some d) {e : TypeId} {ei : TI} {i' : TypeInfo} {dsc' : TypeDesc} {z' : Value} (heo : TI.Ok X.P e ei i' dsc' z') {m : List D} {us : List Value}
    (hus : us.length = m.length * ei.size) (hh : Holds ok w ei.size m (fun i => us[i]?)) (hone : ∀ u ∈ us, u.oneCell' = true)
    (hfits : ∀ (base : Option Addr) (n cap : Nat), n + m.length ≤ cap → (Builtin.append_ #[t, t2] ty #[.slice base n cap, xu]).run X.P w = ((match base with | some a => storeCells (a.add (n * ei.size)) us | none => pure () : Sem Unit).run X.P w).andThen fun _ w' => .ok (.slice base (n + m.length) cap) w')
    (hgrows : ∀ (base : Option Addr) (n cap : Nat) (olds : List Value), (∀ w' : World, w'.heap = w.heap → (Builtin.firstCells ei.size n (.slice base n cap)).run X.P w' = .ok olds.toArray w') → cap < n + m.length → roomOK (n + m.length) ei.bytes →
      (Builtin.append_ #[t, t2] ty #[.slice base n cap, xu]).run X.P w =
      .ok (.slice (some ⟨w.heap.size, 0, none⟩) (n + m.length) (grownCap w (n + m.length) cap e))
        (w.drew.alloc (.cells (olds.toArray ++ us.toArray ++ Builtin.zeroCells z'.cells (grownCap w (n + m.length) cap e - (n + m.length))) e)))
    {R : List Key} {r : Out} (h9 : Runs (appendTo X d ei sv m) st R r) (hfr : ∀ n ∈ r.new, st.Free n) {K : Act → World → Prop} (hK : ∀ a' w', Sim X S (st.apply o.dst none r) a' w' → K a' w') :
    ∃ u w', (Builtin.append_ #[t, t2] ty #[su, xu]).run X.P w = .ok u w' ∧ K (a.put o.dst u) w' := by
  unfold appendTo at h9
  split at h9
  · -- a slice without room
    obtain ⟨hroom, h10⟩ := need_inv h9
    have hrr := ret_inv h10
    subst hrr
    obtain ⟨ad, rfl⟩ := h1
    have hf0 := hfr ⟨X.L, d⟩ (by simp)
    by_cases hm : m = []
    · subst hm
      have hus0 : us = [] := by simpa using hus
      subst hus0
      obtain ⟨hs', hrv⟩ := hs.nilBuf (Nat.lt_irrefl _) hf0 (u := ad) ei.size
      have hrun := hfits ad 0 0 (by simp)
      refine ⟨_, _, ?_, hK _ _ (Sim.fin hs' hd rfl (fun _ => hrv))⟩
      rw [hrun]
      cases ad <;> simp [storeCells]
    · have hlt : 0 < m.length := List.length_pos_iff.2 hm
      have hfo : ∀ w' : World, w'.heap = w.heap → (Builtin.firstCells ei.size 0 (.slice ad 0 0)).run X.P w' = .ok (([] : List Value).toArray) w' := by
        intro w' _
        cases ad <;> simp [Builtin.firstCells, loadCells, loadCellsFrom]
      have hrun := hgrows ad 0 0 [] hfo (by omega) (by simpa using hroom)
      have hcap := grownCap_ge w (0 + m.length) 0 e
      generalize grownCap w (0 + m.length) 0 e = gc at *
      have hzs : z'.cells.size = ei.size := by
        have := (zcs_rep ok ℓ w z'.cells.toList ei.zero heo.zcells).1.1
        simp at this; rw [this, heo.zlen]
      obtain ⟨ℓ', hs', hrv⟩ := hs.drew.newBuf hf0 (sz := ei.size) (l := m) (cs := ([] : List Value).toArray ++ us.toArray ++ Builtin.zeroCells z'.cells (gc - (0 + m.length))) e (cap := gc) (by omega)
        (by simp only [Array.size_append, size_zeroCells, hzs, List.size_toArray, hus, List.length_nil]
            rw [Nat.zero_add, Nat.zero_add, ← Nat.add_mul]; congr 1; omega)
        ((hh.chg (⟨fun _ _ h => h, fun _ _ _ => rfl⟩ : Chg ok ok w w.drew)).at_eq (fun i hi => by
          rw [Array.getElem?_append_left (by simp; omega)]; simp))
      refine ⟨_, _, hrun, hK _ _ (Sim.fin hs' hd rfl (fun _ => ?_))⟩
      simpa using hrv
  · -- a buffer
    rename_i n l
    obtain ⟨tk, R2, h10, h11⟩ := getK_inv h9
    obtain ⟨⟨h12, h13, h14⟩, h15⟩ := need_inv h11
    obtain ⟨hroom, h16⟩ := need_inv h15
    have hrr := ret_inv h16
    subst hrr
    obtain ⟨g1, g2, g3⟩ := h1
    obtain ⟨hrep, _, ad, cap, hhan, hrest⟩ := hs.mem.buf n tk h10 h13
    have hsu : su = ℓ.h n := g3 (by rw [hhan, h12]; rfl)
    rw [hsu, hhan]
    subst h12
    by_cases hfit : tk.l.length + m.length ≤ cap
    · have hrun := hfits ad tk.l.length cap hfit
      rcases hrest with hc0 | ⟨blk, cs, T, rfl, hrow, hcs, hspare⟩
      · have hl0 : tk.l = [] := List.eq_nil_of_length_eq_zero (by omega)
        have hm0 : m = [] := List.eq_nil_of_length_eq_zero (by omega)
        subst hm0
        have hus0 : us = [] := by simpa using hus
        subst hus0
        have hs' := hs.sameTok (tk' := ⟨false, ei.size, tk.l ++ []⟩) h10 (by rw [List.append_nil, ← h14, ← h13])
        refine ⟨.slice ad (tk.l.length + 0) cap, w, ?_, hK _ _ (Sim.fin hs' hd rfl (fun _ => ?_))⟩
        · rw [hrun]
          cases ad <;> simp [storeCells]
        · refine ⟨by simpa [hhan] using hrep, ?_, fun _ => ?_⟩
          · simp [hhan, Vam.hlen]
          · simp [hhan]
      · by_cases hc0 : cap = 0
        · have hl0 : tk.l = [] := List.eq_nil_of_length_eq_zero (by omega)
          have hm0 : m = [] := List.eq_nil_of_length_eq_zero (by omega)
          subst hm0
          have hus0 : us = [] := by simpa using hus
          subst hus0
          have hs' := hs.sameTok (tk' := ⟨false, ei.size, tk.l ++ []⟩) h10 (by rw [List.append_nil, ← h14, ← h13])
          refine ⟨.slice (some ⟨blk, 0, none⟩) (tk.l.length + 0) cap, w, ?_, hK _ _ (Sim.fin hs' hd rfl (fun _ => ?_))⟩
          · rw [hrun]
            simp [storeCells]
          · refine ⟨by simpa [hhan] using hrep, ?_, fun _ => ?_⟩
            · simp [hhan, Vam.hlen]
            · simp [hhan]
        · obtain ⟨ok', ℓ', hs', hrv⟩ := hs.growBuf h10 h13 hhan hc0 hrow hcs (m := m) (us := us) (by rw [h14]; exact hus) (by rw [h14]; exact hh) hfit
          rw [h14] at hs' hrv
          refine ⟨_, _, ?_, hK _ _ (Sim.fin hs' hd rfl (fun _ => hrv))⟩
          rw [hrun]
          have hst := run_storeCells X.P us w blk (tk.l.length * ei.size) 0 cs T hrow (by
            rw [hcs, hus, h14, Nat.add_zero, ← Nat.add_mul]; exact Nat.mul_le_mul_right _ hfit) hone
          simp only [Nat.add_zero] at hst
          simp [addr_add, hst]
    · have hmpos : 0 < m.length := by
        rcases Nat.eq_zero_or_pos m.length with h | h
        · exfalso
          obtain ⟨a2, cap2, hv2, h2'⟩ := hrep.holds
          rw [hhan] at hv2
          simp only [Value.slice.injEq] at hv2
          rcases h2' with h2' | ⟨_, _, _, _, hle, _⟩
          · rw [h2'] at hfit; simp at hfit; omega
          · omega
        · exact h
      obtain ⟨olds, ho1, ho2, _, _, _, ho3⟩ := firstCells_rep (P := X.P) (sz := tk.sz) hrep (hs.mem.buf n tk h10 h13).2.1
      rw [hhan] at ho3
      have hrun := hgrows ad tk.l.length cap olds (by rw [← h14]; exact ho3) (by omega) hroom
      have hcap := grownCap_ge w (tk.l.length + m.length) cap e
      generalize grownCap w (tk.l.length + m.length) cap e = gc at *
      have hzs : z'.cells.size = ei.size := by
        have := (zcs_rep ok ℓ w z'.cells.toList ei.zero heo.zcells).1.1
        simp at this; rw [this, heo.zlen]
      have hhl : Holds ok w.drew tk.sz (tk.l ++ m) (fun i => (olds.toArray ++ us.toArray ++ Builtin.zeroCells z'.cells (gc - (tk.l.length + m.length)))[i]?) := by
        have h1' : Holds ok w.drew tk.sz tk.l (fun i => olds[i]?) := ho2.chg (⟨fun _ _ h => h, fun _ _ _ => rfl⟩ : Chg ok ok w w.drew)
        have h2' : Holds ok w.drew tk.sz m (fun i => us[i]?) := by rw [h14]; exact hh.chg (⟨fun _ _ h => h, fun _ _ _ => rfl⟩ : Chg ok ok w w.drew)
        have := h1'.list (rest := (Builtin.zeroCells z'.cells (gc - (tk.l.length + m.length))).toList) h2' ho1 (by rw [h14]; exact hus)
        refine this.at_eq (fun i hi => ?_)
        rw [← Array.getElem?_toList]
        simp
      obtain ⟨ℓ', hs', hrv⟩ := hs.drew.moveBuf h10 h13 (l := tk.l ++ m) (by simp; omega) e (cap := gc) (by simp; omega)
        (by simp only [Array.size_append, size_zeroCells, hzs, List.size_toArray, hus, ho1]
            rw [← h14, ← Nat.add_mul, ← Nat.add_mul]; congr 1; omega) hhl
      rw [h14] at hs' hrv
      refine ⟨_, _, hrun, hK _ _ (Sim.fin hs' hd rfl (fun _ => ?_))⟩
      simpa using hrv
  · exact (fail_inv h9).elim

theorem append_sound (hT : TOk X) (hd : ∀ d, o.dst = some d → d < X.n) {c : Call} {ty : TypeId} {t : TypeId} {S : Start} {ok ℓ st a w} (hs : SimW X S ok ℓ st a w) {su xu : Value} {sv xv : V} (h1 : RV ok ℓ w su sv) (h2 : RV ok ℓ w xu xv)
    {R : List Key} {r : Out} (hr : Runs (appendSem X o.dst t sv xv) st R r) (hfr : ∀ n ∈ r.new, st.Free n) {K : Act → World → Prop} (hK : ∀ a' w', Sim X S (st.apply o.dst none r) a' w' → K a' w') :
    ∃ u w', (Builtin.append_ #[t, t] ty #[su, xu]).run X.P w = .ok u w' ∧ K (a.put o.dst u) w' := by
  obtain ⟨d, hdd, h3⟩ := orFail_inv hr
  obtain ⟨ti, hti, h4⟩ := orFail_inv h3
  obtain ⟨e, he, h5⟩ := orFail_inv h4
  obtain ⟨ei, hei, h6⟩ := orFail_inv h5
  obtain ⟨m, h7, h8, _⟩ := asL_inv h6
  obtain ⟨huni, h9⟩ := need_inv h7
  obtain ⟨i, dsc, z, hto⟩ := TI.ok (hT t ti hti)
  obtain ⟨i', dsc', z', heo⟩ := TI.ok (hT e ei hei)
  have hu := hto.und
  rw [hto.elem e he] at hu
  obtain ⟨us, hus, hh, hone, hlen, _, hf⟩ := firstCells_rep (P := X.P) (h8 ok ℓ w xu h2) huni
  exact append_core (t2 := t) hT hd hs h1 hdd heo hus hh hone (fun base n cap hfit => run_append_fit hu heo ty base n cap m.length xu us hlen (hf w rfl) hfit) (fun base n cap olds hfo hg hroom => run_append_grows hu heo ty base n cap m.length xu us olds hlen hf hfo hg hroom) h9 hfr hK

theorem append_zero_sound (hT : TOk X) (hd : ∀ d, o.dst = some d → d < X.n) {ty : TypeId} {t t2 : TypeId} {S : Start} {ok ℓ st a w} (hs : SimW X S ok ℓ st a w) {su xu : Value} {sv xv : V} (h1 : RV ok ℓ w su sv) (h2 : RV ok ℓ w xu xv)
    {R : List Key} {r : Out} (hr : Runs (appendZ X o.dst t t2 sv xv) st R r) (hfr : ∀ n ∈ r.new, st.Free n) {K : Act → World → Prop} (hK : ∀ a' w', Sim X S (st.apply o.dst none r) a' w' → K a' w') :
    ∃ u w', (Builtin.append_ #[t, t2] ty #[su, xu]).run X.P w = .ok u w' ∧ K (a.put o.dst u) w' := by
  obtain ⟨d, hdd, h3⟩ := orFail_inv hr
  obtain ⟨ti, hti, h4⟩ := orFail_inv h3
  obtain ⟨e, he, h5⟩ := orFail_inv h4
  obtain ⟨ei, hei, h6⟩ := orFail_inv h5
  obtain ⟨ni, hni, h7⟩ := orFail_inv h6
  obtain ⟨kk, hkk, h8⟩ := orFail_inv h7
  obtain ⟨z, hz, h9⟩ := orFail_inv h8
  obtain ⟨k, n, rfl, h10⟩ := asI_inv h9
  obtain ⟨⟨hz1, hz2, hn0, hnb, hn1⟩, h11⟩ := need_inv h10
  obtain ⟨i, dsc, zz, hto⟩ := TI.ok (hT t ti hti)
  obtain ⟨i', dsc', z', heo⟩ := TI.ok (hT e ei hei)
  obtain ⟨i2, dsc2, z2, hno⟩ := TI.ok (hT t2 ni hni)
  have hu := hto.und
  rw [hto.elem e he] at hu
  have hu2 := hno.und
  rw [hno.kind kk hkk] at hu2
  have hx := h2.1.int_inv
  subst hx
  have hzh := zero_holds (ok := ok) (w := w) heo hz hz1 n.toNat n.toNat (Nat.le_refl _)
  have hzs : z'.cells.size = ei.size := by
    have := (zcs_rep ok ℓ w z'.cells.toList ei.zero heo.zcells).1.1
    simp at this; rw [this, heo.zlen]
  have hml : (List.replicate n.toNat z).length = n.toNat := List.length_replicate
  have hzc : Builtin.zeroCells z'.cells n.toNat = madeCells z'.cells (n.toNat * i'.size) := by
    unfold Builtin.zeroCells madeCells
    rw [hzs, heo.size]
  have hw : IntKind.i64.wrap n = n := by rw [IntKind.wrap_i64]; omega
  refine append_core (t2 := t2) (us := (Builtin.zeroCells z'.cells n.toNat).toList) hT hd hs h1 hdd heo ?_ ?_ ?_ ?_ ?_ h11 hfr hK
  · rw [hml, Array.length_toList, size_zeroCells, hzs]
  · exact hzh.at_eq (fun j hj => by rw [hzc]; simp)
  · intro u hu'
    rw [hzc, Array.mem_toList_iff] at hu'
    unfold madeCells at hu'
    rw [Array.mem_map] at hu'
    obtain ⟨j, _, rfl⟩ := hu'
    have hlt : j % z'.cells.size < z'.cells.size := Nat.mod_lt _ (by omega)
    have hzc2 := (zcs_rep ok ℓ w z'.cells.toList ei.zero heo.zcells).1
    refine RCs.oneCell hzc2 _ ?_
    rw [getElem!_pos z'.cells _ hlt]
    simp
  · intro base m cap hfit
    rw [hml] at hfit ⊢
    rcases Nat.eq_zero_or_pos n.toNat with h0 | h0
    · have hn00 : n = 0 := by omega
      subst hn00
      have hfit2 : m ≤ cap := by simpa using hfit
      have hz0 : Builtin.zeroCells z'.cells 0 = #[] := by simp [Builtin.zeroCells]
      cases base with
      | none => simp [Builtin.append_, run_underlying hu, run_underlying hu2, sizeOf, typeInfo, heo.info, heo.size, heo.bytes, zeroValue, heo.zero, asInt, asIntOf, hw, hfit2, hz0]
      | some a => simp [Builtin.append_, run_underlying hu, run_underlying hu2, sizeOf, typeInfo, heo.info, heo.size, heo.bytes, zeroValue, heo.zero, asInt, asIntOf, hw, hfit2, hz0]
    · obtain ⟨N, rfl⟩ : ∃ N : Nat, n = (N : Int) := ⟨n.toNat, by omega⟩
      rw [Int.toNat_natCast] at *
      have hne : ¬ ((N : Int) < 0) := by omega
      have hnb2 : ¬ (281474976710656 < (N : Int) * (ei.bytes : Int)) := by omega
      have hmul : (N * ei.size = 0) = False := by
        have := Nat.mul_pos h0 hz2
        exact eq_false (by omega)
      cases base with
      | none => simp [Builtin.append_, run_underlying hu, run_underlying hu2, sizeOf, typeInfo, heo.info, heo.size, heo.bytes, zeroValue, heo.zero, asInt, asIntOf, hw, hne, hnb2, hfit, hmul]
      | some a => simp [Builtin.append_, run_underlying hu, run_underlying hu2, sizeOf, typeInfo, heo.info, heo.size, heo.bytes, zeroValue, heo.zero, asInt, asIntOf, hw, hne, hnb2, hfit, hmul]
  · intro base m cap olds hfo hg hroom
    rw [hml] at hg hroom ⊢
    have hf2 := hfo w.drew rfl
    obtain ⟨hr1, hr2⟩ := hroom
    rcases Nat.eq_zero_or_pos n.toNat with h0 | h0
    · have hn00 : n = 0 := by omega
      subst hn00
      simp only [Int.toNat_zero, Nat.add_zero] at hg hr1 hr2 ⊢
      have hz0 : Builtin.zeroCells z'.cells 0 = #[] := by simp [Builtin.zeroCells]
      have hn : ¬ (m ≤ cap) := by omega
      have h48 := growslice_fits (old := cap) (bytes := ei.bytes) hg hr1
      have h48' : ¬ (281474976710656 < Builtin.nextslicecap m cap * ei.bytes) := by omega
      have h63' : ¬ (9223372036854775807 < (m : Int)) := by omega
      simp [Builtin.append_, run_underlying hu, run_underlying hu2, sizeOf, typeInfo, heo.info, heo.size, heo.bytes, zeroValue, heo.zero, asInt, asIntOf, hw, hn, h63', h48', Question.forced, hf2, newRow, grownCap, hz0]
    · obtain ⟨N, rfl⟩ : ∃ N : Nat, n = (N : Int) := ⟨n.toNat, by omega⟩
      rw [Int.toNat_natCast] at *
      have hne : ¬ ((N : Int) < 0) := by omega
      have hnb2 : ¬ (281474976710656 < (N : Int) * (ei.bytes : Int)) := by omega
      have hmul : (N * ei.size = 0) = False := by
        have := Nat.mul_pos h0 hz2
        exact eq_false (by omega)
      have hn : ¬ (m + N ≤ cap) := by omega
      have h48 := growslice_fits (old := cap) (bytes := ei.bytes) hg hr1
      have h48' : ¬ (281474976710656 < Builtin.nextslicecap (m + N) cap * ei.bytes) := by omega
      have h63' : ¬ (9223372036854775807 < ((m : Int) + (N : Int))) := by omega
      simp [Builtin.append_, run_underlying hu, run_underlying hu2, sizeOf, typeInfo, heo.info, heo.size, heo.bytes, zeroValue, heo.zero, asInt, asIntOf, hw, hne, hnb2, hn, h63', h48', Question.forced, hf2, newRow, grownCap, hmul]

end

end Go.Vam
