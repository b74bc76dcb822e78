/- The value-level machine, part 3: new rows, buffers that are appended to, arrays that are written, and what a call leaves. Conditions: none. -/
import Derived.Test.YtmliamkbpbdlbaaVamMem
set_option linter.unusedVariables false
set_option linter.unusedSimpArgs false
namespace Go.Vam

/-- A row of values holds the elements of a list. -/
def Holds (ok : Foot) (w : World) (sz : Nat) (l : List D) (at_ : Nat → Option Value) : Prop :=
  (∀ x ∈ l, x.cells.length = sz) ∧ ∀ i x j y, l[i]? = some x → x.cells[j]? = some y → y.sc = true ∧ ∃ u, at_ (i * sz + j) = some u ∧ Rep ok w u y

theorem Holds.chg {ok ok' : Foot} {w w' : World} {sz : Nat} {l : List D} {f : Nat → Option Value} (hc : Chg ok ok' w w') (h : Holds ok w sz l f) : Holds ok' w' sz l f :=
  ⟨h.1, fun i x j y hx hy => let ⟨a, u, b, c⟩ := h.2 i x j y hx hy; ⟨a, u, b, c.chg hc⟩⟩

theorem Holds.at_eq {ok : Foot} {w : World} {sz : Nat} {l : List D} {f g : Nat → Option Value} (h : Holds ok w sz l f) (e : ∀ i, i < l.length * sz → g i = f i) : Holds ok w sz l g := by
  refine ⟨h.1, fun i x j y hx hy => ?_⟩
  obtain ⟨a, u, b, c⟩ := h.2 i x j y hx hy
  refine ⟨a, u, ?_, c⟩
  rw [e _ ?_, b]
  have hi : i < l.length := (List.getElem?_eq_some_iff.1 hx).1
  have hj : j < sz := by rw [← h.1 x (List.mem_of_getElem? hx)]; exact (List.getElem?_eq_some_iff.1 hy).1
  calc i * sz + j < i * sz + sz := by omega
    _ = (i + 1) * sz := by rw [Nat.add_mul, Nat.one_mul]
    _ ≤ l.length * sz := Nat.mul_le_mul_right _ hi

theorem Holds.nil (ok : Foot) (w : World) (sz : Nat) (f : Nat → Option Value) : Holds ok w sz [] f := ⟨by simp, by simp⟩

theorem Holds.append {ok : Foot} {w : World} {sz : Nat} {l m : List D} {f g : Nat → Option Value} (h : Holds ok w sz l f) (h' : Holds ok w sz m g) {F : Nat → Option Value}
    (e1 : ∀ i, i < l.length * sz → F i = f i) (e2 : ∀ i, i < m.length * sz → F (l.length * sz + i) = g i) : Holds ok w sz (l ++ m) F := by
  have h1 := h.at_eq e1
  refine ⟨fun x hx => ?_, fun i x j y hx hy => ?_⟩
  · rcases List.mem_append.1 hx with hx | hx
    · exact h.1 x hx
    · exact h'.1 x hx
  · by_cases hi : i < l.length
    · rw [List.getElem?_append_left hi] at hx
      exact h1.2 i x j y hx hy
    · rw [List.getElem?_append_right (by omega)] at hx
      obtain ⟨a, u, b, c⟩ := h'.2 (i - l.length) x j y hx hy
      refine ⟨a, u, ?_, c⟩
      have hi' : i - l.length < m.length := (List.getElem?_eq_some_iff.1 hx).1
      have hj : j < sz := by rw [← h'.1 x (List.mem_of_getElem? hx)]; exact (List.getElem?_eq_some_iff.1 hy).1
      have hlt : (i - l.length) * sz + j < m.length * sz := by
        calc (i - l.length) * sz + j < (i - l.length) * sz + sz := by omega
          _ = (i - l.length + 1) * sz := by rw [Nat.add_mul, Nat.one_mul]
          _ ≤ m.length * sz := Nat.mul_le_mul_right _ hi'
      have := e2 _ hlt
      rw [b] at this
      rw [← this]
      congr 1
      have : i * sz = l.length * sz + (i - l.length) * sz := by rw [← Nat.add_mul]; congr 1; omega
      omega

/-- A slice over a row. -/
theorem Rep.of_holds {ok : Foot} {w : World} {sz : Nat} {l : List D} {blk o cap : Nat} (hcap : l.length ≤ cap) (h : Holds ok w sz l (fun i => w.cell? ⟨blk, o + i, none⟩))
    (hok : ∀ i, i < l.length * sz → ok blk (o + i)) : Rep ok w (.slice (some ⟨blk, o, none⟩) l.length cap) (.list l) := by
  refine .list blk o cap sz l (fun i j => (w.cell? ⟨blk, o + (i * sz + j), none⟩).getD default) hcap h.1 (fun i x j y hx hy => ?_) (fun i x j y hx hy => ?_)
  · obtain ⟨a, u, b, c⟩ := h.2 i x j y hx hy
    have hi : i < l.length := (List.getElem?_eq_some_iff.1 hx).1
    have hj : j < sz := by rw [← h.1 x (List.mem_of_getElem? hx)]; exact (List.getElem?_eq_some_iff.1 hy).1
    have hlt : i * sz + j < l.length * sz := by
      calc i * sz + j < i * sz + sz := by omega
        _ = (i + 1) * sz := by rw [Nat.add_mul, Nat.one_mul]
        _ ≤ l.length * sz := Nat.mul_le_mul_right _ hi
    have e : o + i * sz + j = o + (i * sz + j) := by omega
    rw [e]
    refine ⟨a, hok _ hlt, ?_⟩
    simp only at b
    rw [b]; rfl
  · obtain ⟨a, u, b, c⟩ := h.2 i x j y hx hy
    simp only at b
    rw [b]; exact c

/-- What a list's cells are. -/
theorem Rep.holds {ok : Foot} {w : World} {l : List D} {v : Value} (h : Rep ok w v (.list l)) : ∃ a cap, v = .slice a l.length cap ∧ (l = [] ∨ ∃ blk o sz, a = some ⟨blk, o, none⟩ ∧ l.length ≤ cap ∧
    Holds ok w sz l (fun i => w.cell? ⟨blk, o + i, none⟩) ∧ ∀ i, i < l.length * sz → ok blk (o + i)) := by
  obtain ⟨a, cap, hv, h⟩ := h.list_inv
  refine ⟨a, cap, hv, ?_⟩
  rcases h with h | ⟨blk, o, sz, u, ha, hcap, hu, hall⟩
  · exact .inl h
  · refine .inr ⟨blk, o, sz, ha, hcap, ⟨hu, fun i x j y hx hy => ?_⟩, fun i hi => ?_⟩
    · obtain ⟨h1, h2, h3, h4⟩ := hall i x j y hx hy
      refine ⟨h1, _, ?_, h4⟩
      show w.cell? ⟨blk, o + (i * sz + j), none⟩ = _
      rw [← Nat.add_assoc]; exact h3
    · have hsz : 0 < sz := by
        rcases Nat.eq_zero_or_pos sz with e | e
        · rw [e, Nat.mul_zero] at hi; omega
        · exact e
      have hq : i / sz < l.length := Nat.div_lt_of_lt_mul (by rw [Nat.mul_comm]; exact hi)
      have hx : l[i / sz]? = some l[i / sz] := List.getElem?_eq_getElem hq
      have hm : i % sz < (l[i / sz]).cells.length := by rw [hu _ (List.getElem_mem hq)]; exact Nat.mod_lt _ hsz
      have := (hall (i / sz) _ (i % sz) _ hx (List.getElem?_eq_getElem hm)).2.1
      have e : o + i / sz * sz + i % sz = o + i := by have := Nat.div_add_mod i sz; rw [Nat.mul_comm] at this; omega
      rwa [e] at this

/-! ### New rows -/
def okRow (ok : Foot) (blk lo hi : Nat) : Foot := fun x o => ok x o ∨ (x = blk ∧ lo ≤ o ∧ o < hi)

theorem Chg.row {ok : Foot} {w : World} (hal : ∀ x o, ok x o → x < w.heap.size) (blk lo hi : Nat) (ob : Obj) : Chg ok (okRow ok blk lo hi) w (w.alloc ob) :=
  ⟨fun _ _ h => .inl h, fun x o h => cell_block (heap_alloc_lt w ob (hal x o h)) o⟩

/-- A new row that nobody writes any more: the memory stays. -/
theorem MemOK.newRow {ok : Foot} {ℓ : Loc} {b : Boxes} {k : Toks} {w : World} (h : MemOK ok ℓ b k w) (ob : Obj) (hi : Nat) :
    MemOK (okRow ok w.heap.size 0 hi) ℓ b k (w.alloc ob) := by
  refine h.frame (Chg.row h.alive _ _ _ ob) (fun n x hx => heap_alloc_lt w ob (h.owned_lt hx)) (fun x o hx => ?_) (fun x o hx => ?_)
  · rcases hx with hx | ⟨rfl, _⟩
    · exact .inl hx
    · exact .inr fun n hn => Nat.lt_irrefl _ (h.owned_lt hn)
  · rcases hx with hx | ⟨rfl, _⟩
    · have := h.alive x o hx; simp; omega
    · simp

theorem Rep.newRow {ok : Foot} {w : World} (hal : ∀ x o, ok x o → x < w.heap.size) {sz : Nat} {l : List D} {cs : Array Value} (T : TypeId) {cap : Nat} (hcap : l.length ≤ cap) (h : Holds ok w sz l (fun i => cs[i]?)) :
    Rep (okRow ok w.heap.size 0 (l.length * sz)) (w.alloc (.cells cs T)) (.slice (some ⟨w.heap.size, 0, none⟩) l.length cap) (.list l) := by
  refine Rep.of_holds (sz := sz) hcap ?_ (fun i hi => .inr ⟨rfl, by omega, by omega⟩)
  refine (h.chg (Chg.row hal _ _ _ _)).at_eq (fun i hi => ?_)
  rw [Nat.zero_add]
  exact cell_row (heap_alloc_self w _) i

/-- A buffer's new block: made anew, or for a buffer that had no room. -/
theorem MemOK.newBuf {ok : Foot} {ℓ : Loc} {b : Boxes} {k : Toks} {w : World} (h : MemOK ok ℓ b k w) {n : Name} {sz : Nat} {l : List D} {cs : Array Value} (T : TypeId) {cap : Nat}
    (hcap : l.length ≤ cap) (hcs : cs.size = cap * sz) (hh : Holds ok w sz l (fun i => cs[i]?)) (hnb : lk b n = none) (hnk : ∀ tk, lk k n = some tk → tk.isArr = false)
    (hl : ∀ m cs, lk b m = some cs → ∀ c ∈ cs, c.has n → LocAt ℓ (ℓ.setH n (.slice (some ⟨w.heap.size, 0, none⟩) l.length cap)) n) :
    MemOK (okRow ok w.heap.size 0 (l.length * sz)) (ℓ.setH n (.slice (some ⟨w.heap.size, 0, none⟩) l.length cap)) b ((n, ⟨false, sz, l⟩) :: k) (w.alloc (.cells cs T)) ∧
      ∀ m x, Owns (ℓ.setH n (.slice (some ⟨w.heap.size, 0, none⟩) l.length cap)) b ((n, ⟨false, sz, l⟩) :: k) m x → x = w.heap.size ∨ Owns ℓ b k m x := by
  have hc := Chg.row h.alive w.heap.size 0 (l.length * sz) (.cells cs T)
  have hrep := Rep.newRow h.alive T hcap hh
  generalize hℓ : ℓ.setH n (.slice (some ⟨w.heap.size, 0, none⟩) l.length cap) = ℓ' at *
  have hi : ∀ m, ℓ'.i m = ℓ.i m := by subst hℓ; exact fun _ => rfl
  have hz : ∀ m, ℓ'.z m = ℓ.z m := by subst hℓ; exact fun _ => rfl
  have hn : ℓ'.h n = .slice (some ⟨w.heap.size, 0, none⟩) l.length cap := by subst hℓ; simp [Loc.setH]
  have hne : ∀ m, m ≠ n → ℓ'.h m = ℓ.h m := by subst hℓ; intro m hm; simp [Loc.setH, hm]
  have hat : ∀ m, m ≠ n → LocAt ℓ ℓ' m := by subst hℓ; exact fun m hm => .setH _ hm
  have hown : ∀ m x, Owns ℓ' b ((n, ⟨false, sz, l⟩) :: k) m x → (m = n ∧ x = w.heap.size) ∨ (m ≠ n ∧ Owns ℓ b k m x) := by
    intro m x hm
    rcases hm with ⟨h1, rfl⟩ | ⟨tk, h1, h2, rfl⟩ | ⟨tk, h1, h2, h3⟩
    · have e : m ≠ n := fun e => by rw [e, hnb] at h1; cases h1
      exact .inr ⟨e, .inl ⟨h1, hi m⟩⟩
    · by_cases e : m = n
      · subst e; rw [lk_cons_same] at h1; cases h1; cases h2
      · rw [lk_cons_ne _ _ (Ne.symm e)] at h1
        exact .inr ⟨e, .inr (.inl ⟨tk, h1, h2, hi m⟩)⟩
    · by_cases e : m = n
      · subst e
        rw [hn] at h3
        simp [hblk] at h3
        exact .inl ⟨rfl, h3.2.symm⟩
      · rw [lk_cons_ne _ _ (Ne.symm e)] at h1
        rw [hne m e] at h3
        exact .inr ⟨e, .buf h1 h2 h3⟩
  have hold : ∀ m x, Owns ℓ b k m x → (w.alloc (.cells cs T)).heap[x]? = w.heap[x]? := fun m x hx => heap_alloc_lt w _ (h.owned_lt hx)
  have hok : ∀ m x o, Owns ℓ b k m x → okRow ok w.heap.size 0 (l.length * sz) x o → ok x o := fun m x o hx ho => by
    rcases ho with ho | ⟨rfl, _⟩
    · exact ho
    · exact absurd (h.owned_lt hx) (Nat.lt_irrefl _)
  refine ⟨⟨fun m cs' hm => ?_, fun m tk hm ha => ?_, fun m tk hm ha => ?_, fun m hm => ?_, fun m m' x hm hm' => ?_, fun x o hx => ?_⟩, fun m x hm => ?_⟩
  · refine (h.box m cs' hm).chg hc (fun m' ⟨c, hc, hh⟩ => ?_) (hi m) (hold m _ (.box hm)) (fun o ho => hok m _ o (.box hm) ho)
    by_cases e : m' = n
    · rw [e] at hh ⊢; exact hl m cs' hm c hc hh
    · exact hat m' e
  · by_cases e : m = n
    · subst e
      rw [lk_cons_same] at hm
      cases hm
      refine ⟨by rw [hn]; exact hrep, hh.1, some ⟨w.heap.size, 0, none⟩, cap, hn, ?_⟩
      by_cases hc0 : cap = 0
      · exact .inl hc0
      · refine .inr ⟨w.heap.size, cs, T, rfl, heap_alloc_self w _, hcs, fun o ho hk => ?_⟩
        rcases hk with hk | ⟨_, _, hk⟩
        · exact Nat.lt_irrefl _ (h.alive _ o hk)
        · simp only at ho; omega
    · rw [lk_cons_ne _ _ (Ne.symm e)] at hm
      exact (h.buf m tk hm ha).chg hc (hne m e) (fun x hx => hold m x (.buf hm ha hx)) (fun x o hx ho => hok m x o (.buf hm ha hx) ho)
  · have e : m ≠ n := fun e => by subst e; rw [lk_cons_same] at hm; cases hm; cases ha
    rw [lk_cons_ne _ _ (Ne.symm e)] at hm
    exact (h.arr m tk hm ha).chg hc (hi m) (hz m) (hold m _ (.arr hm ha)) (fun o ho => hok m _ o (.arr hm ha) ho)
  · have e : m ≠ n := fun e => by rw [e, hnb] at hm; cases hm
    rw [lk_cons_ne _ _ (Ne.symm e)]
    exact h.apart m hm
  · rcases hown m x hm with ⟨e1, e2⟩ | ⟨e1, hm⟩ <;> rcases hown m' x hm' with ⟨e1', e2'⟩ | ⟨e1', hm'⟩
    · rw [e1, e1']
    · exact absurd (h.owned_lt hm') (by omega)
    · exact absurd (h.owned_lt hm) (by omega)
    · exact h.distinct m m' x hm hm'
  · rcases hx with hx | ⟨rfl, _⟩
    · have := h.alive x o hx; simp; omega
    · simp
  · rcases hown m x hm with ⟨_, e⟩ | ⟨_, hm⟩
    · exact .inl e
    · exact .inr hm

/-- An append that fits: the spare cells become read cells. -/
theorem MemOK.grow {ok : Foot} {ℓ : Loc} {b : Boxes} {k : Toks} {w : World} (h : MemOK ok ℓ b k w) {n : Name} {tk : Tok} (hn : lk k n = some tk) (ha : tk.isArr = false)
    {blk cap : Nat} {cs : Array Value} {T : TypeId} (hhan : ℓ.h n = .slice (some ⟨blk, 0, none⟩) tk.l.length cap) (hc0 : cap ≠ 0) (hrow : w.heap[blk]? = some (.cells cs T (0, 0)))
    (hcs : cs.size = cap * tk.sz) {m : List D} {us : List Value} (hus : us.length = m.length * tk.sz) (hm : Holds ok w tk.sz m (fun i => us[i]?)) (hfit : tk.l.length + m.length ≤ cap) :
    let w' := setBlk w blk (.cells (setFrom cs (tk.l.length * tk.sz) us) T (0, 0))
    let ℓ' := ℓ.setH n (.slice (some ⟨blk, 0, none⟩) (tk.l.length + m.length) cap)
    let ok' := okRow ok blk (tk.l.length * tk.sz) ((tk.l.length + m.length) * tk.sz)
    MemOK ok' ℓ' b ((n, ⟨false, tk.sz, tk.l ++ m⟩) :: k) w' ∧ Chg ok ok' w w' ∧ (∀ x y, Owns ℓ' b ((n, ⟨false, tk.sz, tk.l ++ m⟩) :: k) x y → Owns ℓ b k x y) ∧ LocAt ℓ ℓ' n := by
  intro w' ℓ' ok'
  have hblkn : hblk (ℓ.h n) = some blk := by rw [hhan]; simp [hblk, hc0]
  have hlt : blk < w.heap.size := lt_of_heap hrow
  obtain ⟨hrep, huni, a0, cap0, hh0, hspare0⟩ := h.buf n tk hn ha
  rw [hhan] at hh0
  simp only [Value.slice.injEq] at hh0
  obtain ⟨rfl, -, rfl⟩ := hh0
  have hspare : ∀ o, tk.l.length * tk.sz ≤ o → ¬ ok blk o := by
    rcases hspare0 with e | ⟨blk', cs', T', e1, _, _, e4⟩
    · exact absurd e hc0
    · simp only [Option.some.injEq, Addr.mk.injEq, and_true] at e1
      exact fun o ho => e1.symm ▸ e4 o ho
  have hmulle : (tk.l.length + m.length) * tk.sz = tk.l.length * tk.sz + m.length * tk.sz := Nat.add_mul _ _ _
  have hcap' : (tk.l.length + m.length) * tk.sz ≤ cs.size := by rw [hcs]; exact Nat.mul_le_mul_right _ hfit
  have hrow' : w'.heap[blk]? = some (.cells (setFrom cs (tk.l.length * tk.sz) us) T (0, 0)) := heap_setBlk_same w _ hlt
  have hchg : Chg ok ok' w w' := by
    refine ⟨fun _ _ h => .inl h, fun x o hx => ?_⟩
    by_cases e : x = blk
    · subst e
      have ho : o < tk.l.length * tk.sz := by
        rcases Nat.lt_or_ge o (tk.l.length * tk.sz) with h | h
        · exact h
        · exact absurd hx (hspare o h)
      rw [cell_row hrow', cell_row hrow, setFrom_out _ _ _ _ (.inl ho)]
    · exact cell_block (heap_setBlk_ne w _ e) o
  have hat : LocAt ℓ ℓ' n := by
    refine ⟨rfl, rfl, by rw [hhan]; simp [ℓ', Loc.setH, hlen], fun e => ?_⟩
    rw [hhan] at e ⊢
    simp only [ℓ', Loc.setH, if_pos, hlen] at e ⊢
    rw [← e]
  have hall : ∀ m', LocAt ℓ ℓ' m' := fun m' => by
    by_cases e : m' = n
    · rw [e]; exact hat
    · exact .setH _ e
  have hown : ∀ x y, Owns ℓ' b ((n, ⟨false, tk.sz, tk.l ++ m⟩) :: k) x y → Owns ℓ b k x y := by
    intro x y hx
    rcases hx with ⟨h1, rfl⟩ | ⟨t, h1, h2, rfl⟩ | ⟨t, h1, h2, h3⟩
    · exact .inl ⟨h1, rfl⟩
    · by_cases e : x = n
      · subst e; rw [lk_cons_same] at h1; cases h1; cases h2
      · rw [lk_cons_ne _ _ (Ne.symm e)] at h1
        exact .arr h1 h2
    · by_cases e : x = n
      · subst e
        simp only [ℓ', Loc.setH, if_pos, hblk, hc0, if_false, Option.some.injEq] at h3
        rw [← h3]
        exact .buf hn ha hblkn
      · rw [lk_cons_ne _ _ (Ne.symm e)] at h1
        simp only [ℓ', Loc.setH, if_neg e] at h3
        exact .buf h1 h2 h3
  have hne : ∀ x y, x ≠ n → Owns ℓ b k x y → y ≠ blk := fun x y hx hy e => hx (h.distinct x n y hy (e ▸ .buf hn ha hblkn))
  have hkeep : ∀ x y, x ≠ n → Owns ℓ b k x y → w'.heap[y]? = w.heap[y]? := fun x y hx hy => heap_setBlk_ne w _ (hne x y hx hy)
  have hokk : ∀ x y o, x ≠ n → Owns ℓ b k x y → ok' y o → ok y o := fun x y o hx hy ho => by
    rcases ho with ho | ⟨e, _⟩
    · exact ho
    · exact absurd e (hne x y hx hy)
  refine ⟨⟨fun x cs' hx => ?_, fun x t hx hat' => ?_, fun x t hx hat' => ?_, fun x hx => ?_, fun x x' y hx hx' => h.distinct x x' y (hown _ _ hx) (hown _ _ hx'), fun x o hx => ?_⟩, hchg, hown, hat⟩
  · have e : x ≠ n := fun e => by have := h.apart x (by simp [hx]); rw [e, hn] at this; cases this
    exact (h.box x cs' hx).chg hchg (fun m' _ => hall m') rfl (hkeep x _ e (.box hx)) (fun o ho => hokk x _ o e (.box hx) ho)
  · by_cases e : x = n
    · subst e
      rw [lk_cons_same] at hx
      cases hx
      have hholds : Holds ok' w' tk.sz (tk.l ++ m) (fun i => w'.cell? ⟨blk, 0 + i, none⟩) := by
        obtain ⟨a2, cap2, hv2, h2⟩ := hrep.holds
        rw [hhan] at hv2
        simp only [Value.slice.injEq] at hv2
        obtain ⟨rfl, -, rfl⟩ := hv2
        have hl1 : Holds ok' w' tk.sz tk.l (fun i => w.cell? ⟨blk, 0 + i, none⟩) := by
          rcases h2 with e | ⟨blk2, o2, sz2, e1, _, h5, _⟩
          · rw [e]; exact Holds.nil _ _ _ _
          · simp only [Option.some.injEq, Addr.mk.injEq, and_true] at e1
            obtain ⟨rfl, rfl⟩ := e1
            have : tk.l = [] ∨ sz2 = tk.sz := by
              cases hll : tk.l with
              | nil => exact .inl rfl
              | cons y ys => exact .inr (by rw [← h5.1 y (by simp [hll]), huni y (by simp [hll])])
            rcases this with e | rfl
            · rw [e]; exact Holds.nil _ _ _ _
            · exact h5.chg hchg
        refine hl1.append (hm.chg hchg) (fun i hi => ?_) (fun i hi => ?_)
        · simp only [Nat.zero_add]
          rw [cell_row hrow', cell_row hrow, setFrom_out _ _ _ _ (.inl hi)]
        · simp only [Nat.zero_add]
          rw [cell_row hrow', setFrom_in _ _ _ _ (by omega) (by omega)]
      refine ⟨?_, hholds.1, some ⟨blk, 0, none⟩, cap, by simp [ℓ', Loc.setH], .inr ⟨blk, _, T, rfl, hrow', by rw [size_setFrom, hcs], fun o ho hk => ?_⟩⟩
      · have := Rep.of_holds (cap := cap) (by rw [List.length_append]; exact hfit) hholds (fun i hi => ?_)
        · simpa [ℓ', Loc.setH] using this
        · rw [List.length_append] at hi
          rcases Nat.lt_or_ge i (tk.l.length * tk.sz) with h' | h'
          · left
            obtain ⟨a2, cap2, hv2, h2⟩ := hrep.holds
            rw [hhan] at hv2
            simp only [Value.slice.injEq] at hv2
            obtain ⟨rfl, -, rfl⟩ := hv2
            rcases h2 with e | ⟨blk2, o2, sz2, e1, _, h5, h6⟩
            · rw [e] at h'; simp at h'
            · simp only [Option.some.injEq, Addr.mk.injEq, and_true] at e1
              obtain ⟨rfl, rfl⟩ := e1
              have hy : sz2 = tk.sz := by
                cases hll : tk.l with
                | nil => rw [hll] at h'; simp at h'
                | cons y ys => rw [← h5.1 y (by simp [hll]), huni y (by simp [hll])]
              rw [← hy] at h'
              exact h6 i h'
          · right
            refine ⟨rfl, ?_, ?_⟩ <;> omega
      · simp only [List.length_append] at ho
        rcases hk with hk | ⟨_, _, hk⟩
        · exact hspare o (by omega) hk
        · omega
    · rw [lk_cons_ne _ _ (Ne.symm e)] at hx
      exact (h.buf x t hx hat').chg hchg (by simp [ℓ', Loc.setH, e]) (fun y hy => hkeep x y e (.buf hx hat' hy)) (fun y o hy ho => hokk x y o e (.buf hx hat' hy) ho)
  · have e : x ≠ n := fun e => by subst e; rw [lk_cons_same] at hx; cases hx; cases hat'
    rw [lk_cons_ne _ _ (Ne.symm e)] at hx
    exact (h.arr x t hx hat').chg hchg rfl rfl (hkeep x _ e (.arr hx hat')) (fun o ho => hokk x _ o e (.arr hx hat') ho)
  · have e : x ≠ n := fun e => by have := h.apart x hx; rw [e, hn] at this; cases this
    rw [lk_cons_ne _ _ (Ne.symm e)]
    exact h.apart x hx
  · show x < (setBlk _ _ _).heap.size
    rw [size_setBlk]
    rcases hx with hx | ⟨rfl, _⟩
    · exact h.alive x o hx
    · exact hlt

end Go.Vam
