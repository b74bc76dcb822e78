/- The value-level machine, part 2: how the symbolic memory goes along with the world's: new blocks, stores, buffers, arrays. Conditions: none. -/
import Derived.Test.YtmliamkbpbdlbaaVamBase
set_option linter.unusedVariables false
set_option linter.unusedSimpArgs false
namespace Go.Vam

/-! ### Worlds -/
def setBlk (w : World) (x : Nat) (o : Obj) : World := { w with heap := w.heap.setIfInBounds x o }

theorem heap_setBlk_same (w : World) {x : Nat} (o : Obj) (h : x < w.heap.size) : (setBlk w x o).heap[x]? = some o := by
  simp [setBlk, h]
theorem heap_setBlk_ne (w : World) {x y : Nat} (o : Obj) (h : y ≠ x) : (setBlk w x o).heap[y]? = w.heap[y]? := by
  simp [setBlk, Array.getElem?_setIfInBounds_ne h.symm]
theorem size_setBlk (w : World) (x : Nat) (o : Obj) : (setBlk w x o).heap.size = w.heap.size := by simp [setBlk]
theorem setBlk_setBlk (w : World) (x : Nat) (o o' : Obj) : setBlk (setBlk w x o) x o' = setBlk w x o' := by
  simp only [setBlk]
  congr 1
  apply Array.ext_getElem?
  intro i
  by_cases h : i = x
  · subst h
    simp only [Array.getElem?_setIfInBounds_self]
    simp [Array.size_setIfInBounds]
  · simp [Array.getElem?_setIfInBounds_ne (Ne.symm h)]

theorem setBlk_self (w : World) {x : Nat} {o : Obj} (h : w.heap[x]? = some o) : setBlk w x o = w := by
  have : w.heap.setIfInBounds x o = w.heap := by
    apply Array.ext_getElem?
    intro i
    by_cases hi : i = x
    · subst hi
      have := lt_of_heap h
      simp [this]
      exact (Array.getElem?_eq_some_iff.1 h).2.symm
    · simp [Array.getElem?_setIfInBounds_ne (Ne.symm hi)]
  simp [setBlk, this]

theorem setCell_eq (w : World) {x o : Nat} {vs : Array Value} {T : TypeId} {fr : Nat × Nat} (v : Value) (h : w.heap[x]? = some (.cells vs T fr)) :
    w.setCell ⟨x, o, none⟩ v = setBlk w x (.cells (vs.setIfInBounds o v) T fr) := by
  simp only [World.setCell, setBlk]
  congr 1
  apply Array.ext_getElem?
  intro i
  rw [Array.getElem?_modify]
  by_cases hi : x = i
  · subst hi
    have hlt := lt_of_heap h
    have hx : w.heap[x] = .cells vs T fr := (Array.getElem?_eq_some_iff.1 h).2
    simp [hlt, hx]
  · simp [hi]

theorem cell_row {w : World} {x : Nat} {vs : Array Value} {T : TypeId} {fr : Nat × Nat} (h : w.heap[x]? = some (.cells vs T fr)) (o : Nat) : w.cell? ⟨x, o, none⟩ = vs[o]? := by
  simp [World.cell?, h]

theorem cell_block {w w' : World} {x : Nat} (h : w'.heap[x]? = w.heap[x]?) (o : Nat) : w'.cell? ⟨x, o, none⟩ = w.cell? ⟨x, o, none⟩ := by
  simp [World.cell?, h]

/-- Values laid into a row from a place on. -/
def setFrom (vs : Array Value) (o : Nat) : List Value → Array Value
  | [] => vs
  | u :: us => setFrom (vs.setIfInBounds o u) (o + 1) us

theorem size_setFrom (us : List Value) : ∀ (vs : Array Value) (o : Nat), (setFrom vs o us).size = vs.size := by
  induction us with
  | nil => intro vs o; rfl
  | cons u us ih => intro vs o; simp [setFrom, ih]

theorem setFrom_out (us : List Value) : ∀ (vs : Array Value) (o i : Nat), (i < o ∨ o + us.length ≤ i) → (setFrom vs o us)[i]? = vs[i]? := by
  induction us with
  | nil => intro vs o i _; rfl
  | cons u us ih =>
    intro vs o i h
    simp only [setFrom, List.length_cons] at h ⊢
    rw [ih _ _ _ (by omega), Array.getElem?_setIfInBounds_ne (by omega)]

theorem setFrom_in (us : List Value) : ∀ (vs : Array Value) (o i : Nat), o + us.length ≤ vs.size → i < us.length → (setFrom vs o us)[o + i]? = us[i]? := by
  induction us with
  | nil => intro vs o i _ h; simp at h
  | cons u us ih =>
    intro vs o i hs h
    simp only [setFrom, List.length_cons] at h hs ⊢
    cases i with
    | zero =>
      rw [setFrom_out _ _ _ _ (by omega)]
      have : o < vs.size := by omega
      simp [this]
    | succ i =>
      have := ih (vs.setIfInBounds o u) (o + 1) i (by simp; omega) (by omega)
      simp only [List.getElem?_cons_succ]
      rw [← this]
      congr 1
      omega

theorem run_storeCells (P : Program) (us : List Value) : ∀ (w : World) (x o i : Nat) (vs : Array Value) (T : TypeId), w.heap[x]? = some (.cells vs T (0, 0)) →
    o + i + us.length ≤ vs.size → (∀ u ∈ us, u.oneCell' = true) →
    (storeCells ⟨x, o, none⟩ us i).run P w = .ok () (setBlk w x (.cells (setFrom vs (o + i) us) T (0, 0))) := by
  induction us with
  | nil => intro w x o i vs T h _ _; simp [storeCells, setFrom, setBlk_self w h]
  | cons u us ih =>
    intro w x o i vs T h hs hu
    simp only [List.length_cons] at hs
    have hadd : (⟨x, o, none⟩ : Addr).add i = ⟨x, o + i, none⟩ := by unfold Addr.add; split <;> simp_all
    simp only [storeCells, Sem.run_bind, hadd]
    rw [run_store P w ⟨x, o + i, none⟩ u .plain (hu u (by simp))]
    rw [cell_row h]
    have hlt : o + i < vs.size := by omega
    simp only [Array.getElem?_eq_getElem hlt]
    have hf : w.frozen? ⟨x, o + i, none⟩ = false := by simp [World.frozen?, h]
    simp only [hf, Bool.false_eq_true, if_false, Result.andThen_ok]
    rw [setCell_eq w u h]
    have hh : (setBlk w x (.cells (vs.setIfInBounds (o + i) u) T (0, 0))).heap[x]? = some (.cells (vs.setIfInBounds (o + i) u) T (0, 0)) := heap_setBlk_same w _ (lt_of_heap h)
    rw [ih _ x o (i + 1) _ T hh (by simp; omega) (fun u hu' => hu u (by simp [hu']))]
    rw [setBlk_setBlk]
    rfl

theorem run_loadCells_row (P : Program) (w : World) (x o n : Nat) (us : List Value) (hn : us.length = n) (h : ∀ j u, us[j]? = some u → w.cell? ⟨x, o + j, none⟩ = some u) :
    (loadCells ⟨x, o, none⟩ n).run P w = .ok us.toArray w := by
  subst hn
  refine run_loadCells_list (P := P) w ⟨x, o, none⟩ us (fun j v hv => ?_)
  have hadd : (⟨x, o, none⟩ : Addr).add j = ⟨x, o + j, none⟩ := by unfold Addr.add; split <;> simp_all
  rw [hadd]
  exact h j v hv

/-- w' is w but for the blocks of M and for new blocks. -/
structure Ext (M : Nat → Prop) (w w' : World) : Prop where
  os : w'.os = w.os
  tape : w'.tape = w.tape
  output : w'.output = w.output
  size : w.heap.size ≤ w'.heap.size
  block : ∀ i, i < w.heap.size → ¬ M i → w'.heap[i]? = w.heap[i]?

theorem Ext.refl (M : Nat → Prop) (w : World) : Ext M w w := ⟨rfl, rfl, rfl, Nat.le_refl _, fun _ _ _ => rfl⟩
theorem Ext.trans {M : Nat → Prop} {a b c : World} (h : Ext M a b) (k : Ext M b c) : Ext M a c :=
  ⟨k.os.trans h.os, k.tape.trans h.tape, k.output.trans h.output, Nat.le_trans h.size k.size, fun i hi hm => (k.block i (Nat.lt_of_lt_of_le hi h.size) hm).trans (h.block i hi hm)⟩
theorem Ext.mono {M M' : Nat → Prop} {a b : World} (h : Ext M a b) (hm : ∀ x, M x → M' x) : Ext M' a b := ⟨h.os, h.tape, h.output, h.size, fun i hi hn => h.block i hi (fun h => hn (hm _ h))⟩
theorem Ext.alloc (M : Nat → Prop) (w : World) (o : Obj) : Ext M w (w.alloc o) :=
  ⟨rfl, rfl, rfl, by simp, fun i hi _ => by show (w.heap.push o)[i]? = _; rw [Array.getElem?_push, if_neg (by omega)]⟩
theorem Ext.setBlk (w : World) (x : Nat) (o : Obj) : Ext (fun y => y = x) w (setBlk w x o) :=
  ⟨rfl, rfl, rfl, by simp [size_setBlk], fun i hi hn => heap_setBlk_ne w o hn⟩
theorem Ext.drew (M : Nat → Prop) (w : World) : Ext M w { w with drawn := w.drawn + 1 } := ⟨rfl, rfl, rfl, Nat.le_refl _, fun _ _ _ => rfl⟩

theorem heap_alloc_self (w : World) (o : Obj) : (w.alloc o).heap[w.heap.size]? = some o := by show (w.heap.push o)[w.heap.size]? = _; simp
theorem heap_alloc_lt (w : World) (o : Obj) {i : Nat} (h : i < w.heap.size) : (w.alloc o).heap[i]? = w.heap[i]? := by
  show (w.heap.push o)[i]? = _; rw [Array.getElem?_push, if_neg (by omega)]

/-! ### Memory: what stays -/
theorem BoxOK.chg {ok ok' : Foot} {ℓ ℓ' : Loc} {w w' : World} {n : Name} {cs : List C} (hc : Chg ok ok' w w') (hl : ∀ m, (∃ c ∈ cs, c.has m) → LocAt ℓ ℓ' m) (hi : ℓ'.i n = ℓ.i n)
    (hb : w'.heap[ℓ.i n]? = w.heap[ℓ.i n]?) (hok : ∀ o, ok' (ℓ.i n) o → ok (ℓ.i n) o) (h : BoxOK ok ℓ w n cs) : BoxOK ok' ℓ' w' n cs := by
  obtain ⟨vs, T, h1, h2, h3⟩ := h
  refine ⟨vs, T, by rw [hi, hb, h1], h2.chg hc hl, fun o ho => h3 o (hok o (hi ▸ ho))⟩

theorem BufOK.chg {ok ok' : Foot} {ℓ ℓ' : Loc} {w w' : World} {n : Name} {tk : Tok} (hc : Chg ok ok' w w') (hh : ℓ'.h n = ℓ.h n)
    (hb : ∀ x, hblk (ℓ.h n) = some x → w'.heap[x]? = w.heap[x]?) (hok : ∀ x o, hblk (ℓ.h n) = some x → ok' x o → ok x o) (h : BufOK ok ℓ w n tk) : BufOK ok' ℓ' w' n tk := by
  obtain ⟨h1, h1', a, cap, h2, h3⟩ := h
  refine ⟨by rw [hh]; exact h1.chg hc, h1', a, cap, by rw [hh, h2], ?_⟩
  rcases h3 with h3 | ⟨blk, cs, T, rfl, h4, h5, h6⟩
  · exact .inl h3
  · by_cases hcap : cap = 0
    · exact .inl hcap
    · have hx : hblk (ℓ.h n) = some blk := by rw [h2]; simp [hblk, hcap]
      exact .inr ⟨blk, cs, T, rfl, by rw [hb blk hx, h4], h5, fun o ho hk => h6 o ho (hok blk o hx hk)⟩

theorem ArrOK.chg {ok ok' : Foot} {ℓ ℓ' : Loc} {w w' : World} {n : Name} {tk : Tok} (hc : Chg ok ok' w w') (hi : ℓ'.i n = ℓ.i n) (hz : ℓ'.z n = ℓ.z n)
    (hb : w'.heap[ℓ.i n]? = w.heap[ℓ.i n]?) (hok : ∀ o, ok' (ℓ.i n) o → ok (ℓ.i n) o) (h : ArrOK ok ℓ w n tk) : ArrOK ok' ℓ' w' n tk := by
  obtain ⟨h0, h0', cs, T, h1, h2, h3, h4⟩ := h
  refine ⟨hz.trans h0, h0', cs, T, by rw [hi, hb, h1], h2, fun i x j y hx hy => ?_, fun o ho => h4 o (hok o (hi ▸ ho))⟩
  obtain ⟨a, u, b, c⟩ := h3 i x j y hx hy
  exact ⟨a, u, b, c.chg hc⟩

theorem Owns.box {ℓ b k n cs} (h : lk b n = some cs) : Owns ℓ b k n (ℓ.i n) := .inl ⟨by simp [h], rfl⟩
theorem Owns.arr {ℓ b k n} {tk : Tok} (h : lk k n = some tk) (ha : tk.isArr = true) : Owns ℓ b k n (ℓ.i n) := .inr (.inl ⟨tk, h, ha, rfl⟩)
theorem Owns.buf {ℓ b k n x} {tk : Tok} (h : lk k n = some tk) (ha : tk.isArr = false) (hx : hblk (ℓ.h n) = some x) : Owns ℓ b k n x := .inr (.inr ⟨tk, h, ha, hx⟩)

/-- The world changes elsewhere. -/
theorem MemOK.frame {ok ok' : Foot} {ℓ : Loc} {b : Boxes} {k : Toks} {w w' : World} (h : MemOK ok ℓ b k w) (hc : Chg ok ok' w w')
    (hold : ∀ n x, Owns ℓ b k n x → w'.heap[x]? = w.heap[x]?) (hnew : ∀ x o, ok' x o → ok x o ∨ ∀ n, ¬ Owns ℓ b k n x)
    (halive : ∀ x o, ok' x o → x < w'.heap.size) : MemOK ok' ℓ b k w' where
  box n cs hn := (h.box n cs hn).chg hc (fun m _ => .refl ℓ m) rfl (hold n _ (.box hn)) (fun o ho => (hnew _ o ho).resolve_right (fun hx => hx n (.box hn)))
  buf n tk hn ha := (h.buf n tk hn ha).chg hc rfl (fun x hx => hold n x (.buf hn ha hx)) (fun x o hx ho => (hnew _ o ho).resolve_right (fun hy => hy n (.buf hn ha hx)))
  arr n tk hn ha := (h.arr n tk hn ha).chg hc rfl rfl (hold n _ (.arr hn ha)) (fun o ho => (hnew _ o ho).resolve_right (fun hx => hx n (.arr hn ha)))
  apart := h.apart
  distinct := h.distinct
  alive := halive

def Loc.setI (ℓ : Loc) (n : Name) (x : Nat) : Loc := { ℓ with i := fun m => if m = n then x else ℓ.i m }
def Loc.setZ (ℓ : Loc) (n : Name) (x : Nat) : Loc := { ℓ with z := fun m => if m = n then x else ℓ.z m }
def Loc.setH (ℓ : Loc) (n : Name) (v : Value) : Loc := { ℓ with h := fun m => if m = n then v else ℓ.h m }
theorem LocAt.setI {ℓ : Loc} {n m : Name} (x : Nat) (h : m ≠ n) : LocAt ℓ (ℓ.setI n x) m := ⟨by simp [Loc.setI, h], rfl, Nat.le_refl _, fun _ => rfl⟩
theorem LocAt.setZ {ℓ : Loc} {n m : Name} (x : Nat) (h : m ≠ n) : LocAt ℓ (ℓ.setZ n x) m := ⟨rfl, by simp [Loc.setZ, h], Nat.le_refl _, fun _ => rfl⟩
theorem LocAt.setH {ℓ : Loc} {n m : Name} (v : Value) (h : m ≠ n) : LocAt ℓ (ℓ.setH n v) m := ⟨rfl, rfl, by simp [Loc.setH, h], fun _ => by simp [Loc.setH, h]⟩

/-- Nothing in the memory bears the name. -/
structure Fresh (b : Boxes) (k : Toks) (n : Name) : Prop where
  nb : lk b n = none
  nk : lk k n = none
  nc : ∀ m cs, lk b m = some cs → ∀ c ∈ cs, ¬ c.has n

/-- Other places for a name that nothing bears. -/
theorem MemOK.loc {ok : Foot} {ℓ ℓ' : Loc} {b : Boxes} {k : Toks} {w : World} (h : MemOK ok ℓ b k w) {n : Name} (hf : Fresh b k n) (hl : ∀ m, m ≠ n → ℓ'.i m = ℓ.i m ∧ ℓ'.z m = ℓ.z m ∧ ℓ'.h m = ℓ.h m) :
    MemOK ok ℓ' b k w ∧ ∀ m x, Owns ℓ' b k m x → Owns ℓ b k m x := by
  have hat : ∀ m, m ≠ n → LocAt ℓ ℓ' m := fun m hm => ⟨(hl m hm).1, (hl m hm).2.1, by rw [(hl m hm).2.2]; exact Nat.le_refl _, fun _ => (hl m hm).2.2⟩
  have hnb : ∀ m cs, lk b m = some cs → m ≠ n := fun m cs hm e => by rw [e, hf.nb] at hm; cases hm
  have hnk : ∀ m tk, lk k m = some tk → m ≠ n := fun m cs hm e => by rw [e, hf.nk] at hm; cases hm
  have ho : ∀ m x, Owns ℓ' b k m x → Owns ℓ b k m x := by
    intro m x hm
    rcases hm with ⟨h1, rfl⟩ | ⟨tk, h1, h2, rfl⟩ | ⟨tk, h1, h2, h3⟩
    · obtain ⟨cs, hcs⟩ := Option.isSome_iff_exists.1 h1
      rw [(hl m (hnb m cs hcs)).1]
      exact .inl ⟨h1, rfl⟩
    · rw [(hl m (hnk m tk h1)).1]; exact .arr h1 h2
    · rw [(hl m (hnk m tk h1)).2.2] at h3; exact .buf h1 h2 h3
  refine ⟨⟨fun m cs hm => ?_, fun m tk hm ha => ?_, fun m tk hm ha => ?_, h.apart, fun m m' x hm hm' => h.distinct m m' x (ho _ _ hm) (ho _ _ hm'), h.alive⟩, ho⟩
  · exact (h.box m cs hm).chg (.refl ok w) (fun m' ⟨c, hc, hh⟩ => hat m' (fun e => hf.nc m cs hm c hc (e ▸ hh))) (hl m (hnb m cs hm)).1 rfl (fun _ h => h)
  · exact (h.buf m tk hm ha).chg (.refl ok w) (hl m (hnk m tk hm)).2.2 (fun _ _ => rfl) (fun _ _ _ h => h)
  · exact (h.arr m tk hm ha).chg (.refl ok w) (hl m (hnk m tk hm)).1 (hl m (hnk m tk hm)).2.1 rfl (fun _ h => h)

theorem Chg.alloc {ok : Foot} {w : World} (hal : ∀ x o, ok x o → x < w.heap.size) (ob : Obj) : Chg ok ok w (w.alloc ob) :=
  ⟨fun _ _ h => h, fun x o h => cell_block (heap_alloc_lt w ob (hal x o h)) o⟩

/-- A new box. -/
theorem MemOK.newBox {ok : Foot} {ℓ : Loc} {b : Boxes} {k : Toks} {w : World} (h : MemOK ok ℓ b k w) {n : Name} (hf : Fresh b k n) {vs : Array Value} {cs : List C} (T : TypeId)
    (hr : RCs ok ℓ w vs cs) (hn : ∀ c ∈ cs, ¬ c.has n) :
    MemOK ok (ℓ.setI n w.heap.size) ((n, cs) :: b) k (w.alloc (.cells vs T)) ∧
      ∀ m x, Owns (ℓ.setI n w.heap.size) ((n, cs) :: b) k m x → x = w.heap.size ∨ Owns ℓ b k m x := by
  obtain ⟨h1, ho⟩ := h.loc (ℓ' := ℓ.setI n w.heap.size) hf (fun m hm => ⟨by simp [Loc.setI, hm], rfl, rfl⟩)
  have hc := Chg.alloc h.alive (.cells vs T)
  have h2 := h1.frame hc (fun m x hx => heap_alloc_lt w _ (h.owned_lt (ho m x hx))) (fun x o hx => .inl hx) (fun x o hx => by have := h.alive x o hx; simp; omega)
  have hown : ∀ m x, Owns (ℓ.setI n w.heap.size) ((n, cs) :: b) k m x → (m = n ∧ x = w.heap.size) ∨ Owns (ℓ.setI n w.heap.size) b k m x := by
    intro m x hm
    rcases hm with ⟨h1, rfl⟩ | ⟨tk, h1, h2, rfl⟩ | ⟨tk, h1, h2, h3⟩
    · by_cases e : m = n
      · subst e; exact .inl ⟨rfl, by simp [Loc.setI]⟩
      · rw [lk_cons_ne _ _ (Ne.symm e)] at h1
        exact .inr (.inl ⟨h1, rfl⟩)
    · exact .inr (.arr h1 h2)
    · exact .inr (.buf h1 h2 h3)
  refine ⟨⟨fun m cs' hm => ?_, h2.buf, h2.arr, fun m hm => ?_, fun m m' x hm hm' => ?_, h2.alive⟩, fun m x hm => ?_⟩
  · by_cases e : m = n
    · subst e
      rw [lk_cons_same] at hm
      cases hm
      refine ⟨vs, T, ?_, hr.chg hc (fun m' ⟨c, hc, hh⟩ => .setI _ (fun e => hn c hc (e ▸ hh))), fun o ho => ?_⟩
      · simp only [Loc.setI, if_pos]; exact heap_alloc_self w _
      · simp only [Loc.setI, if_pos] at ho
        exact Nat.lt_irrefl _ (h.alive _ o ho)
    · rw [lk_cons_ne _ _ (Ne.symm e)] at hm
      exact h2.box m cs' hm
  · by_cases e : m = n
    · subst e; exact hf.nk
    · rw [lk_cons_ne _ _ (Ne.symm e)] at hm
      exact h.apart m hm
  · rcases hown m x hm with ⟨e1, e2⟩ | hm <;> rcases hown m' x hm' with ⟨e1', e2'⟩ | hm'
    · rw [e1, e1']
    · exact absurd (h.owned_lt (ho _ _ hm')) (by omega)
    · exact absurd (h.owned_lt (ho _ _ hm)) (by omega)
    · exact h2.distinct m m' x hm hm'
  · rcases hown m x hm with ⟨_, e⟩ | hm
    · exact .inl e
    · exact .inr (ho m x hm)

/-- A store into a box. -/
theorem MemOK.setBox {ok : Foot} {ℓ : Loc} {b : Boxes} {k : Toks} {w : World} (h : MemOK ok ℓ b k w) {n : Name} {cs cs' : List C} (hn : lk b n = some cs) {vs : Array Value} (T : TypeId)
    (hr : RCs ok ℓ w vs cs') :
    MemOK ok ℓ ((n, cs') :: b) k (setBlk w (ℓ.i n) (.cells vs T (0, 0))) ∧ Chg ok ok w (setBlk w (ℓ.i n) (.cells vs T (0, 0))) ∧ ∀ m x, Owns ℓ ((n, cs') :: b) k m x → Owns ℓ b k m x := by
  have hlt := h.owned_lt (.box hn)
  have hnok := h.not_ok_box hn
  have hc : Chg ok ok w (setBlk w (ℓ.i n) (.cells vs T (0, 0))) := ⟨fun _ _ h => h, fun x o hx => cell_block (heap_setBlk_ne w _ (fun e => hnok o (by rw [← e]; exact hx))) o⟩
  have hsome : ∀ m, (lk ((n, cs') :: b) m).isSome = true → (lk b m).isSome = true := by
    intro m hm
    by_cases e : m = n
    · subst e; simp [hn]
    · rwa [lk_cons_ne _ _ (Ne.symm e)] at hm
  have hown : ∀ m x, Owns ℓ ((n, cs') :: b) k m x → Owns ℓ b k m x := by
    intro m x hm
    rcases hm with ⟨h1, rfl⟩ | ⟨tk, h1, h2, rfl⟩ | ⟨tk, h1, h2, h3⟩
    · exact .inl ⟨hsome m h1, rfl⟩
    · exact .arr h1 h2
    · exact .buf h1 h2 h3
  have hne : ∀ m x, m ≠ n → Owns ℓ b k m x → x ≠ ℓ.i n := fun m x hm hx e => hm (h.distinct m n x hx (e ▸ .box hn))
  refine ⟨⟨fun m cs2 hm => ?_, fun m tk hm ha => ?_, fun m tk hm ha => ?_, fun m hm => h.apart m (hsome m hm), fun m m' x hm hm' => h.distinct m m' x (hown _ _ hm) (hown _ _ hm'), ?_⟩, hc, hown⟩
  · by_cases e : m = n
    · subst e
      rw [lk_cons_same] at hm
      cases hm
      exact ⟨vs, T, heap_setBlk_same w _ hlt, hr.chg hc (fun m' _ => .refl ℓ m'), hnok⟩
    · rw [lk_cons_ne _ _ (Ne.symm e)] at hm
      exact (h.box m cs2 hm).chg hc (fun m' _ => .refl ℓ m') rfl (heap_setBlk_ne w _ (hne m _ e (.box hm))) (fun _ h => h)
  · have e : m ≠ n := fun e => by have := h.apart n (by simp [hn]); rw [e, this] at hm; cases hm
    exact (h.buf m tk hm ha).chg hc rfl (fun x hx => heap_setBlk_ne w _ (hne m x e (.buf hm ha hx))) (fun _ _ _ h => h)
  · have e : m ≠ n := fun e => by have := h.apart n (by simp [hn]); rw [e, this] at hm; cases hm
    exact (h.arr m tk hm ha).chg hc rfl rfl (heap_setBlk_ne w _ (hne m _ e (.arr hm ha))) (fun _ h => h)
  · intro x o hx; rw [size_setBlk]; exact h.alive x o hx

end Go.Vam
