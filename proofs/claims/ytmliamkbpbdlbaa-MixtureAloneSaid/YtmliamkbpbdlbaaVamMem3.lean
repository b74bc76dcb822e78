/- The value-level machine, part 4: arrays that are written, and what a call leaves. Conditions: none. -/
import Derived.Test.YtmliamkbpbdlbaaVamMem2
set_option linter.unusedVariables false
set_option linter.unusedSimpArgs false
namespace Go.Vam

/-- A new array, to be written. -/
theorem MemOK.newArr {ok : Foot} {ℓ : Loc} {b : Boxes} {k : Toks} {w : World} (h : MemOK ok ℓ b k w) {n : Name} (hf : Fresh b k n) {sz : Nat} {l : List D} {cs : Array Value} (T : TypeId)
    (hcs : cs.size = l.length * sz) (hh : Holds ok w sz l (fun i => cs[i]?)) :
    MemOK ok ((ℓ.setI n w.heap.size).setZ n sz) b ((n, ⟨true, sz, l⟩) :: k) (w.alloc (.cells cs T)) ∧
      ∀ m x, Owns ((ℓ.setI n w.heap.size).setZ n sz) b ((n, ⟨true, sz, l⟩) :: k) m x → x = w.heap.size ∨ Owns ℓ b k m x := by
  have hc := Chg.alloc h.alive (.cells cs T)
  generalize hℓ : (ℓ.setI n w.heap.size).setZ n sz = ℓ' at *
  have hi : ∀ m, m ≠ n → ℓ'.i m = ℓ.i m := by subst hℓ; intro m hm; simp [Loc.setI, Loc.setZ, hm]
  have hz : ∀ m, m ≠ n → ℓ'.z m = ℓ.z m := by subst hℓ; intro m hm; simp [Loc.setI, Loc.setZ, hm]
  have hhh : ∀ m, ℓ'.h m = ℓ.h m := by subst hℓ; exact fun _ => rfl
  have hin : ℓ'.i n = w.heap.size := by subst hℓ; simp [Loc.setI, Loc.setZ]
  have hzn : ℓ'.z n = sz := by subst hℓ; simp [Loc.setI, Loc.setZ]
  have hat : ∀ m, m ≠ n → LocAt ℓ ℓ' m := fun m hm => ⟨hi m hm, hz m hm, by rw [hhh]; exact Nat.le_refl _, fun _ => hhh m⟩
  obtain ⟨h1, ho⟩ := h.loc (ℓ' := ℓ') hf (fun m hm => ⟨hi m hm, hz m hm, hhh m⟩)
  have h2 := h1.frame hc (fun m x hx => heap_alloc_lt w _ (h.owned_lt (ho m x hx))) (fun x o hx => .inl hx) (fun x o hx => by have := h.alive x o hx; simp; omega)
  have hown : ∀ m x, Owns ℓ' b ((n, ⟨true, sz, l⟩) :: k) m x → (m = n ∧ x = w.heap.size) ∨ Owns ℓ' b k m x := by
    intro m x hm
    rcases hm with ⟨h1, rfl⟩ | ⟨tk, h1, h2, rfl⟩ | ⟨tk, h1, h2, h3⟩
    · exact .inr (.inl ⟨h1, rfl⟩)
    · by_cases e : m = n
      · subst e; exact .inl ⟨rfl, hin⟩
      · rw [lk_cons_ne _ _ (Ne.symm e)] at h1
        exact .inr (.arr h1 h2)
    · by_cases e : m = n
      · subst e; rw [lk_cons_same] at h1; cases h1; cases h2
      · rw [lk_cons_ne _ _ (Ne.symm e)] at h1
        exact .inr (.buf h1 h2 h3)
  refine ⟨⟨h2.box, fun m tk hm ha => ?_, fun m tk hm ha => ?_, fun m hm => ?_, fun m m' x hm hm' => ?_, h2.alive⟩, fun m x hm => ?_⟩
  · have e : m ≠ n := fun e => by subst e; rw [lk_cons_same] at hm; cases hm; cases ha
    rw [lk_cons_ne _ _ (Ne.symm e)] at hm
    exact h2.buf m tk hm ha
  · by_cases e : m = n
    · subst e
      rw [lk_cons_same] at hm
      cases hm
      refine ⟨hzn, hh.1, cs, T, by rw [hin]; exact heap_alloc_self w _, Nat.le_of_eq hcs.symm, (hh.chg hc).2, fun o ho => ?_⟩
      rw [hin] at ho
      exact Nat.lt_irrefl _ (h.alive _ o ho)
    · rw [lk_cons_ne _ _ (Ne.symm e)] at hm
      exact h2.arr m tk hm ha
  · have e : m ≠ n := fun e => by rw [e, hf.nb] at hm; cases hm
    rw [lk_cons_ne _ _ (Ne.symm e)]
    exact h.apart m hm
  · rcases hown m x hm with ⟨e1, e2⟩ | hm <;> rcases hown m' x hm' with ⟨e1', e2'⟩ | hm'
    · rw [e1, e1']
    · exact absurd (h.owned_lt (ho _ _ hm')) (by omega)
    · exact absurd (h.owned_lt (ho _ _ hm)) (by omega)
    · exact h2.distinct m m' x hm hm'
  · rcases hown m x hm with ⟨_, e⟩ | hm
    · exact .inl e
    · exact .inr (ho m x hm)

/-- A store into an array: the whole row is given anew. -/
theorem MemOK.setArr {ok : Foot} {ℓ : Loc} {b : Boxes} {k : Toks} {w : World} (h : MemOK ok ℓ b k w) {n : Name} {tk : Tok} (hn : lk k n = some tk) (ha : tk.isArr = true)
    {l' : List D} {cs : Array Value} {T : TypeId} (hlen : l'.length = tk.l.length) (hcs : tk.l.length * tk.sz ≤ cs.size) (hh : Holds ok w tk.sz l' (fun i => cs[i]?)) :
    MemOK ok ℓ b ((n, ⟨true, tk.sz, l'⟩) :: k) (setBlk w (ℓ.i n) (.cells cs T (0, 0))) ∧ Chg ok ok w (setBlk w (ℓ.i n) (.cells cs T (0, 0))) ∧
      ∀ m x, Owns ℓ b ((n, ⟨true, tk.sz, l'⟩) :: k) m x → Owns ℓ b k m x := by
  have hlt := h.owned_lt (.arr hn ha)
  obtain ⟨hz, _, cs0, T0, hr0, hs0, hold0, hnok⟩ := h.arr n tk hn ha
  have hc : Chg ok ok w (setBlk w (ℓ.i n) (.cells cs T (0, 0))) := ⟨fun _ _ h => h, fun x o hx => cell_block (heap_setBlk_ne w _ (fun e => hnok o (by rw [← e]; exact hx))) o⟩
  have hown : ∀ m x, Owns ℓ b ((n, ⟨true, tk.sz, l'⟩) :: k) m x → Owns ℓ b k m x := by
    intro m x hm
    rcases hm with ⟨h1, rfl⟩ | ⟨t, h1, h2, rfl⟩ | ⟨t, h1, h2, h3⟩
    · exact .inl ⟨h1, rfl⟩
    · by_cases e : m = n
      · subst e; exact .arr hn ha
      · rw [lk_cons_ne _ _ (Ne.symm e)] at h1; exact .arr h1 h2
    · by_cases e : m = n
      · subst e; rw [lk_cons_same] at h1; cases h1; cases h2
      · rw [lk_cons_ne _ _ (Ne.symm e)] at h1; exact .buf h1 h2 h3
  have hne : ∀ m x, m ≠ n → Owns ℓ b k m x → x ≠ ℓ.i n := fun m x hm hx e => hm (h.distinct m n x hx (e ▸ .arr hn ha))
  refine ⟨⟨fun m cs2 hm => ?_, fun m t hm ha' => ?_, fun m t hm ha' => ?_, fun m hm => ?_, fun m m' x hm hm' => h.distinct m m' x (hown _ _ hm) (hown _ _ hm'), ?_⟩, hc, hown⟩
  · have e : m ≠ n := fun e => by have := h.apart m (by simp [hm]); rw [e, hn] at this; cases this
    exact (h.box m cs2 hm).chg hc (fun m' _ => .refl ℓ m') rfl (heap_setBlk_ne w _ (hne m _ e (.box hm))) (fun _ h => h)
  · have e : m ≠ n := fun e => by subst e; rw [lk_cons_same] at hm; cases hm; cases ha'
    rw [lk_cons_ne _ _ (Ne.symm e)] at hm
    exact (h.buf m t hm ha').chg hc rfl (fun x hx => heap_setBlk_ne w _ (hne m x e (.buf hm ha' hx))) (fun _ _ _ h => h)
  · by_cases e : m = n
    · subst e
      rw [lk_cons_same] at hm
      cases hm
      exact ⟨hz, hh.1, cs, T, heap_setBlk_same w _ hlt, by rw [hlen]; exact hcs, (hh.chg hc).2, hnok⟩
    · rw [lk_cons_ne _ _ (Ne.symm e)] at hm
      exact (h.arr m t hm ha').chg hc rfl rfl (heap_setBlk_ne w _ (hne m _ e (.arr hm ha'))) (fun _ h => h)
  · have e : m ≠ n := fun e => by have := h.apart m hm; rw [e, hn] at this; cases this
    rw [lk_cons_ne _ _ (Ne.symm e)]
    exact h.apart m hm
  · intro x o hx; rw [size_setBlk]; exact h.alive x o hx

/-- An array that is written no more: its cells may be read. -/
theorem MemOK.freezeArr {ok : Foot} {ℓ : Loc} {b : Boxes} {k : Toks} {w : World} (h : MemOK ok ℓ b k w) {n : Name} {tk : Tok} (hn : lk k n = some tk) (ha : tk.isArr = true) :
    MemOK (fun x o => ok x o ∨ x = ℓ.i n) ℓ b (rm k n) w ∧ (∀ capA, tk.l.length ≤ capA → Rep (fun x o => ok x o ∨ x = ℓ.i n) w (.slice (some ⟨ℓ.i n, 0, none⟩) tk.l.length capA) (.list tk.l)) ∧
      ∀ m x, Owns ℓ b (rm k n) m x → Owns ℓ b k m x := by
  obtain ⟨hz, huni, cs0, T0, hr0, hs0, hold0, hnok⟩ := h.arr n tk hn ha
  have hc : Chg ok (fun x o => ok x o ∨ x = ℓ.i n) w w := ⟨fun _ _ h => .inl h, fun _ _ _ => rfl⟩
  have hk : ∀ m t, lk (rm k n) m = some t → m ≠ n ∧ lk k m = some t := by
    intro m t hm
    by_cases e : m = n
    · subst e; rw [lk_rm_same] at hm; cases hm
    · rw [lk_rm_ne _ e] at hm; exact ⟨e, hm⟩
  have hown : ∀ m x, Owns ℓ b (rm k n) m x → Owns ℓ b k m x ∧ m ≠ n := by
    intro m x hm
    rcases hm with ⟨h1, rfl⟩ | ⟨t, h1, h2, rfl⟩ | ⟨t, h1, h2, h3⟩
    · exact ⟨.inl ⟨h1, rfl⟩, fun e => by have := h.apart m h1; rw [e, hn] at this; cases this⟩
    · exact ⟨.arr (hk m t h1).2 h2, (hk m t h1).1⟩
    · exact ⟨.buf (hk m t h1).2 h2 h3, (hk m t h1).1⟩
  have hne : ∀ m x, m ≠ n → Owns ℓ b k m x → x ≠ ℓ.i n := fun m x hm hx e => hm (h.distinct m n x hx (e ▸ .arr hn ha))
  refine ⟨⟨fun m cs hm => ?_, fun m t hm ha' => ?_, fun m t hm ha' => ?_, fun m hm => ?_, fun m m' x hm hm' => h.distinct m m' x (hown _ _ hm).1 (hown _ _ hm').1, ?_⟩, ?_, fun m x hm => (hown m x hm).1⟩
  · have e : m ≠ n := fun e => by have := h.apart m (by simp [hm]); rw [e, hn] at this; cases this
    exact (h.box m cs hm).chg hc (fun m' _ => .refl ℓ m') rfl rfl (fun o ho => ho.resolve_right (hne m _ e (.box hm)))
  · obtain ⟨e, hm⟩ := hk m t hm
    exact (h.buf m t hm ha').chg hc rfl (fun _ _ => rfl) (fun x o hx ho => ho.resolve_right (hne m x e (.buf hm ha' hx)))
  · obtain ⟨e, hm⟩ := hk m t hm
    exact (h.arr m t hm ha').chg hc rfl rfl rfl (fun o ho => ho.resolve_right (hne m _ e (.arr hm ha')))
  · by_cases e : m = n
    · rw [e]; exact lk_rm_same _ _
    · rw [lk_rm_ne _ e]; exact h.apart m hm
  · intro x o hx
    rcases hx with hx | rfl
    · exact h.alive x o hx
    · exact lt_of_heap hr0
  · intro capA hcA
    refine Rep.of_holds (sz := tk.sz) hcA ?_ (fun i hi => .inr rfl)
    refine (Holds.chg hc ⟨huni, hold0⟩).at_eq (fun i hi => ?_)
    rw [Nat.zero_add]
    exact cell_row hr0 i

/-! ### A call -/
theorem lk_append {κ α : Type} [DecidableEq κ] (l m : List (κ × α)) (x : κ) : lk (l ++ m) x = (lk l x).or (lk m x) := by
  induction l with
  | nil => rfl
  | cons p l ih =>
    obtain ⟨k, v⟩ := p
    by_cases h : k = x
    · simp [lk, h]
    · simp only [List.cons_append, lk_cons_ne _ _ h, ih]

theorem MemOK.part {ok : Foot} {ℓ : Loc} {b b0 : Boxes} {k k0 : Toks} {w : World} (h : MemOK ok ℓ b k w) (hb : ∀ n cs, lk b0 n = some cs → lk b n = some cs) (hk : ∀ n t, lk k0 n = some t → lk k n = some t) :
    MemOK ok ℓ b0 k0 w ∧ ∀ n x, Owns ℓ b0 k0 n x → Owns ℓ b k n x := by
  have hown : ∀ n x, Owns ℓ b0 k0 n x → Owns ℓ b k n x := by
    intro n x hn
    rcases hn with ⟨h1, rfl⟩ | ⟨t, h1, h2, rfl⟩ | ⟨t, h1, h2, h3⟩
    · obtain ⟨cs, hcs⟩ := Option.isSome_iff_exists.1 h1
      exact .box (hb n cs hcs)
    · exact .arr (hk n t h1) h2
    · exact .buf (hk n t h1) h2 h3
  refine ⟨⟨fun n cs hn => h.box n cs (hb n cs hn), fun n t hn => h.buf n t (hk n t hn), fun n t hn => h.arr n t (hk n t hn), fun n hn => ?_, fun n m x hn hm => h.distinct n m x (hown _ _ hn) (hown _ _ hm), h.alive⟩, hown⟩
  obtain ⟨cs, hcs⟩ := Option.isSome_iff_exists.1 hn
  have := h.apart n (by simp [hb n cs hcs])
  cases hk0 : lk k0 n with
  | none => rfl
  | some t => rw [hk n t hk0] at this; cases this

/-- The names that a call makes. -/
def NewName (b b' : Boxes) (k k' : Toks) (n : Name) : Prop := lk b n = none ∧ lk k n = none ∧ ((lk b' n).isSome = true ∨ (lk k' n).isSome = true)

theorem MemOK.merge {ok ok' : Foot} {ℓ ℓ' : Loc} {b b0 b' : Boxes} {k k0 k' : Toks} {w w' : World} (h : MemOK ok ℓ b k w)
    (hb : ∀ n cs, lk b0 n = some cs → lk b n = some cs) (hk : ∀ n t, lk k0 n = some t → lk k n = some t) (h' : MemOK ok' ℓ' b' k' w')
    (hbp : ∀ n, (lk b0 n).isSome = true → (lk b' n).isSome = true) (hkp : ∀ n, (lk k0 n).isSome = true → (lk k' n).isSome = true)
    (hext : Ext (fun x => ∃ n, Owns ℓ b0 k0 n x) w w') (hc : Chg ok ok' w w')
    (hsup : ∀ x o, ok' x o → ok x o ∨ w.heap.size ≤ x ∨ ∃ n, Owns ℓ b0 k0 n x)
    (hown : ∀ n x, Owns ℓ' b' k' n x → w.heap.size ≤ x ∨ ∃ m, Owns ℓ b0 k0 m x)
    (hnew : ∀ n, (lk b' n).isSome = true ∨ (lk k' n).isSome = true → ((lk b0 n).isSome = true ∧ (lk b' n).isSome = true ∧ lk k' n = none) ∨ ((lk k0 n).isSome = true ∧ (lk k' n).isSome = true ∧ lk b' n = none) ∨ Fresh b k n)
    (hl : ∀ n, lk b' n = none → lk k' n = none → (lk b n).isSome = true ∨ (lk k n).isSome = true → ℓ'.i n = ℓ.i n ∧ ℓ'.z n = ℓ.z n ∧ ℓ'.h n = ℓ.h n)
    (hlc : ∀ m cs, lk b m = some cs → ∀ c ∈ cs, ∀ n, c.has n → LocAt ℓ ℓ' n ∨ Fresh b k n) :
    MemOK ok' ℓ' (b' ++ b) (k' ++ k) w' ∧ ∀ n x, Owns ℓ' (b' ++ b) (k' ++ k) n x → Owns ℓ b k n x ∨ Owns ℓ' b' k' n x := by
  obtain ⟨h0, ho0⟩ := h.part hb hk
  -- what lies outside of the call's memory
  have hbn : ∀ n cs, lk (b' ++ b) n = some cs → lk b' n = some cs ∨ (lk b' n = none ∧ lk b n = some cs) := by
    intro n cs hn
    rw [lk_append] at hn
    cases hb' : lk b' n with
    | some x => rw [hb'] at hn; simp at hn; exact .inl (by rw [hn])
    | none => rw [hb'] at hn; simp at hn; exact .inr ⟨rfl, hn⟩
  have hkn : ∀ n t, lk (k' ++ k) n = some t → lk k' n = some t ∨ (lk k' n = none ∧ lk k n = some t) := by
    intro n cs hn
    rw [lk_append] at hn
    cases hk' : lk k' n with
    | some x => rw [hk'] at hn; simp at hn; exact .inl (by rw [hn])
    | none => rw [hk'] at hn; simp at hn; exact .inr ⟨rfl, hn⟩
  -- a name of the rest is none of the call's
  have hrb : ∀ n cs, lk b' n = none → lk b n = some cs → lk k' n = none := by
    intro n cs h1 h2
    cases hk' : lk k' n with
    | none => rfl
    | some t =>
      rcases hnew n (.inr (by simp [hk'])) with ⟨_, e, _⟩ | ⟨e, _, _⟩ | e
      · rw [h1] at e; cases e
      · have := h.apart n (by simp [h2])
        obtain ⟨t0, ht0⟩ := Option.isSome_iff_exists.1 e
        rw [hk n t0 ht0] at this; cases this
      · rw [e.nb] at h2; cases h2
  have hrk : ∀ n t, lk k' n = none → lk k n = some t → lk b' n = none := by
    intro n t h1 h2
    cases hb' : lk b' n with
    | none => rfl
    | some cs =>
      rcases hnew n (.inl (by simp [hb'])) with ⟨e, _, _⟩ | ⟨_, e, _⟩ | e
      · obtain ⟨c0, hc0⟩ := Option.isSome_iff_exists.1 e
        have := h.apart n (by simp [hb n c0 hc0])
        rw [h2] at this; cases this
      · rw [h1] at e; cases e
      · rw [e.nk] at h2; cases h2
  have hout : ∀ n x, lk b' n = none → lk k' n = none → Owns ℓ b k n x → ¬ ∃ m, Owns ℓ b0 k0 m x := by
    rintro n x h1 h2 hx ⟨m, hm⟩
    have e := h.distinct n m x hx (ho0 m x hm)
    subst e
    rcases hm with ⟨h3, _⟩ | ⟨t, h3, _, _⟩ | ⟨t, h3, _, _⟩
    · have := hbp n h3; rw [h1] at this; cases this
    · have := hkp n (by simp [h3]); rw [h2] at this; cases this
    · have := hkp n (by simp [h3]); rw [h2] at this; cases this
  have hkeep : ∀ n x, lk b' n = none → lk k' n = none → Owns ℓ b k n x → w'.heap[x]? = w.heap[x]? := fun n x h1 h2 hx => hext.block x (h.owned_lt hx) (hout n x h1 h2 hx)
  have hokk : ∀ n x o, lk b' n = none → lk k' n = none → Owns ℓ b k n x → ok' x o → ok x o := fun n x o h1 h2 hx ho => by
    rcases hsup x o ho with h3 | h3 | h3
    · exact h3
    · exact absurd (h.owned_lt hx) (by omega)
    · exact absurd h3 (hout n x h1 h2 hx)
  have hcc : ∀ m cs, lk b' m = none → lk b m = some cs → ∀ n, (∃ c ∈ cs, c.has n) → LocAt ℓ ℓ' n := by
    rintro m cs h1 h2 n ⟨c, hc, hh⟩
    rcases hlc m cs h2 c hc n hh with h3 | h3
    · exact h3
    · exact absurd hh (h3.nc m cs h2 c hc)
  have howns : ∀ n x, Owns ℓ' (b' ++ b) (k' ++ k) n x → (lk b' n = none ∧ lk k' n = none ∧ Owns ℓ b k n x) ∨ Owns ℓ' b' k' n x := by
    intro n x hn
    rcases hn with ⟨h1, rfl⟩ | ⟨t, h1, h2, rfl⟩ | ⟨t, h1, h2, h3⟩
    · obtain ⟨cs, hcs⟩ := Option.isSome_iff_exists.1 h1
      rcases hbn n cs hcs with e | ⟨e1, e2⟩
      · exact .inr (.box e)
      · have e3 := hrb n cs e1 e2
        rw [(hl n e1 e3 (.inl (by simp [e2]))).1]
        exact .inl ⟨e1, e3, .box e2⟩
    · rcases hkn n t h1 with e | ⟨e1, e2⟩
      · exact .inr (.arr e h2)
      · have e3 := hrk n t e1 e2
        rw [(hl n e3 e1 (.inr (by simp [e2]))).1]
        exact .inl ⟨e3, e1, .arr e2 h2⟩
    · rcases hkn n t h1 with e | ⟨e1, e2⟩
      · exact .inr (.buf e h2 h3)
      · have e3 := hrk n t e1 e2
        rw [(hl n e3 e1 (.inr (by simp [e2]))).2.2] at h3
        exact .inl ⟨e3, e1, .buf e2 h2 h3⟩
  refine ⟨⟨fun n cs hn => ?_, fun n t hn ha => ?_, fun n t hn ha => ?_, fun n hn => ?_, fun n m x hn hm => ?_, h'.alive⟩, fun n x hx => (howns n x hx).imp (·.2.2) id⟩
  · rcases hbn n cs hn with e | ⟨e1, e2⟩
    · exact h'.box n cs e
    · have e3 := hrb n cs e1 e2
      exact (h.box n cs e2).chg hc (hcc n cs e1 e2) (hl n e1 e3 (.inl (by simp [e2]))).1 (hkeep n _ e1 e3 (.box e2)) (fun o ho => hokk n _ o e1 e3 (.box e2) ho)
  · rcases hkn n t hn with e | ⟨e1, e2⟩
    · exact h'.buf n t e ha
    · have e3 := hrk n t e1 e2
      exact (h.buf n t e2 ha).chg hc (hl n e3 e1 (.inr (by simp [e2]))).2.2 (fun x hx => hkeep n x e3 e1 (.buf e2 ha hx)) (fun x o hx ho => hokk n x o e3 e1 (.buf e2 ha hx) ho)
  · rcases hkn n t hn with e | ⟨e1, e2⟩
    · exact h'.arr n t e ha
    · have e3 := hrk n t e1 e2
      exact (h.arr n t e2 ha).chg hc (hl n e3 e1 (.inr (by simp [e2]))).1 (hl n e3 e1 (.inr (by simp [e2]))).2.1 (hkeep n _ e3 e1 (.arr e2 ha)) (fun o ho => hokk n _ o e3 e1 (.arr e2 ha) ho)
  · obtain ⟨cs, hcs⟩ := Option.isSome_iff_exists.1 hn
    cases hk1 : lk (k' ++ k) n with
    | none => rfl
    | some t =>
      rcases hbn n cs hcs with e | ⟨e1, e2⟩ <;> rcases hkn n t hk1 with f | ⟨f1, f2⟩
      · have := h'.apart n (by simp [e]); rw [f] at this; cases this
      · have := hrk n t f1 f2; rw [e] at this; cases this
      · have := hrb n cs e1 e2; rw [f] at this; cases this
      · have := h.apart n (by simp [e2]); rw [f2] at this; cases this
  · rcases howns n x hn with ⟨e1, e2, e3⟩ | e <;> rcases howns m x hm with ⟨f1, f2, f3⟩ | f
    · exact h.distinct n m x e3 f3
    · rcases hown m x f with g | g
      · exact absurd (h.owned_lt e3) (by omega)
      · exact absurd g (hout n x e1 e2 e3)
    · rcases hown n x e with g | g
      · exact absurd (h.owned_lt f3) (by omega)
      · exact absurd g (hout m x f1 f2 f3)
    · exact h'.distinct n m x e f

end Go.Vam
