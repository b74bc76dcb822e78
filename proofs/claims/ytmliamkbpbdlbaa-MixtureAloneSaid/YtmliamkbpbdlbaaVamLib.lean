/- The value-level machine, part 34: contracts of library functions that are met by their own walk: a fresh row, an empty one with room. Conditions: none. -/
import Derived.Test.YtmliamkbpbdlbaaVamInp
import Derived.Below
import Derived.Laws.AppendOwn
set_option linter.unusedVariables false
set_option linter.unusedSimpArgs false
namespace Go.Vam
open Go.RowKit

theorem ext_of_below {w w' : World} (M : Nat → Prop) (h : Below w.heap.size w w') : Ext M w w' := ⟨h.os, h.tape, h.output, h.size, fun i hi _ => h.block i hi⟩

theorem owns_nil {ℓ : Loc} {n : Name} {x : Nat} (h : Owns ℓ [] [] n x) : False := by
  rcases h with ⟨h, _⟩ | ⟨_, h, _⟩ | ⟨_, h, _⟩ <;> simp [lk] at h
theorem memOK_none {ok : Foot} {ℓ : Loc} {w : World} (h : ∀ x o, ok x o → x < w.heap.size) : MemOK ok ℓ [] [] w :=
  ⟨by simp [lk], by simp [lk], by simp [lk], by simp [lk], fun n m x hn => (owns_nil hn).elim, h⟩

/-- All that was read before, and the new blocks. -/
def freshOk (ok : Foot) (w w' : World) : Foot := fun x o => ok x o ∨ (w.heap.size ≤ x ∧ x < w'.heap.size)
theorem freshOk_chg {ok : Foot} {w w' : World} (ha : ∀ x o, ok x o → x < w.heap.size) (h : Below w.heap.size w w') : Chg ok (freshOk ok w w') w w' :=
  ⟨fun x o hx => .inl hx, fun x o hx => cell_block (h.block x (ha x o hx)) o⟩
theorem freshOk_alive {ok : Foot} {w w' : World} (ha : ∀ x o, ok x o → x < w.heap.size) (h : Below w.heap.size w w') : ∀ x o, freshOk ok w w' x o → x < w'.heap.size := by
  intro x o hx
  rcases hx with hx | hx
  · exact Nat.lt_of_lt_of_le (ha x o hx) h.size
  · exact hx.2

/-- What a call leaves that is handed no memory and gives a value to be read. -/
theorem post_val {ok : Foot} {ℓ : Loc} {w w' : World} {u : Value} {r : V} (ha : ∀ x o, ok x o → x < w.heap.size) (h : Below w.heap.size w w') (hr : RV (freshOk ok w w') ℓ w' u r) :
    Post 0 ok ℓ [] [] w r [] [] (freshOk ok w w') ℓ w' u :=
  ⟨ext_of_below _ h, memOK_none (freshOk_alive ha h), hr, freshOk_chg ha h, fun x o hx => hx.imp id (fun h => .inl h.1), fun n x hn => (owns_nil hn).elim, fun n _ _ => ⟨.refl ℓ n, fun _ _ => ⟨rfl, rfl, rfl⟩⟩⟩

theorem rep_row {ok : Foot} {w w' : World} {e : TypeId} {v : Value} {k : IntKind} {l : List Int} (h : w'.ownsRow w.heap.size e 1 v l.length (l.map (Value.int k))) : Rep (freshOk ok w w') w' v (.list (LI k l)) := by
  obtain ⟨_, h | ⟨g, cap, cur, rfl, hb, hg, hn, hm, hs, ht⟩⟩ := h
  · obtain ⟨rfl, h0⟩ := h
    have : l = [] := List.length_eq_zero_iff.1 h0
    subst this
    exact .nil _ _
  · have hlen : (LI k l).length = l.length := LI_length
    have hgl := lt_of_heap hg
    have hcell : ∀ (i : Nat) (y : D) (j : Nat) (z : D), (LI k l)[i]? = some y → y.cells[j]? = some z → ∃ n, z = D.int k n ∧ l[i]? = some n ∧ j = 0 := by
      intro i y j z hy hz
      simp only [LI, List.getElem?_map, Option.map_eq_some_iff] at hy
      obtain ⟨n, hn, rfl⟩ := hy
      cases j with
      | zero => simp [D.cells] at hz; exact ⟨n, hz.symm, hn, rfl⟩
      | succ j => simp [D.cells] at hz
    have := Rep.list (ok := freshOk ok w w') (w := w') g 0 cap 1 (LI k l) (fun i _ => .int k (l.getD i 0)) (by rw [hlen]; exact hn) (of_eq_true LI_cells) (fun i y j z hy hz => ?_) (fun i y j z hy hz => ?_)
    · rw [hlen] at this; exact this
    · obtain ⟨n, rfl, h1, rfl⟩ := hcell i y j z hy hz
      have hi := (List.getElem?_eq_some_iff.1 h1).1
      refine ⟨rfl, .inr ⟨hb, hgl⟩, ?_⟩
      rw [cell_row hg]
      have h2 : (cur.toList.take (l.length * 1))[i]? = (l.map (Value.int k))[i]? := by rw [ht]
      rw [List.getElem?_take_of_lt (by omega), List.getElem?_map, h1] at h2
      simp only [Nat.mul_one, Nat.zero_add, Nat.add_zero, List.getD, h1, Option.getD_some]
      rw [← Array.getElem?_toList, h2]
      rfl
    · obtain ⟨n, rfl, h1, rfl⟩ := hcell i y j z hy hz
      simp only [List.getD, h1, Option.getD_some]
      exact .int _ _

/-- The cells of a list of numbers. -/
theorem cells_ints {ok : Foot} {w : World} {v : Value} {k : IntKind} {l : List Int} (h : Rep ok w v (.list (LI k l))) :
    ∃ a c, v = .slice a l.length c ∧ (l = [] ∨ ∃ b o, a = some ⟨b, o, none⟩ ∧ ∀ j, j < l.length → w.cell? ⟨b, o + j, none⟩ = some (.int k (l.getD j 0))) := by
  obtain ⟨a, c, rfl, hh⟩ := h.list_inv
  rw [LI_length]
  refine ⟨a, c, rfl, ?_⟩
  rcases hh with hh | ⟨b, o, sz, u, rfl, h1, h2, h3⟩
  · left
    cases l with
    | nil => rfl
    | cons x l => cases hh
  · by_cases h0 : l = []
    · exact .inl h0
    · refine .inr ⟨b, o, rfl, fun j hj => ?_⟩
      have hx : (LI k l)[j]? = some (.int k l[j]) := by simp [LI, hj]
      have hsz : sz = 1 := by
        have := h2 _ (List.mem_of_getElem? hx)
        simpa [D.cells] using this.symm
      subst hsz
      obtain ⟨_, _, h5, h6⟩ := h3 j _ 0 _ hx (by simp [D.cells]; rfl)
      rw [Nat.mul_one, Nat.add_zero] at h5
      rw [h5, h6.int_inv]
      simp [List.getD, List.getElem?_eq_getElem hj]

/-- Clone, off its walk. -/
theorem spec_clone_of {P : Program} {f : FuncId} {fn : Func} {c : Code} {k : IntKind} {e : TypeId} (hf : P.funcs[f]? = some fn) (hb : fn.body = some c) (hname : (fn.name == "runtime.NumGoroutine") = false) (l : List Int)
    (h0 : ∀ (n c : Nat) (w : World), Calls P f #[.slice none n c] w fun e w' => e = .returned (.slice none 0 0) ∧ w' = w)
    (h1 : ∀ (b o c : Nat) (w : World), (∀ j, j < l.length → w.cell? ⟨b, o + j, none⟩ = some (.int k (l.getD j 0))) → Calls P f #[.slice (some ⟨b, o, none⟩) l.length c] w fun en w' => ∃ v', en = .returned v' ∧ w'.ownsRow w.heap.size e 1 v' l.length (l.map (Value.int k)) ∧ Below w.heap.size w w')
    (h2 : ∀ (a : Addr) (c : Nat) (w : World), Calls P f #[.slice (some a) 0 c] w fun en w' => ∃ v', en = .returned v' ∧ w'.ownsRow w.heap.size e 1 v' 0 [] ∧ Below w.heap.size w w') :
    Spec P 0 f [vL (LI k l)] [] [] (vL (LI k l)) [] [] := by
  refine ⟨⟨fun n hn => hn.elim, by simp, by simp⟩, fun w ok ℓ us hm hus => .inl ⟨?_, ?_⟩⟩
  · simp only [beq_eq_false_iff_ne, ne_eq] at hname
    simp [callFunc, hf, hname, hb]
  obtain ⟨u, rfl⟩ : ∃ u, us = #[u] := by
    have := hus.1
    simp at this
    exact ⟨us[0], by apply Array.ext <;> simp [this]; intro i hi; have : i = 0 := by omega
                     subst this; rfl⟩
  have hu := hus.2 0 u _ (by simp) rfl
  obtain ⟨a, c, rfl, hh⟩ := cells_ints hu.1
  have halive := hm.alive
  cases a with
  | none =>
    have hl : l = [] := by rcases hh with h | ⟨_, _, h, _⟩; exact h; cases h
    subst hl
    refine (h0 _ c w).mono ?_
    rintro en w' ⟨rfl, rfl⟩
    exact ⟨_, _, _, rfl, post_val halive (Below.refl _ _) ⟨.nil _ _, rfl⟩⟩
  | some a =>
    rcases hh with rfl | ⟨b, o, hab, hc⟩
    · refine (h2 a c w).mono ?_
      rintro en w' ⟨v', rfl, hr, hbl⟩
      exact ⟨_, _, _, rfl, post_val halive hbl ⟨rep_row (l := []) hr, rfl⟩⟩
    · cases hab
      refine (h1 b o c w hc).mono ?_
      rintro en w' ⟨v', rfl, hr, hbl⟩
      exact ⟨_, _, _, rfl, post_val halive hbl ⟨rep_row hr, rfl⟩⟩

/-- What Grow of nothing leaves. -/
def Grew (a : Option Addr) (w : World) (en : Ending) (w' : World) : Prop := (en = .returned (.slice a 0 0) ∧ w' = w) ∨
      ∃ g cs T, en = .returned (.slice (some ⟨w.heap.size, 0, none⟩) 0 g) ∧ w'.heap = w.heap.push (.cells cs T (0, 0)) ∧ cs.size = g ∧ w'.os = w.os ∧ w'.tape = w.tape ∧ w'.output = w.output
/-- Grow of nothing, off its walk: an empty buffer with room. -/
theorem spec_grow_of {P : Program} {f : FuncId} {fn : Func} {c : Code} (hf : P.funcs[f]? = some fn) (hb : fn.body = some c) (hname : (fn.name == "runtime.NumGoroutine") = false) (n : Nat)
    (h : ∀ (a : Option Addr) (w : World), Calls P f #[.slice a 0 0, .int .i64 n] w (Grew a w)) :
    Spec P 0 f [.c .nil, vI .i64 n] [] [] (.c (.own ⟨0, 9⟩ [])) [] [(⟨0, 9⟩, ⟨false, 1, []⟩)] := by
  refine ⟨⟨fun m hm => by cases hm; exact Nat.le_refl _, by simp, by simp⟩, fun w ok ℓ us hm hus => .inl ⟨?_, ?_⟩⟩
  · simp only [beq_eq_false_iff_ne, ne_eq] at hname
    simp [callFunc, hf, hname, hb]
  obtain ⟨u, v, rfl⟩ : ∃ u v, us = #[u, v] := by
    have := hus.1
    simp at this
    refine ⟨us[0], us[1], ?_⟩
    apply Array.ext
    · simp [this]
    · intro i hi hi2
      rcases i with _ | _ | i
      · rfl
      · rfl
      · simp at hi2; omega
  obtain ⟨a, rfl⟩ := hus.2 0 u _ (by simp) rfl
  have hv := (hus.2 1 v _ (by simp) rfl).1.int_inv
  subst hv
  have halive := hm.alive
  have hsets : ∀ (x : Value) (m : Name), m ≠ ⟨0, 9⟩ → (⟨ℓ.i, fun k => if k = ⟨0, 9⟩ then x else ℓ.h k, ℓ.z⟩ : Loc).h m = ℓ.h m := fun x m hne => by simp [hne]
  refine (h a w).mono ?_
  rintro en w' (⟨rfl, rfl⟩ | ⟨g, cs, T, rfl, hh, hcs, ho, ht, hou⟩)
  · refine ⟨_, freshOk ok w' w', ⟨ℓ.i, fun k => if k = ⟨0, 9⟩ then .slice a 0 0 else ℓ.h k, ℓ.z⟩, rfl, ?_⟩
    refine ⟨.refl _ _, ⟨by simp [lk], fun m tk hmk _ => ?_, fun m tk hmk ha => ?_, by simp [lk], fun m m' x hx hx' => ?_, freshOk_alive halive (Below.refl _ _)⟩, ?_, freshOk_chg halive (Below.refl _ _), fun x o hx => hx.imp id (fun h => .inl h.1), fun m x hx => ?_, fun m _ hne => ?_⟩
    · simp only [lk] at hmk
      split at hmk
      · rename_i e; cases hmk; subst e
        exact ⟨by simpa using Rep.nil a 0, by simp, a, 0, by simp, .inl rfl⟩
      · cases hmk
    · simp only [lk] at hmk
      split at hmk
      · cases hmk; cases ha
      · cases hmk
    · rcases hx with ⟨h, _⟩ | ⟨tk, h, h', _⟩ | ⟨tk, h, h', h''⟩
      · simp [lk] at h
      · simp only [lk] at h; split at h <;> cases h; cases h'
      · simp only [lk] at h; split at h <;> cases h
        rename_i e; subst e
        cases a <;> simp [hblk] at h''
    · exact ⟨by simpa using Rep.nil a 0, by simp, fun _ => by simp⟩
    · rcases hx with ⟨h, _⟩ | ⟨tk, h, h', _⟩ | ⟨tk, h, h', h''⟩
      · simp [lk] at h
      · simp only [lk] at h; split at h <;> cases h; cases h'
      · simp only [lk] at h; split at h <;> cases h
        rename_i e; subst e
        cases a <;> simp [hblk] at h''
    · have hm9 : m ≠ ⟨0, 9⟩ := fun e => hne (by subst e; exact ⟨rfl, rfl, .inr (by simp [lk])⟩)
      exact ⟨⟨rfl, rfl, by simp [hm9], fun _ => by simp [hm9]⟩, fun _ _ => ⟨rfl, rfl, by simp [hm9]⟩⟩
  · have hsz : w'.heap.size = w.heap.size + 1 := by rw [hh]; simp
    have hbl : Below w.heap.size w w' := ⟨ho, ht, hou, by omega, fun k hk => by rw [hh, Array.getElem?_push, if_neg (by omega)]⟩
    have hnew : w'.heap[w.heap.size]? = some (.cells cs T (0, 0)) := by rw [hh]; simp
    have hok : ∀ x o, ok x o → x < w'.heap.size := fun x o hx => by have := halive x o hx; omega
    refine ⟨_, ok, ⟨ℓ.i, fun k => if k = ⟨0, 9⟩ then .slice (some ⟨w.heap.size, 0, none⟩) 0 g else ℓ.h k, ℓ.z⟩, rfl, ?_⟩
    refine ⟨ext_of_below _ hbl, ⟨by simp [lk], fun m tk hmk _ => ?_, fun m tk hmk ha => ?_, by simp [lk], fun m m' x hx hx' => ?_, hok⟩, ?_, ⟨fun _ _ h => h, fun x o hx => cell_block (hbl.block x (halive x o hx)) o⟩, fun x o hx => .inl hx, fun m x hx => ?_, fun m _ hne => ?_⟩
    · simp only [lk] at hmk
      split at hmk
      · rename_i e; cases hmk; subst e
        refine ⟨by simpa using Rep.nil _ _, by simp, some ⟨w.heap.size, 0, none⟩, g, by simp, .inr ⟨w.heap.size, cs, T, rfl, hnew, by simp [hcs], fun o _ hx => ?_⟩⟩
        have := halive _ _ hx
        omega
      · cases hmk
    · simp only [lk] at hmk
      split at hmk
      · cases hmk; cases ha
      · cases hmk
    · have key : ∀ y, Owns ⟨ℓ.i, fun k => if k = ⟨0, 9⟩ then .slice (some ⟨w.heap.size, 0, none⟩) 0 g else ℓ.h k, ℓ.z⟩ [] [(⟨0, 9⟩, ⟨false, 1, []⟩)] y x → y = ⟨0, 9⟩ := by
        intro y hy
        rcases hy with ⟨h, _⟩ | ⟨tk, h, h', _⟩ | ⟨tk, h, h', h''⟩
        · simp [lk] at h
        · simp only [lk] at h; split at h <;> cases h; cases h'
        · simp only [lk] at h; split at h <;> cases h
          rename_i e; exact e.symm
      rw [key m hx, key m' hx']
    · exact ⟨by simpa using Rep.nil _ _, by simp, fun _ => by simp⟩
    · rcases hx with ⟨h, _⟩ | ⟨tk, h, h', _⟩ | ⟨tk, h, h', h''⟩
      · simp [lk] at h
      · simp only [lk] at h; split at h <;> cases h; cases h'
      · simp only [lk] at h; split at h <;> cases h
        rename_i e; subst e
        by_cases hg : g = 0
        · simp [hblk, hg] at h''
        · simp [hblk, hg] at h''; left; omega
    · have hm9 : m ≠ ⟨0, 9⟩ := fun e => hne (by subst e; exact ⟨rfl, rfl, .inr (by simp [lk])⟩)
      exact ⟨⟨rfl, rfl, by simp [hm9], fun _ => by simp [hm9]⟩, fun _ _ => ⟨rfl, rfl, by simp [hm9]⟩⟩
/-- An append whose answer is known. -/
theorem wpList_appended {P : Program} {ops : Array Oper} {rest : List Oper} {o : Oper} {a : Act} {w w' : World} {Q : Exit → Act → World → Prop} {u p q : Value} {x y : Operand} {t t' : TypeId} (hg : o.guard = none)
    (ho : o.op = .call ⟨.builtin .append, #[x, y], #[t, t']⟩) (hp : a.eval x = p) (hq : a.eval y = q) (hr : ∀ ty, (Builtin.append_ #[t, t'] ty #[p, q]).run P w = .ok u w') (h : wpList P ops Q rest (a.put o.dst u) w') : wpList P ops Q (o :: rest) a w := by
  refine wpList_plain hg fun _ hK => wp_value (u := u) (w' := w') ?_ (hK _ _ h)
  simp [execOp, ho, resolve, builtin, invoke, hp, hq, hr]
end Go.Vam
