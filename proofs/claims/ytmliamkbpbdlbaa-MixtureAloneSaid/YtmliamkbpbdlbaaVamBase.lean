/- The value-level machine, part 1: data, what they stand for in a world, the symbolic memory, and what stays when the world changes. Conditions: none. -/
import Derived.Calls
import Derived.Orders
import Derived.Laws.Sem
import Derived.Laws.World
import Derived.Laws.Cells
import Derived.Laws.Rows
set_option linter.unusedVariables false
set_option linter.unusedSimpArgs false
namespace Go.Vam

/-- Data. -/
inductive D where
  | int (k : IntKind) (n : Int)
  | bool (b : Bool)
  | str (s : ByteArray)
  | list (l : List D)
  | agg (cs : List D)
  | tup (ds : List D)
  | raw (v : Value)

def D.cells : D → List D
  | .agg cs => cs
  | d => [d]

/-- One cell. -/
def D.sc : D → Bool
  | .agg _ => false
  | .tup _ => false
  | .raw v => v.oneCell'
  | _ => true

abbrev Foot := Nat → Nat → Prop

/-- The value reads as the datum; slices lie in the cells of 'ok'. -/
inductive Rep (ok : Foot) (w : World) : Value → D → Prop
  | int (k n) : Rep ok w (.int k n) (.int k n)
  | bool (b) : Rep ok w (.bool b) (.bool b)
  | str (s) : Rep ok w (.string s) (.str s)
  | nil (a cap) : Rep ok w (.slice a 0 cap) (.list [])
  | list (blk o cap sz : Nat) (l : List D) (u : Nat → Nat → Value) : l.length ≤ cap → (∀ x ∈ l, x.cells.length = sz) →
      (∀ i x j y, l[i]? = some x → x.cells[j]? = some y → y.sc = true ∧ ok blk (o + i * sz + j) ∧ w.cell? ⟨blk, o + i * sz + j, none⟩ = some (u i j)) →
      (∀ i x j y, l[i]? = some x → x.cells[j]? = some y → Rep ok w (u i j) y) →
      Rep ok w (.slice (some ⟨blk, o, none⟩) l.length cap) (.list l)
  | agg (vs : Array Value) (cs : List D) : vs.size = cs.length → (∀ y ∈ cs, y.sc = true) → (∀ (i : Nat) u y, vs[i]? = some u → cs[i]? = some y → Rep ok w u y) → Rep ok w (.agg vs) (.agg cs)
  | tup (vs : Array Value) (ds : List D) : vs.size = ds.length → (∀ (i : Nat) u y, vs[i]? = some u → ds[i]? = some y → Rep ok w u y) → Rep ok w (.tuple vs) (.tup ds)
  | raw v : Rep ok w v (.raw v)

/-- Cells that may be read stay as they are; more may be read. -/
structure Chg (ok ok' : Foot) (w w' : World) : Prop where
  sub : ∀ x o, ok x o → ok' x o
  cell : ∀ x o, ok x o → w'.cell? ⟨x, o, none⟩ = w.cell? ⟨x, o, none⟩

theorem Chg.refl (ok : Foot) (w : World) : Chg ok ok w w := ⟨fun _ _ h => h, fun _ _ _ => rfl⟩
theorem Chg.trans {ok ok' ok'' : Foot} {w w' w'' : World} (h : Chg ok ok' w w') (k : Chg ok' ok'' w' w'') : Chg ok ok'' w w'' :=
  ⟨fun x o hx => k.sub _ _ (h.sub _ _ hx), fun x o hx => (k.cell _ _ (h.sub _ _ hx)).trans (h.cell _ _ hx)⟩

theorem Rep.chg {ok ok' : Foot} {w w' : World} (hc : Chg ok ok' w w') {v : Value} {d : D} (h : Rep ok w v d) : Rep ok' w' v d := by
  induction h with
  | int k n => exact .int k n
  | bool b => exact .bool b
  | str s => exact .str s
  | nil a cap => exact .nil a cap
  | list blk o cap sz l u h1 h2 h3 _ ih =>
    refine .list blk o cap sz l u h1 h2 (fun i x j y hx hy => ?_) (fun i x j y hx hy => ih i x j y hx hy)
    obtain ⟨a, b, c⟩ := h3 i x j y hx hy
    exact ⟨a, hc.sub _ _ b, (hc.cell _ _ b).trans c⟩
  | agg vs cs h1 h2 _ ih => exact .agg vs cs h1 h2 (fun i u y hu hy => ih i u y hu hy)
  | tup vs ds h1 _ ih => exact .tup vs ds h1 (fun i u y hu hy => ih i u y hu hy)
  | raw v => exact .raw v

/-! What a value is that reads as a known datum. -/
theorem Rep.int_inv {ok w v k n} (h : Rep ok w v (.int k n)) : v = .int k n := by cases h; rfl
theorem Rep.bool_inv {ok w v b} (h : Rep ok w v (.bool b)) : v = .bool b := by cases h; rfl
theorem Rep.str_inv {ok w v s} (h : Rep ok w v (.str s)) : v = .string s := by cases h; rfl
theorem Rep.raw_inv {ok w v u} (h : Rep ok w v (.raw u)) : v = u := by cases h; rfl
theorem Rep.agg_inv {ok w v cs} (h : Rep ok w v (.agg cs)) : ∃ vs : Array Value, v = .agg vs ∧ vs.size = cs.length ∧ (∀ y ∈ cs, y.sc = true) ∧ ∀ (i : Nat) u y, vs[i]? = some u → cs[i]? = some y → Rep ok w u y := by
  cases h with | agg vs _ h1 h2 h3 => exact ⟨vs, rfl, h1, h2, h3⟩
theorem Rep.tup_inv {ok w v ds} (h : Rep ok w v (.tup ds)) : ∃ vs : Array Value, v = .tuple vs ∧ vs.size = ds.length ∧ ∀ (i : Nat) u y, vs[i]? = some u → ds[i]? = some y → Rep ok w u y := by
  cases h with | tup vs _ h1 h3 => exact ⟨vs, rfl, h1, h3⟩

theorem Rep.list_inv {ok w v l} (h : Rep ok w v (.list l)) : ∃ a cap, v = .slice a l.length cap ∧ (l = [] ∨ ∃ blk o sz, ∃ u : Nat → Nat → Value, a = some ⟨blk, o, none⟩ ∧ l.length ≤ cap ∧ (∀ x ∈ l, x.cells.length = sz) ∧
      (∀ i x j y, l[i]? = some x → x.cells[j]? = some y → y.sc = true ∧ ok blk (o + i * sz + j) ∧ w.cell? ⟨blk, o + i * sz + j, none⟩ = some (u i j) ∧ Rep ok w (u i j) y)) := by
  cases h with
  | nil a cap => exact ⟨a, cap, rfl, .inl rfl⟩
  | list blk o cap sz l u h1 h2 h3 h4 =>
    exact ⟨_, cap, rfl, .inr ⟨blk, o, sz, u, rfl, h1, h2, fun i x j y hx hy => ⟨(h3 i x j y hx hy).1, (h3 i x j y hx hy).2.1, (h3 i x j y hx hy).2.2, h4 i x j y hx hy⟩⟩⟩

theorem Rep.oneCell {ok w v d} (h : Rep ok w v d) (hs : d.sc = true) : v.oneCell' = true := by
  cases h <;> simp_all [D.sc, Value.oneCell']

/-! Cells of the symbolic state. -/
structure Name where
  lv : Nat
  s : Nat
  deriving DecidableEq

inductive C where
  | d (x : D)
  | nil
  | own (k : Name) (l : List D)
  | arr (k : Name) (n : Nat)
  | lp (n : Name) (off : Nat)
  | pd (x : D)
  | ap (k : Name) (i off : Nat)
  | fn (f : FuncId) (caps : List (Name × Nat))
  | bs (m : Name) (n : Nat)
  | vw (k : Name) (off len : Nat)
  | rws (k : Name) (w n : Nat)
  | rp (k : Name) (w i : Nat)

inductive V where
  | c (x : C)
  | agg (cs : List C)
  | tup (ds : List D)
  | ts (sh : List (Option Nat)) (cs : List C)
  | g (γ : Bool) (v : V)

structure Tok where
  isArr : Bool
  sz : Nat
  l : List D

def hlen : Value → Nat
  | .slice _ n _ => n
  | _ => 0
/-- The block of a handle with room. -/
def hblk : Value → Option Nat
  | .slice (some a) _ cap => if cap = 0 then none else some a.block
  | _ => none

/-- What pointers lead to. -/
def PtrTo (ok : Foot) (w : World) (x : D) (b o : Nat) : Prop :=
  ∀ (j : Nat) y, x.cells[j]? = some y → y.sc = true ∧ ok b (o + j) ∧ ∃ z, w.cell? ⟨b, o + j, none⟩ = some z ∧ Rep ok w z y

/-- Where the names lie: boxes and arrays by 'i', what buffers are by 'h', the cells of an element of an array by 'sz'. -/
structure Loc where
  i : Name → Nat
  h : Name → Value
  z : Name → Nat

/-- Whether a function value bears a receiver in place of captures: one pointer, its offset marked by 10^9. -/
def rcv : List (Name × Nat) → Bool
  | [(_, o)] => decide (1000000000 ≤ o)
  | _ => false
/-- The pointers that a function value bears. -/
def fnP (ℓ : Loc) (k : Nat) (caps : List (Name × Nat)) : List Value := caps.map fun p => Value.pointer (some ⟨ℓ.i p.1, p.2 - k, none⟩)
def fnV (ℓ : Loc) (f : FuncId) (caps : List (Name × Nat)) : Value :=
  if rcv caps = true then .func (.func f) (fnP ℓ 1000000000 caps).toArray #[] else .func (.func f) #[] (fnP ℓ 0 caps).toArray

def RC (ok : Foot) (ℓ : Loc) (w : World) (u : Value) : C → Prop
  | .d x => Rep ok w u x ∧ x.sc = true
  | .nil => ∃ a, u = .slice a 0 0
  | .own k l => Rep ok w u (.list l) ∧ l.length ≤ hlen (ℓ.h k) ∧ (l.length = hlen (ℓ.h k) → u = ℓ.h k)
  | .arr k n => ∃ cap, n ≤ cap ∧ u = .slice (some ⟨ℓ.i k, 0, none⟩) n cap
  | .lp n off => u = .pointer (some ⟨ℓ.i n, off, none⟩)
  | .pd x => ∃ b o, u = .pointer (some ⟨b, o, none⟩) ∧ PtrTo ok w x b o
  | .ap k i off => u = .pointer (some ⟨ℓ.i k, i * ℓ.z k + off, none⟩)
  | .fn f caps => u = fnV ℓ f caps
  | .bs m n => u = .slice (some ⟨ℓ.i m, 0, none⟩) n n
  | .vw k off len => u = .slice (some ⟨ℓ.i k, off, none⟩) len len
  | .rws k wd n => ∃ b o, u = .slice (some ⟨b, o, none⟩) n n ∧ ∀ i, i < n → ok b (o + i) ∧ w.cell? ⟨b, o + i, none⟩ = some (.slice (some ⟨ℓ.i k, i * wd, none⟩) wd wd)
  | .rp k wd i => ∃ b o, u = .pointer (some ⟨b, o, none⟩) ∧ ok b o ∧ w.cell? ⟨b, o, none⟩ = some (.slice (some ⟨ℓ.i k, i * wd, none⟩) wd wd)

def RCs (ok : Foot) (ℓ : Loc) (w : World) (vs : Array Value) (cs : List C) : Prop :=
  vs.size = cs.length ∧ ∀ (i : Nat) u c, vs[i]? = some u → cs[i]? = some c → RC ok ℓ w u c

/-- The values of a tuple, off their cells: one cell, or a struct of so many. -/
def tupOf : List (Option Nat) → List Value → List Value
  | [], _ => []
  | none :: sh, vs => match vs with
    | [] => []
    | v :: vs => v :: tupOf sh vs
  | some n :: sh, vs => .agg (vs.take n).toArray :: tupOf sh (vs.drop n)

def RV (ok : Foot) (ℓ : Loc) (w : World) (u : Value) : V → Prop
  | .c x => RC ok ℓ w u x
  | .agg cs => ∃ vs : Array Value, u = .agg vs ∧ RCs ok ℓ w vs cs
  | .tup ds => Rep ok w u (.tup ds)
  | .ts sh cs => ∃ vs : Array Value, u = .tuple (tupOf sh vs.toList).toArray ∧ RCs ok ℓ w vs cs
  | .g γ v => (γ = true → RV ok ℓ w u v) ∧ (γ = false → u = undef)

theorem RC.oneCell {ok ℓ w u c} (h : RC ok ℓ w u c) : u.oneCell' = true := by
  cases c with
  | d x => exact h.1.oneCell h.2
  | nil => obtain ⟨a, rfl⟩ := h; rfl
  | own k l => exact h.1.oneCell rfl
  | arr k n => obtain ⟨cap, _, rfl⟩ := h; rfl
  | lp n off => rw [h]; rfl
  | pd x => obtain ⟨b, o, rfl, _⟩ := h; rfl
  | ap k i off => rw [h]; rfl
  | fn f caps => rw [h]; unfold fnV; split <;> rfl
  | bs m n => rw [h]; rfl
  | vw k off len => rw [h]; rfl
  | rws k wd n => obtain ⟨b, o, rfl, _⟩ := h; rfl
  | rp k wd i => obtain ⟨b, o, rfl, _⟩ := h; rfl

/-! Which names a value bears. -/
def C.has (c : C) (n : Name) : Prop :=
  match c with
  | .own k _ => k = n
  | .arr k _ => k = n
  | .lp k _ => k = n
  | .ap k _ _ => k = n
  | .bs m _ => m = n
  | .vw k _ _ => k = n
  | .rws k _ _ => k = n
  | .rp k _ _ => k = n
  | .fn _ caps => ∃ p ∈ caps, p.1 = n
  | _ => False

def V.has (v : V) (n : Name) : Prop :=
  match v with
  | .c x => x.has n
  | .agg cs => ∃ c ∈ cs, c.has n
  | .tup _ => False
  | .ts _ cs => ∃ c ∈ cs, c.has n
  | .g _ v => v.has n

/-- From one table of places to another, at a name. -/
structure LocAt (ℓ ℓ' : Loc) (n : Name) : Prop where
  i : ℓ'.i n = ℓ.i n
  z : ℓ'.z n = ℓ.z n
  le : hlen (ℓ.h n) ≤ hlen (ℓ'.h n)
  eq : hlen (ℓ.h n) = hlen (ℓ'.h n) → ℓ'.h n = ℓ.h n

theorem LocAt.refl (ℓ : Loc) (n : Name) : LocAt ℓ ℓ n := ⟨rfl, rfl, Nat.le_refl _, fun _ => rfl⟩
theorem LocAt.trans {a b c : Loc} {n : Name} (h : LocAt a b n) (k : LocAt b c n) : LocAt a c n :=
  ⟨k.i.trans h.i, k.z.trans h.z, Nat.le_trans h.le k.le, fun e => by
    have h1 : hlen (a.h n) = hlen (b.h n) := Nat.le_antisymm h.le (by rw [e]; exact k.le)
    have h2 : hlen (b.h n) = hlen (c.h n) := h1.symm.trans e
    rw [k.eq h2, h.eq h1]⟩

theorem PtrTo.chg {ok ok' : Foot} {w w' : World} (hc : Chg ok ok' w w') {x b o} (h : PtrTo ok w x b o) : PtrTo ok' w' x b o := by
  intro j y hy
  obtain ⟨h1, h2, z, h3, h4⟩ := h j y hy
  exact ⟨h1, hc.sub _ _ h2, z, (hc.cell _ _ h2).trans h3, h4.chg hc⟩

theorem RC.chg {ok ok' : Foot} {w w' : World} {ℓ ℓ' : Loc} (hc : Chg ok ok' w w') {u : Value} {c : C} (hl : ∀ n, c.has n → LocAt ℓ ℓ' n) (h : RC ok ℓ w u c) : RC ok' ℓ' w' u c := by
  cases c with
  | d x => exact ⟨h.1.chg hc, h.2⟩
  | nil => exact h
  | own k l =>
    obtain ⟨h1, h2, h3⟩ := h
    have hk := hl k rfl
    refine ⟨h1.chg hc, Nat.le_trans h2 hk.le, fun e => ?_⟩
    have e1 : hlen (ℓ.h k) = hlen (ℓ'.h k) := Nat.le_antisymm hk.le (by rw [← e]; exact h2)
    rw [hk.eq e1]
    exact h3 (e.trans e1.symm)
  | arr k n => simp only [RC] at h ⊢; rw [(hl k rfl).i]; exact h
  | lp n off => simp only [RC] at h ⊢; rw [(hl n rfl).i]; exact h
  | pd x => obtain ⟨b, o, h1, h2⟩ := h; exact ⟨b, o, h1, h2.chg hc⟩
  | ap k i off => simp only [RC] at h ⊢; rw [(hl k rfl).i, (hl k rfl).z]; exact h
  | bs m n => simp only [RC] at h ⊢; rw [(hl m rfl).i]; exact h
  | vw k off len => simp only [RC] at h ⊢; rw [(hl k rfl).i]; exact h
  | rws k wd n =>
    obtain ⟨b, o, h1, h2⟩ := h
    exact ⟨b, o, h1, fun i hi => ⟨hc.sub _ _ (h2 i hi).1, by rw [(hl k rfl).i]; exact (hc.cell _ _ (h2 i hi).1).trans (h2 i hi).2⟩⟩
  | rp k wd i =>
    obtain ⟨b, o, h1, h2, h3⟩ := h
    exact ⟨b, o, h1, hc.sub _ _ h2, by rw [(hl k rfl).i]; exact (hc.cell _ _ h2).trans h3⟩
  | fn f caps =>
    simp only [RC] at h ⊢
    have key : ∀ k, fnP ℓ k caps = fnP ℓ' k caps := fun k => by
      unfold fnP
      apply List.map_congr_left
      intro p hp
      rw [(hl p.1 ⟨p, hp, rfl⟩).i]
    rw [h]
    unfold fnV
    rw [key, key]

theorem RCs.chg {ok ok' : Foot} {w w' : World} {ℓ ℓ' : Loc} (hc : Chg ok ok' w w') {vs : Array Value} {cs : List C} (hl : ∀ n, (∃ c ∈ cs, c.has n) → LocAt ℓ ℓ' n) (h : RCs ok ℓ w vs cs) : RCs ok' ℓ' w' vs cs :=
  ⟨h.1, fun i u c hu hcs => (h.2 i u c hu hcs).chg hc (fun n hn => hl n ⟨c, List.mem_of_getElem? hcs, hn⟩)⟩

theorem RV.chg {ok ok' : Foot} {w w' : World} {ℓ ℓ' : Loc} (hc : Chg ok ok' w w') {u : Value} {v : V} (hl : ∀ n, v.has n → LocAt ℓ ℓ' n) (h : RV ok ℓ w u v) : RV ok' ℓ' w' u v := by
  induction v with
  | c x => exact RC.chg hc hl h
  | agg cs => obtain ⟨vs, h1, h2⟩ := h; exact ⟨vs, h1, h2.chg hc hl⟩
  | tup ds => exact Rep.chg hc h
  | ts sh cs => obtain ⟨vs, h1, h2⟩ := h; exact ⟨vs, h1, h2.chg hc hl⟩
  | g γ v ih => exact ⟨fun e => ih hl (h.1 e), h.2⟩

/-! ### Tables -/
def lk {κ α : Type} [DecidableEq κ] : List (κ × α) → κ → Option α
  | [], _ => none
  | (k, v) :: l, x => if k = x then some v else lk l x

def rm {κ α : Type} [DecidableEq κ] (l : List (κ × α)) (x : κ) : List (κ × α) := l.filter fun p => p.1 ≠ x

theorem lk_cons_same {κ α : Type} [DecidableEq κ] (l : List (κ × α)) (k : κ) (v : α) : lk ((k, v) :: l) k = some v := by simp [lk]
theorem lk_cons_ne {κ α : Type} [DecidableEq κ] (l : List (κ × α)) {k x : κ} (v : α) (h : k ≠ x) : lk ((k, v) :: l) x = lk l x := by simp [lk, h]
theorem lk_rm_same {κ α : Type} [DecidableEq κ] (l : List (κ × α)) (x : κ) : lk (rm l x) x = none := by
  induction l with
  | nil => rfl
  | cons p l ih =>
    obtain ⟨k, v⟩ := p
    by_cases h : k = x
    · simpa [rm, h] using ih
    · have e : rm ((k, v) :: l) x = (k, v) :: rm l x := by simp [rm, h]
      rw [e, lk_cons_ne _ _ h, ih]
theorem lk_rm_ne {κ α : Type} [DecidableEq κ] (l : List (κ × α)) {x y : κ} (h : y ≠ x) : lk (rm l x) y = lk l y := by
  induction l with
  | nil => rfl
  | cons p l ih =>
    obtain ⟨k, v⟩ := p
    by_cases hk : k = x
    · have e : rm ((k, v) :: l) x = rm l x := by simp [rm, hk]
      rw [e, ih, lk_cons_ne _ _ (by rw [hk]; exact h.symm)]
    · have e : rm ((k, v) :: l) x = (k, v) :: rm l x := by simp [rm, hk]
      rw [e]
      by_cases hy : k = y
      · subst hy; rw [lk_cons_same, lk_cons_same]
      · rw [lk_cons_ne _ _ hy, lk_cons_ne _ _ hy, ih]

/-! ### Memory -/
abbrev Boxes := List (Name × List C)
abbrev Toks := List (Name × Tok)

/-- The block that a name owns. -/
def Owns (ℓ : Loc) (b : Boxes) (k : Toks) (n : Name) (x : Nat) : Prop :=
  ((lk b n).isSome = true ∧ x = ℓ.i n) ∨ (∃ tk, lk k n = some tk ∧ tk.isArr = true ∧ x = ℓ.i n) ∨ (∃ tk, lk k n = some tk ∧ tk.isArr = false ∧ hblk (ℓ.h n) = some x)

def BoxOK (ok : Foot) (ℓ : Loc) (w : World) (n : Name) (cs : List C) : Prop :=
  ∃ vs T, w.heap[ℓ.i n]? = some (.cells vs T (0, 0)) ∧ RCs ok ℓ w vs cs ∧ ∀ o, ¬ ok (ℓ.i n) o

/-- A buffer: what it is now (h), with room behind it that nobody reads. -/
def BufOK (ok : Foot) (ℓ : Loc) (w : World) (n : Name) (tk : Tok) : Prop :=
  Rep ok w (ℓ.h n) (.list tk.l) ∧ (∀ x ∈ tk.l, x.cells.length = tk.sz) ∧ ∃ a cap, ℓ.h n = .slice a tk.l.length cap ∧
    (cap = 0 ∨ ∃ blk cs T, a = some ⟨blk, 0, none⟩ ∧ w.heap[blk]? = some (.cells cs T (0, 0)) ∧ cs.size = cap * tk.sz ∧ ∀ o, tk.l.length * tk.sz ≤ o → ¬ ok blk o)

/-- An array that is written. -/
def ArrOK (ok : Foot) (ℓ : Loc) (w : World) (n : Name) (tk : Tok) : Prop :=
  ℓ.z n = tk.sz ∧ (∀ x ∈ tk.l, x.cells.length = tk.sz) ∧ ∃ cs T, w.heap[ℓ.i n]? = some (.cells cs T (0, 0)) ∧ tk.l.length * tk.sz ≤ cs.size ∧
    (∀ i x j y, tk.l[i]? = some x → x.cells[j]? = some y → y.sc = true ∧ ∃ u, cs[i * tk.sz + j]? = some u ∧ Rep ok w u y) ∧ ∀ o, ¬ ok (ℓ.i n) o

structure MemOK (ok : Foot) (ℓ : Loc) (b : Boxes) (k : Toks) (w : World) : Prop where
  box : ∀ n cs, lk b n = some cs → BoxOK ok ℓ w n cs
  buf : ∀ n tk, lk k n = some tk → tk.isArr = false → BufOK ok ℓ w n tk
  arr : ∀ n tk, lk k n = some tk → tk.isArr = true → ArrOK ok ℓ w n tk
  apart : ∀ n, (lk b n).isSome = true → lk k n = none
  distinct : ∀ n m x, Owns ℓ b k n x → Owns ℓ b k m x → n = m
  alive : ∀ x o, ok x o → x < w.heap.size

theorem lt_of_heap {w : World} {x : Nat} {o : Obj} (h : w.heap[x]? = some o) : x < w.heap.size := (Array.getElem?_eq_some_iff.1 h).1

theorem MemOK.owned_lt {ok ℓ b k w} (h : MemOK ok ℓ b k w) {n x} (ho : Owns ℓ b k n x) : x < w.heap.size := by
  rcases ho with ⟨h1, rfl⟩ | ⟨tk, h1, h2, rfl⟩ | ⟨tk, h1, h2, h3⟩
  · obtain ⟨cs, hcs⟩ := Option.isSome_iff_exists.1 h1
    obtain ⟨vs, T, hh, _⟩ := h.box n cs hcs
    exact lt_of_heap hh
  · obtain ⟨_, _, cs, T, hh, _⟩ := h.arr n tk h1 h2
    exact lt_of_heap hh
  · obtain ⟨_, _, a, cap, hv, hr⟩ := h.buf n tk h1 h2
    rw [hv] at h3
    rcases hr with rfl | ⟨blk, cs, T, rfl, hh, _⟩
    · cases a <;> simp [hblk] at h3
    · simp [hblk] at h3
      obtain ⟨_, rfl⟩ := h3
      exact lt_of_heap hh

/-- What the owned blocks' spare or mutable cells are is not read. -/
theorem MemOK.not_ok_box {ok ℓ b k w} (h : MemOK ok ℓ b k w) {n cs} (hn : lk b n = some cs) (o : Nat) : ¬ ok (ℓ.i n) o := by
  obtain ⟨_, _, _, _, h⟩ := h.box n cs hn
  exact h o

/-- The symbolic state. -/
structure St where
  t : List (Nat × V)
  b : Boxes
  k : Toks

end Go.Vam
