/- The value-level machine, part 6: the table of types held against the program, and the relation between a symbolic state and a frame in a world. Conditions: none. -/
import Derived.Test.YtmliamkbpbdlbaaVamOps
import Derived.Laws.StructEq
import Derived.Laws.Tables
import Derived.Laws.AppendOwn
import Derived.Laws.MakeOwn
import Derived.Laws.Slices
set_option linter.unusedVariables false
set_option linter.unusedSimpArgs false
namespace Go.Vam

/-! ### Types -/
def zc : Value → C → Bool
  | .int k n, .d (.int k' n') => decide (k = k') && decide (n = n')
  | .bool b, .d (.bool b') => b == b'
  | .string s, .d (.str s') => decide (s = s')
  | .slice none 0 0, .nil => true
  | .nilFunc, .d (.raw .nilFunc) => true
  | .pointer none, .d (.raw (.pointer none)) => true
  | _, _ => false

def zcs : List Value → List C → Bool
  | [], [] => true
  | v :: vs, c :: cs => zc v c && zcs vs cs
  | _, _ => false

def descAgg : TypeDesc → Bool
  | .struct _ => true
  | .array _ _ => true
  | _ => false

/-- The zero value's shape. -/
def zshapeB (agg : Bool) : Value → Bool
  | .agg _ => agg
  | .tuple _ => false
  | _ => !agg

/-- A struct's size is as said. -/
def aggSize (P : Program) (t : TypeId) (n : Nat) : Bool :=
  match P.underlying t with
  | some (.struct _) => decide ((P.info? t).map (·.size) = some n)
  | _ => true

def flatFs (P : Program) (g : TypeId → Option (List Bool)) : List Field → Nat → Option (List Bool)
  | [], _ => some []
  | f :: fs, off => if f.name ≠ "_" ∧ f.offset = off then
      match g f.type with
      | some ks => if aggSize P f.type ks.length = true then (flatFs P g fs (off + ks.length)).map (ks ++ ·) else none
      | none => none
    else none

/-- The kinds of the cells (numbers: true, truth values: false) of a type that is compared cell by cell: numbers, truth values, structs of these. -/
def flatT (P : Program) : Nat → TypeId → Option (List Bool)
  | 0 => fun _ => none
  | d + 1 => fun t => match P.underlying t with
    | some (.int _) => some [true]
    | some .bool => some [false]
    | some (.struct fs) => if P.stoodInHeld t = false then flatFs P (flatT P d) fs.toList 0 else none
    | _ => none

def TI.check (P : Program) (t : TypeId) (ti : TI) : Bool :=
  match P.info? t, P.underlying t with
  | some i, some d =>
    decide (i.size = ti.size) && decide (i.bytes = ti.bytes) && (descAgg d == ti.agg) &&
    (match i.zero with
      | some z => zshapeB ti.agg z && zcs z.cells.toList ti.zero && decide (ti.zero.length = ti.size)
      | none => false) &&
    (match d with
      | .struct fs => decide (fs.toList.map (fun f => (f.offset, f.type)) = ti.fields) && fs.toList.all (fun f => (P.info? f.type).isSome)
      | _ => decide (ti.fields = [])) &&
    (match d with
      | .slice e => decide (ti.elem = some e)
      | _ => decide (ti.elem = none)) &&
    (match d with
      | .int k => decide (ti.kind = some k)
      | _ => decide (ti.kind = none)) &&
    (!ti.boo || (match d with | .bool => true | _ => false)) &&
    (decide (ti.flat = []) || (decide (P.eqGuardType P.depth t = false) && decide (flatT P 20 t = some ti.flat) && ti.agg)) &&
    (match d with
      | .array n e => decide (ti.arr = none) || (decide (ti.arr = some e) && (match P.info? e with
        | some ie => decide (ti.size = n * ie.size)
        | none => false))
      | _ => decide (ti.arr = none))
  | _, _ => false

/-- What the check gives. -/
structure TI.Ok (P : Program) (t : TypeId) (ti : TI) (i : TypeInfo) (d : TypeDesc) (z : Value) : Prop where
  info : P.info? t = some i
  und : P.underlying t = some d
  size : i.size = ti.size
  bytes : i.bytes = ti.bytes
  agg : descAgg d = ti.agg
  zero : i.zero = some z
  zshape : zshapeB ti.agg z = true
  zcells : zcs z.cells.toList ti.zero = true
  zlen : ti.zero.length = ti.size
  fields : ti.fields ≠ [] → ∃ fs, d = .struct fs ∧ fs.toList.map (fun f => (f.offset, f.type)) = ti.fields ∧ ∀ f ∈ fs.toList, (P.info? f.type).isSome = true
  elem : ∀ e, ti.elem = some e → d = .slice e
  kind : ∀ k, ti.kind = some k → d = .int k
  boo : ti.boo = true → d = .bool
  arr : ∀ e, ti.arr = some e → ∃ n ie, d = .array n e ∧ P.info? e = some ie ∧ ti.size = n * ie.size
  flat : ti.flat ≠ [] → P.eqGuardType P.depth t = false ∧ flatT P 20 t = some ti.flat ∧ ti.agg = true

theorem TI.ok {P : Program} {t : TypeId} {ti : TI} (h : TI.check P t ti = true) : ∃ i d z, TI.Ok P t ti i d z := by
  unfold TI.check at h
  split at h
  case h_2 => cases h
  rename_i i d hi hd
  simp only [Bool.and_eq_true, decide_eq_true_eq, beq_iff_eq] at h
  obtain ⟨⟨⟨⟨⟨⟨⟨⟨⟨h1, h2⟩, h3⟩, h4⟩, h5⟩, h6⟩, h7⟩, h9⟩, h8⟩, h10⟩ := h
  split at h4
  case h_2 => cases h4
  rename_i z hz
  simp only [Bool.and_eq_true, decide_eq_true_eq] at h4
  refine ⟨i, d, z, hi, hd, h1, h2, h3, hz, h4.1.1, h4.1.2, h4.2, fun hne => ?_, fun e he => ?_, fun k hk => ?_, fun hb => ?_, fun e he => ?_, fun hf => ?_⟩
  · split at h5
    · rename_i fs
      simp only [Bool.and_eq_true, decide_eq_true_eq, List.all_eq_true] at h5
      exact ⟨fs, rfl, h5.1, h5.2⟩
    · simp only [decide_eq_true_eq] at h5
      exact absurd h5 hne
  · split at h6
    · simp only [decide_eq_true_eq] at h6; rw [h6] at he; cases he; rfl
    · simp only [decide_eq_true_eq] at h6; rw [h6] at he; cases he
  · split at h7
    · simp only [decide_eq_true_eq] at h7; rw [h7] at hk; cases hk; rfl
    · simp only [decide_eq_true_eq] at h7; rw [h7] at hk; cases hk
  · rw [hb] at h9
    cases d <;> simp at h9 ⊢
  · split at h10
    · rename_i n e'
      rw [he] at h10
      simp only [Bool.or_eq_true, Bool.and_eq_true, decide_eq_true_eq, reduceCtorEq, false_or, Option.some.injEq] at h10
      obtain ⟨rfl, h11⟩ := h10
      split at h11
      · rename_i ie hie
        exact ⟨n, ie, rfl, hie, of_decide_eq_true h11⟩
      · cases h11
    · simp only [decide_eq_true_eq] at h10; rw [h10] at he; cases he
  · simp only [Bool.or_eq_true, Bool.and_eq_true, decide_eq_true_eq] at h8
    have h8 := h8.resolve_left hf
    exact ⟨h8.1.1, h8.1.2, h8.2⟩

/-- The program's types are as the table says. -/
structure TOk (X : Ctx) : Prop where
  ty : ∀ t ti, X.tt t = some ti → TI.check X.P t ti = true
  call : ∀ f vs b k n e, X.G f vs b k n = some e → n.lv = X.L → e.pre → Spec X.P X.L f vs b k e.r e.b e.k

instance {X : Ctx} : CoeFun (TOk X) (fun _ => ∀ t ti, X.tt t = some ti → TI.check X.P t ti = true) := ⟨fun h => h.ty⟩

theorem zc_rep {v : Value} {c : C} (h : zc v c = true) (ok : Foot) (ℓ : Loc) (w : World) : RC ok ℓ w v c ∧ ∀ n, ¬ c.has n := by
  unfold zc at h
  split at h <;> first
    | cases h; done
    | (simp only [Bool.and_eq_true, decide_eq_true_eq, beq_iff_eq] at h
       first
        | (obtain ⟨rfl, rfl⟩ := h; exact ⟨⟨.int _ _, rfl⟩, fun _ h => h⟩)
        | (subst h; exact ⟨⟨.bool _, rfl⟩, fun _ h => h⟩)
        | (subst h; exact ⟨⟨.str _, rfl⟩, fun _ h => h⟩))
    | exact ⟨⟨_, rfl⟩, fun _ h => h⟩
    | exact ⟨⟨.raw _, rfl⟩, fun _ h => h⟩

theorem zcs_rep (ok : Foot) (ℓ : Loc) (w : World) : ∀ (vs : List Value) (cs : List C), zcs vs cs = true → RCs ok ℓ w vs.toArray cs ∧ ∀ c ∈ cs, ∀ n, ¬ c.has n
  | [], [], _ => ⟨⟨rfl, by simp⟩, by simp⟩
  | [], _ :: _, h => by simp [zcs] at h
  | _ :: _, [], h => by simp [zcs] at h
  | v :: vs, c :: cs, h => by
    simp only [zcs, Bool.and_eq_true] at h
    obtain ⟨h1, h2⟩ := h
    obtain ⟨⟨h3, h4⟩, h5⟩ := zcs_rep ok ℓ w vs cs h2
    obtain ⟨h6, h7⟩ := zc_rep h1 ok ℓ w
    refine ⟨⟨by simpa using h3, fun i u d hu hd => ?_⟩, fun d hd n => ?_⟩
    · cases i with
      | zero => simp at hu hd; subst hu; subst hd; exact h6
      | succ i => simp at hu hd; exact h4 i u d (by simpa using hu) hd
    · rcases List.mem_cons.1 hd with rfl | hd
      · exact h7 n
      · exact h5 d hd n

/-! ### A state, a frame, a world -/
structure Start where
  w : World
  ok : Foot
  ℓ : Loc
  M : Nat → Prop
  H : Name → Prop

structure SimW (X : Ctx) (S : Start) (ok : Foot) (ℓ : Loc) (st : St) (a : Act) (w : World) : Prop where
  defers : a.defers = []
  size : a.tmps.size = X.n
  tmps : ∀ t v, lk st.t t = some v → ∃ u, a.tmps[t]? = some u ∧ RV ok ℓ w u v
  mem : MemOK ok ℓ st.b st.k w
  ext : Ext S.M S.w w
  sub : Chg S.ok ok S.w w
  sup : ∀ x o, ok x o → S.ok x o ∨ S.w.heap.size ≤ x ∨ S.M x
  own : ∀ n x, Owns ℓ st.b st.k n x → S.w.heap.size ≤ x ∨ S.M x
  names : ∀ n, n.lv < X.L → LocAt S.ℓ ℓ n ∧ (¬ S.H n → ℓ.i n = S.ℓ.i n ∧ ℓ.z n = S.ℓ.z n ∧ ℓ.h n = S.ℓ.h n)
  inH : ∀ n, n.lv < X.L → (lk st.b n).isSome = true ∨ (lk st.k n).isSome = true → S.H n

def Sim (X : Ctx) (S : Start) (st : St) (a : Act) (w : World) : Prop := ∃ ok ℓ, SimW X S ok ℓ st a w

/-- Nothing in the state bears the name. -/
structure St.Free (st : St) (n : Name) : Prop where
  t : ∀ t v, lk st.t t = some v → ¬ v.has n
  m : Fresh st.b st.k n

theorem SimW.eval {X S ok ℓ st a w} (h : SimW X S ok ℓ st a w) {t : Nat} {v : V} (hv : lk st.t t = some v) : RV ok ℓ w (a.eval (.tmp t)) v := by
  obtain ⟨u, hu, hr⟩ := h.tmps t v hv
  have : a.eval (.tmp t) = u := by simp [Act.eval, hu]
  rw [this]; exact hr

/-- The memory and the world go on; the frame stays. -/
theorem SimW.move {X S ok ok' ℓ ℓ' st a w w'} (h : SimW X S ok ℓ st a w) {b' : Boxes} {k' : Toks} (hc : Chg ok ok' w w')
    (hl : ∀ t v, lk st.t t = some v → ∀ n, v.has n → LocAt ℓ ℓ' n) (hm : MemOK ok' ℓ' b' k' w')
    (he : w'.os = w.os ∧ w'.tape = w.tape ∧ w'.output = w.output ∧ w.heap.size ≤ w'.heap.size) (hb : ∀ i, i < S.w.heap.size → ¬ S.M i → w'.heap[i]? = w.heap[i]?)
    (hsup : ∀ x o, ok' x o → ok x o ∨ S.w.heap.size ≤ x ∨ S.M x) (hown : ∀ n x, Owns ℓ' b' k' n x → S.w.heap.size ≤ x ∨ S.M x)
    (hn : ∀ n, n.lv < X.L → LocAt ℓ ℓ' n ∧ (¬ S.H n → ℓ'.i n = ℓ.i n ∧ ℓ'.z n = ℓ.z n ∧ ℓ'.h n = ℓ.h n))
    (hH : ∀ n, n.lv < X.L → (lk b' n).isSome = true ∨ (lk k' n).isSome = true → S.H n) : SimW X S ok' ℓ' ⟨st.t, b', k'⟩ a w' where
  defers := h.defers
  size := h.size
  tmps t v hv := let ⟨u, hu, hr⟩ := h.tmps t v hv; ⟨u, hu, hr.chg hc (hl t v hv)⟩
  mem := hm
  ext := ⟨he.1.trans h.ext.os, he.2.1.trans h.ext.tape, he.2.2.1.trans h.ext.output, Nat.le_trans h.ext.size he.2.2.2, fun i hi hn => (hb i hi hn).trans (h.ext.block i hi hn)⟩
  sub := h.sub.trans hc
  sup x o hx := (hsup x o hx).elim (h.sup x o) (fun h => .inr h)
  own := hown
  names n hlt := by
    obtain ⟨h1, h2⟩ := h.names n hlt
    obtain ⟨h3, h4⟩ := hn n hlt
    exact ⟨h1.trans h3, fun hH => ⟨(h4 hH).1.trans (h2 hH).1, (h4 hH).2.1.trans (h2 hH).2.1, (h4 hH).2.2.trans (h2 hH).2.2⟩⟩
  inH := hH

/-- The result goes into its slot. -/
theorem SimW.put {X S ok ℓ st a w} (h : SimW X S ok ℓ st a w) {u : Value} {v : V} {d : Nat} (hd : d < X.n) (hr : RV ok ℓ w u v) : SimW X S ok ℓ ⟨(d, v) :: st.t, st.b, st.k⟩ (a.put (some d) u) w where
  defers := h.defers
  size := by simp [Act.put, h.size]
  tmps t v' hv := by
    have hds : d < a.tmps.size := by rw [h.size]; exact hd
    by_cases e : d = t
    · subst e
      rw [lk_cons_same] at hv
      cases hv
      exact ⟨u, by simp [Act.put, hds], hr⟩
    · rw [lk_cons_ne _ _ e] at hv
      obtain ⟨u', hu', hr'⟩ := h.tmps t v' hv
      exact ⟨u', by simp [Act.put, Array.getElem?_setIfInBounds_ne e, hu'], hr'⟩
  mem := h.mem
  ext := h.ext
  sub := h.sub
  sup := h.sup
  own := h.own
  names := h.names
  inH := h.inH

/-- Known: what the result is; the state behind it. -/
theorem Sim.fin {X S ok ℓ st a w} (h : SimW X S ok ℓ st a w) {u : Value} {v : V} {dst : Option Nat} (hd : ∀ d, dst = some d → d < X.n) {gd : Option Bool} (hg : gd.getD true = true) (hr : dst.isSome = true → RV ok ℓ w u v) :
    Sim X S ⟨putT dst gd v st.t, st.b, st.k⟩ (a.put dst u) w := by
  cases dst with
  | none => cases gd <;> exact ⟨ok, ℓ, h⟩
  | some d =>
    cases gd with
    | none => exact ⟨ok, ℓ, h.put (hd d rfl) (hr rfl)⟩
    | some γ => exact ⟨ok, ℓ, h.put (v := .g γ v) (hd d rfl) ⟨fun _ => hr rfl, fun e => by rw [e] at hg; cases hg⟩⟩

theorem toV_rep {ok ℓ w u y} (h : Rep ok w u y) (hy : y.okV = true) : RV ok ℓ w u y.toV := by
  cases y with
  | agg cs =>
    obtain ⟨zs, hz, h5, h6, h7⟩ := h.agg_inv
    refine ⟨zs, hz, by simpa using h5, fun j u c hu' hc => ?_⟩
    simp only [List.getElem?_map, Option.map_eq_some_iff] at hc
    obtain ⟨y, hy, rfl⟩ := hc
    exact ⟨h7 j u y hu' hy, h6 y (List.mem_of_getElem? hy)⟩
  | tup ds => exact h
  | int k n => exact ⟨h, rfl⟩
  | bool b => exact ⟨h, rfl⟩
  | str s => exact ⟨h, rfl⟩
  | list l => exact ⟨h, rfl⟩
  | raw v => exact ⟨h, hy⟩

end Go.Vam
