/- The value-level machine, part 26: what a law is handed, of any type of numbers, truth values, strings, structs and slices of such, reads as data. Conditions: none. -/
import Derived.Test.YtmliamkbpbdlbaaVamArg
import Derived.ChangeArms
import Derived.ChangeSlices
import Derived.OpenShut
import Derived.ChangeOld
set_option linter.unusedVariables false
set_option linter.unusedSimpArgs false
namespace Go.Vam

/-- Shapes of cells. -/
inductive Sh where
  | int (k : IntKind)
  | bool
  | str
  | sl (agg : Bool) (fs : List Sh)

mutual
def Fits : Sh → D → Prop
  | .int k, d => ∃ n, d = .int k n ∧ (Lit.int k n).wf = true
  | .bool, d => ∃ b, d = .bool b
  | .str, d => ∃ s, d = .str s
  | .sl agg fs, d => ∃ l, d = .list l ∧ ∀ x ∈ l, ∃ cs, FitsL fs cs ∧ x = bif agg then .agg cs else cs.headD (.agg [])
def FitsL : List Sh → List D → Prop
  | [], ds => ds = []
  | s :: ss, ds => ∃ e es, ds = e :: es ∧ Fits s e ∧ FitsL ss es
end

theorem FitsL.len : ∀ (ss : List Sh) (ds : List D), FitsL ss ds → ds.length = ss.length
  | [], ds, h => by simp only [FitsL] at h; subst h; rfl
  | s :: ss, ds, h => by
    simp only [FitsL] at h
    obtain ⟨e, es, rfl, _, h⟩ := h
    simp [FitsL.len ss es h]

theorem FitsL.append : ∀ (ss tt : List Sh) (ds es : List D), FitsL ss ds → FitsL tt es → FitsL (ss ++ tt) (ds ++ es)
  | [], tt, ds, es, h, h' => by simp only [FitsL] at h; subst h; exact h'
  | s :: ss, tt, ds, es, h, h' => by
    simp only [FitsL] at h
    obtain ⟨e, es', rfl, h1, h2⟩ := h
    simp only [List.cons_append, FitsL]
    exact ⟨e, _, rfl, h1, FitsL.append ss tt es' es h2 h'⟩

def cat (P : Program) (g : TypeId → Option (List Sh)) : List Field → Nat → Option (List Sh)
  | [], _ => some []
  | f :: fs, off => if f.offset = off then (g f.type).bind fun a => if a.length = P.cellsOf f.type then (cat P g fs (off + a.length)).map (a ++ ·) else none else none

def isStr (P : Program) (t : TypeId) : Bool := match P.underlying t with
  | some (.struct _) => true
  | _ => false

/-- The shape of a type. -/
def shT (P : Program) : Nat → TypeId → Option (List Sh)
  | 0, _ => none
  | n + 1, t => match P.underlying t with
    | some .bool => some [.bool]
    | some (.int k) => some [.int k]
    | some .string => some [.str]
    | some (.slice e) => (shT P n e).bind fun fs => if fs.length = P.cellsOf e ∧ 0 < fs.length ∧ (isStr P e = true ∨ fs.length = 1) then some [.sl (isStr P e) fs] else none
    | some (.struct fs) => (cat P (shT P n) fs.toList 0).bind fun ss => if ss.length = P.cellsOf t then some ss else none
    | _ => none

theorem list_of_each {α : Type} {R : Nat → α → Prop} : ∀ n : Nat, (∀ i, i < n → ∃ p, R i p) → ∃ l : List α, l.length = n ∧ ∀ i p, l[i]? = some p → R i p
  | 0, _ => ⟨[], rfl, by simp⟩
  | n + 1, h => by
    obtain ⟨l, h1, h2⟩ := list_of_each n (fun i hi => h i (by omega))
    obtain ⟨p, hp⟩ := h n (by omega)
    refine ⟨l ++ [p], by simp [h1], fun i q hq => ?_⟩
    by_cases hi : i < n
    · rw [List.getElem?_append_left (by omega)] at hq; exact h2 i q hq
    · have hl := (List.getElem?_eq_some_iff.1 hq).1
      simp [h1] at hl
      have : i = n := by omega
      subst this
      rw [List.getElem?_append_right (by omega)] at hq
      simp [h1] at hq
      subst hq; exact hp

/-- The cells read as the data. -/
def Reads (w : World) (cs : List Value) (ds : List D) : Prop :=
  ds.length = cs.length ∧ ∀ (i : Nat) u y, cs[i]? = some u → ds[i]? = some y → y.sc = true ∧ Rep (fun x _ => x < w.heap.size) w u y

theorem reads_one {w : World} {u : Value} {y : D} (hs : y.sc = true) (h : Rep (fun x _ => x < w.heap.size) w u y) : Reads w [u] [y] := by
  refine ⟨rfl, fun i u' y' hu hy => ?_⟩
  cases i with
  | zero => simp at hu hy; subst hu; subst hy; exact ⟨hs, h⟩
  | succ i => simp at hu

section
variable {H : Type} {enc : TypeId × Value → H} {P : Program} {w : World} {base : Nat} {spare : Nat → Bool} {held : Bool}

theorem cat_reads {fuel n : Nat} {cs : List Value}
    (ih : ∀ (t : TypeId) (cs : List Value) (x : DataW H × List MemPlace) (ss : List Sh), DataW.trod enc P w base spare held fuel t cs = some x → shT P n t = some ss → ∃ ds, FitsL ss ds ∧ Reads w cs ds) :
    ∀ (l : List Field) (off : Nat) (ss : List Sh), cat P (shT P n) l off = some ss → (∀ f ∈ l, ∃ y, DataW.trod enc P w base spare held fuel f.type ((cs.drop f.offset).take (P.cellsOf f.type)) = some y) →
      ∃ ds, FitsL ss ds ∧ ∀ (i : Nat) u y, cs[off + i]? = some u → ds[i]? = some y → y.sc = true ∧ Rep (fun x _ => x < w.heap.size) w u y
  | [], off, ss, h, _ => by
    simp only [cat, Option.some.injEq] at h
    subst h
    exact ⟨[], by simp only [FitsL], by simp⟩
  | f :: l, off, ss, h, hf => by
    simp only [cat] at h
    split at h
    case isFalse => cases h
    rename_i hoff
    simp only [Option.bind_eq_some_iff] at h
    obtain ⟨a, ha, h⟩ := h
    split at h
    case isFalse => cases h
    rename_i hlen
    simp only [Option.map_eq_some_iff] at h
    obtain ⟨b, hb, rfl⟩ := h
    obtain ⟨y, hy⟩ := hf f (by simp)
    obtain ⟨ds, h1, h2⟩ := ih _ _ _ _ hy ha
    obtain ⟨es, h3, h4⟩ := cat_reads ih l _ b hb (fun g hg => hf g (by simp [hg]))
    have hdl := FitsL.len _ _ h1
    refine ⟨ds ++ es, FitsL.append _ _ _ _ h1 h3, fun i u z hu hz => ?_⟩
    by_cases hi : i < ds.length
    · rw [List.getElem?_append_left hi] at hz
      refine h2.2 i u z ?_ hz
      rw [List.getElem?_take_of_lt (by omega), List.getElem?_drop, hoff]
      exact hu
    · rw [List.getElem?_append_right (by omega)] at hz
      refine h4 (i - ds.length) u z ?_ hz
      rw [show off + a.length + (i - ds.length) = off + i by omega]
      exact hu

theorem trod_reads : ∀ (fuel n : Nat) (t : TypeId) (cs : List Value) (x : DataW H × List MemPlace) (ss : List Sh), DataW.trod enc P w base spare held fuel t cs = some x → shT P n t = some ss → ∃ ds, FitsL ss ds ∧ Reads w cs ds := by
  intro fuel
  induction fuel with
  | zero => intro n t cs x ss h; simp [DataW.trod] at h
  | succ fuel ih =>
    intro n t cs x ss h hs
    cases n with
    | zero => cases hs
    | succ n =>
    simp only [shT] at hs
    split at hs
    · rename_i ht
      simp only [Option.some.injEq] at hs
      subst hs
      obtain ⟨b, rfl, _⟩ := DataW.trod_bool ht h
      exact ⟨[.bool b], by simp [FitsL, Fits], reads_one rfl (.bool b)⟩
    · rename_i k ht
      simp only [Option.some.injEq] at hs
      subst hs
      obtain ⟨m, rfl, _, hw⟩ := DataW.trod_int ht h
      exact ⟨[.int k m], by simp only [FitsL, Fits]; exact ⟨_, _, rfl, ⟨m, rfl, hw⟩, rfl⟩, reads_one rfl (.int k m)⟩
    · rename_i ht
      simp only [Option.some.injEq] at hs
      subst hs
      obtain ⟨s, rfl, _, _⟩ := DataW.trod_string ht h
      exact ⟨[.str s], by simp [FitsL, Fits], reads_one rfl (.str s)⟩
    · rename_i e ht
      simp only [Option.bind_eq_some_iff] at hs
      obtain ⟨fs, hfs, hs⟩ := hs
      split at hs
      case isFalse => cases hs
      rename_i hc
      obtain ⟨hc1, hc2, hc3⟩ := hc
      simp only [Option.some.injEq] at hs
      subst hs
      have hnil : ∃ ds, FitsL [Sh.sl (isStr P e) fs] ds ∧ ∀ a cap, Reads w [.slice a 0 cap] ds := by
        refine ⟨[.list []], ?_, fun a cap => reads_one rfl (.nil a cap)⟩
        simp only [FitsL, Fits]
        exact ⟨_, _, rfl, ⟨[], rfl, by simp⟩, rfl⟩
      rcases DataW.trod_slice ht h with ⟨rfl, _⟩ | ⟨a, len, cap, elems, rest, n', hn', rfl, rfl, hb, hl, hm, hlen, hel, hsp, hns⟩
      · obtain ⟨ds, h1, h2⟩ := hnil; exact ⟨ds, h1, h2 _ _⟩
      · by_cases h0 : len = 0
        · subst h0; obtain ⟨ds, h1, h2⟩ := hnil; exact ⟨ds, h1, h2 _ _⟩
        · have hnn : n' = fuel := by omega
          subst hnn
          have each : ∀ i, i < len → ∃ p : List Value × List D, w.cells? base (a.add (i * P.cellsOf e)) (P.cellsOf e) = some p.1 ∧ FitsL fs p.2 ∧ Reads w p.1 p.2 := by
            intro i hi
            have h1 := hel i hi
            rw [List.getElem?_eq_getElem (by omega)] at h1
            simp only [Option.bind_eq_some_iff] at h1
            obtain ⟨us, h2, h3⟩ := h1
            obtain ⟨ds, h4, h5⟩ := ih _ _ _ _ _ h3 hfs
            exact ⟨(us, ds), h2, h4, h5⟩
          obtain ⟨l, hll, hle⟩ := list_of_each len each
          -- the first cell tells that the address is plain
          have hsp0 : a.spot = none := by
            have hp : l[0]? = some l[0] := List.getElem?_eq_getElem (by omega)
            obtain ⟨h1, _, _⟩ := hle 0 _ hp
            obtain ⟨_, h2, h3⟩ := World.cells?_some h1
            have h4 := h3 0 (by omega)
            rw [List.getElem?_eq_getElem (by omega)] at h4
            have := spot_none h4
            simpa [Addr.add] using this
          obtain ⟨blk, o, sp⟩ := a
          simp only at hsp0
          subst hsp0
          have hcell : ∀ (i : Nat) (p : List Value × List D) (j : Nat) (u : Value), l[i]? = some p → p.1[j]? = some u → w.cell? ⟨blk, o + i * P.cellsOf e + j, none⟩ = some u := by
            intro i p j u hp hu
            obtain ⟨h1, _, _⟩ := hle i p hp
            obtain ⟨_, h2, h3⟩ := World.cells?_some h1
            have hj : j < P.cellsOf e := by rw [← h2]; exact (List.getElem?_eq_some_iff.1 hu).1
            have h4 := h3 j hj
            rw [hu] at h4
            rw [← h4]
            congr 1
            unfold Addr.add
            split <;> split <;> simp_all <;> omega
          let f : List Value × List D → D := fun p => bif isStr P e then .agg p.2 else p.2.headD (.agg [])
          have hcells : ∀ (i : Nat) (p : List Value × List D), l[i]? = some p → (f p).cells = p.2 := by
            intro i p hp
            obtain ⟨_, h1, h2⟩ := hle i p hp
            simp only [f]
            cases hstr : isStr P e with
            | true => rfl
            | false =>
              have h3 : fs.length = 1 := by rcases hc3 with h | h; · rw [hstr] at h; cases h
                                            · exact h
              have h4 := FitsL.len _ _ h1
              obtain ⟨us, ds⟩ := p
              match ds, h4 with
              | [d], _ =>
                have h5 : us.length = 1 := by have := h2.1; simpa using this.symm
                match us, h5 with
                | [u], _ =>
                  have := (h2.2 0 u d (by simp) (by simp)).1
                  simp only [cond_false, List.headD_cons]
                  cases d <;> simp_all [D.sc, D.cells]
              | [], h4 => simp at h4; omega
              | _ :: _ :: _, h4 => simp at h4; omega
          refine ⟨[.list (l.map f)], ?_, reads_one rfl ?_⟩
          · simp only [FitsL, Fits]
            refine ⟨_, _, rfl, ⟨_, rfl, fun x hx => ?_⟩, rfl⟩
            obtain ⟨p, hp, rfl⟩ := List.mem_map.1 hx
            obtain ⟨i, hi⟩ := List.getElem?_of_mem hp
            exact ⟨p.2, (hle i p hi).2.1, rfl⟩
          · have := Rep.list (ok := fun x _ => x < w.heap.size) (w := w) blk o cap (P.cellsOf e) (l.map f) (fun i j => ((l[i]?).bind fun p => p.1[j]?).getD undef) (by simp [hll]; exact hl) (fun x hx => ?_) (fun i x j y hx hy => ?_) (fun i x j y hx hy => ?_)
            · rw [List.length_map, hll] at this; exact this
            · obtain ⟨p, hp, rfl⟩ := List.mem_map.1 hx
              obtain ⟨i, hi⟩ := List.getElem?_of_mem hp
              rw [hcells i p hi, FitsL.len _ _ (hle i p hi).2.1, hc1]
            all_goals
              simp only [List.getElem?_map, Option.map_eq_some_iff] at hx
              obtain ⟨p, hp, rfl⟩ := hx
              rw [hcells i p hp] at hy
              obtain ⟨h1, h2, h3⟩ := hle i p hp
              have hjl : j < p.1.length := by rw [← h3.1]; exact (List.getElem?_eq_some_iff.1 hy).1
              have hu : p.1[j]? = some p.1[j] := List.getElem?_eq_getElem hjl
              have hval : ((l[i]?).bind fun p => p.1[j]?).getD undef = p.1[j] := by rw [hp]; simp [hu]
              obtain ⟨h4, h5⟩ := h3.2 j _ y hu hy
            · have hc := hcell i p j _ hp hu
              refine ⟨h4, ?_, ?_⟩
              · unfold World.cell? at hc
                split at hc
                · rename_i hh; exact lt_of_heap hh
                · cases hc
              · rw [hc]; exact congrArg some hval.symm
            · rw [hval]; exact h5
    · rename_i fs ht
      simp only [Option.bind_eq_some_iff] at hs
      obtain ⟨ss', hss, hs⟩ := hs
      split at hs
      case isFalse => cases hs
      rename_i hlen
      simp only [Option.some.injEq] at hs
      subst hs
      obtain ⟨xs, n', hn', _, hcs, hxl, hf⟩ := DataW.trod_struct ht h
      have hnn : n' = fuel := by omega
      subst hnn
      obtain ⟨ds, h1, h2⟩ := cat_reads (cs := cs) (ih n) fs.toList 0 ss' hss (fun f hf' => by
        obtain ⟨i, hi⟩ := List.getElem?_of_mem hf'
        have hi' : fs[i]? = some f := by simpa using hi
        have := hf i f hi'
        have hil : i < xs.length := by rw [hxl]; exact (Array.getElem?_eq_some_iff.1 hi').1
        rw [List.getElem?_eq_getElem hil] at this
        exact ⟨_, this⟩)
      refine ⟨ds, h1, ?_, fun i u y hu hy => h2 i u y (by rw [Nat.zero_add]; exact hu) hy⟩
      rw [FitsL.len _ _ h1, hlen, hcs]
    · cases hs

/-- A struct that is handed over. -/
theorem rv_struct {ℓ : Loc} {t : TypeId} {cs : Array Value} {d : DataW H} {ps : List MemPlace} (n : Nat) {ss : List Sh} (h : DataW.Trod enc P w base spare held t (.agg cs) d ps) (hs : shT P n t = some ss) :
    ∃ ds, FitsL ss ds ∧ RV (fun x _ => x < w.heap.size) ℓ w (.agg cs) (.agg (ds.map .d)) := by
  obtain ⟨fuel, h⟩ := h
  obtain ⟨ds, h1, h2⟩ := trod_reads fuel n t _ _ _ h hs
  refine ⟨ds, h1, cs, rfl, by have := h2.1; simp [Value.cells] at this; simpa using this.symm, fun i u c hu hc => ?_⟩
  simp only [List.getElem?_map, Option.map_eq_some_iff] at hc
  obtain ⟨y, hy, rfl⟩ := hc
  have := h2.2 i u y (by simpa [Value.cells] using hu) hy
  exact ⟨this.2, this.1⟩
/-- One cell that is handed over. -/
theorem rv_cell {ℓ : Loc} {t : TypeId} {v : Value} {d : DataW H} {ps : List MemPlace} (n : Nat) {s : Sh} (h : DataW.Trod enc P w base spare held t v d ps) (hv : v.cells = #[v]) (hs : shT P n t = some [s]) :
    ∃ x, Fits s x ∧ RV (fun x _ => x < w.heap.size) ℓ w v (.c (.d x)) := by
  obtain ⟨fuel, h⟩ := h
  rw [hv] at h
  obtain ⟨ds, h1, h2⟩ := trod_reads fuel n t _ _ _ h hs
  simp only [FitsL] at h1
  obtain ⟨e, es, rfl, h3, rfl⟩ := h1
  have := h2.2 0 v e (by simp) (by simp)
  exact ⟨e, h3, this.2, this.1⟩
end

theorem fits_ints {k : IntKind} {x : D} (h : Fits (.sl false [.int k]) x) : ∃ l : List Int, x = .list (LI k l) ∧ ∀ n ∈ l, (Lit.int k n).wf = true := by
  simp only [Fits] at h
  obtain ⟨l, rfl, h⟩ := h
  have h' : ∀ x ∈ l, ∃ n, x = .int k n ∧ (Lit.int k n).wf = true := by
    intro x hx
    obtain ⟨cs, h1, h2⟩ := h x hx
    simp only [FitsL, Fits] at h1
    obtain ⟨e, es, rfl, ⟨n, rfl, hw⟩, rfl⟩ := h1
    exact ⟨n, by simpa using h2, hw⟩
  clear h
  refine ⟨ints l, ?_, fun n hn => ?_⟩
  · congr 1
    simp only [LI, ints, List.map_map]
    conv => lhs; rw [← List.map_id l]
    apply List.map_congr_left
    intro x hx
    obtain ⟨n, rfl, _⟩ := h' x hx
    rfl
  · simp only [ints, List.mem_map] at hn
    obtain ⟨x, hx, rfl⟩ := hn
    obtain ⟨n, rfl, hw⟩ := h' x hx
    exact hw

theorem fitsL_cons {s : Sh} {ss : List Sh} {ds : List D} (h : FitsL (s :: ss) ds) : ∃ e es, ds = e :: es ∧ Fits s e ∧ FitsL ss es := by
  simpa only [FitsL] using h
theorem fitsL_nil {ds : List D} (h : FitsL [] ds) : ds = [] := by
  simpa only [FitsL] using h
theorem fits_int {k : IntKind} {x : D} (h : Fits (.int k) x) : ∃ n, x = .int k n ∧ (Lit.int k n).wf = true := by
  simpa only [Fits] using h
theorem fits_bool {x : D} (h : Fits .bool x) : ∃ b, x = .bool b := by
  simpa only [Fits] using h

end Go.Vam
