/- The value-level machine, part 16: a region whose order is drawn: without a race every order comes to one state. Conditions: none. -/
import Derived.Test.YtmliamkbpbdlbaaVamRegion
set_option linter.unusedVariables false
set_option linter.unusedSimpArgs false
namespace Go.Vam

/-- What an operation did, in the order of the text. -/
structure Rec where
  dst : Option Nat
  R : List Key
  gd : Option Bool
  r : Out

/-- Its written keys. -/
def Rec.W (c : Rec) : List Key := (c.dst.map Key.t).toList ++ c.r.b.map (fun p => Key.b p.1) ++ c.r.k.map (fun p => Key.k p.1)
/-- The names that it makes or mentions. -/
def Rec.nms (c : Rec) : List Name := c.r.v.nms ++ c.r.b.flatMap (fun p => p.1 :: p.2.flatMap C.nms) ++ c.r.k.map (·.1)

def Rec.app (c : Rec) (st : St) : St := st.apply c.dst c.gd c.r

/-- The value of a key. -/
inductive KV where
  | t (v : Option V)
  | b (v : Option (List C))
  | k (v : Option Tok)
def St.at (st : St) : Key → KV
  | .t n => .t (lk st.t n)
  | .b n => .b (lk st.b n)
  | .k n => .k (lk st.k n)

theorem lk_map_none {α : Type} (l : List (Name × α)) (n : Name) (f : Name → Key) (hf : ∀ a b, f a = f b → a = b) (h : f n ∉ l.map fun p => f p.1) : lk l n = none := by
  refine lk_none l n (fun p hp e => h (List.mem_map.2 ⟨p, hp, by rw [e]⟩))

theorem lk_map_some {α : Type} (l : List (Name × α)) (n : Name) (f : Name → Key) (hf : ∀ a b, f a = f b → a = b) (h : f n ∈ l.map fun p => f p.1) : (lk l n).isSome = true := by
  induction l with
  | nil => simp at h
  | cons p l ih =>
    obtain ⟨k, v⟩ := p
    by_cases e : k = n
    · subst e; simp [lk]
    · rw [lk_cons_ne _ _ e]
      simp only [List.map_cons, List.mem_cons] at h
      rcases h with h | h
      · exact absurd (hf _ _ h).symm e
      · exact ih h

/-- A key that is not written stays. -/
theorem Rec.app_out (c : Rec) (st : St) {x : Key} (h : x ∉ c.W) : (c.app st).at x = st.at x := by
  unfold Rec.W at h
  simp only [List.mem_append, not_or] at h
  cases x with
  | t n =>
    simp only [St.at, Rec.app, St.apply]
    congr 1
    unfold putT
    have h1 := h.1.1
    cases hd : c.dst with
    | none => cases c.gd <;> rfl
    | some d =>
      rw [hd] at h1
      have hne : d ≠ n := fun e => by simp [e] at h1
      cases c.gd <;> simp only [lk_cons_ne _ _ hne]
  | b n =>
    simp only [St.at, Rec.app, St.apply, lk_append]
    rw [lk_map_none c.r.b n Key.b (fun a b e => by cases e; rfl) h.1.2]; rfl
  | k n =>
    simp only [St.at, Rec.app, St.apply, lk_append]
    rw [lk_map_none c.r.k n Key.k (fun a b e => by cases e; rfl) h.2]; rfl

/-- A key that is written is what was written. -/
theorem Rec.app_in (c : Rec) (st st' : St) {x : Key} (h : x ∈ c.W) : (c.app st).at x = (c.app st').at x := by
  unfold Rec.W at h
  simp only [List.mem_append] at h
  cases x with
  | t n =>
    simp only [St.at, Rec.app, St.apply]
    have h1 : Key.t n ∈ (c.dst.map Key.t).toList := by
      rcases h with (h | h) | h
      · exact h
      · simp at h
      · simp at h
    cases hd : c.dst with
    | none => rw [hd] at h1; simp at h1
    | some d =>
      rw [hd] at h1
      simp at h1
      subst h1
      cases c.gd <;> simp [putT, lk_cons_same]
  | b n =>
    have h1 : Key.b n ∈ c.r.b.map fun p => Key.b p.1 := by
      rcases h with (h | h) | h
      · cases hd : c.dst <;> rw [hd] at h <;> simp at h
      · exact h
      · simp at h
    have := lk_map_some c.r.b n Key.b (fun a b e => by cases e; rfl) h1
    obtain ⟨v, hv⟩ := Option.isSome_iff_exists.1 this
    simp only [St.at, Rec.app, St.apply, lk_append, hv]; rfl
  | k n =>
    have h1 : Key.k n ∈ c.r.k.map fun p => Key.k p.1 := by
      rcases h with (h | h) | h
      · cases hd : c.dst <;> rw [hd] at h <;> simp at h
      · simp at h
      · exact h
    have := lk_map_some c.r.k n Key.k (fun a b e => by cases e; rfl) h1
    obtain ⟨v, hv⟩ := Option.isSome_iff_exists.1 this
    simp only [St.at, Rec.app, St.apply, lk_append, hv]; rfl

theorem Rec.app_congr (c : Rec) {st st' : St} {x : Key} (h : st.at x = st'.at x) : (c.app st).at x = (c.app st').at x := by
  by_cases hx : x ∈ c.W
  · exact c.app_in st st' hx
  · rw [c.app_out st hx, c.app_out st' hx, h]

theorem St.at_eqv {st st' : St} (h : ∀ x, st'.at x = st.at x) : st.Eqv st' where
  t n := by have := h (.t n); simpa [St.at] using this
  b n := by have := h (.b n); simpa [St.at] using this
  k n := by have := h (.k n); simpa [St.at] using this

/-- Some of the operations, in the order of the text. -/
def foldS (S : Nat → Bool) : List Rec → Nat → St → St
  | [], _, st => st
  | c :: cs, i, st => foldS S cs (i + 1) (if S i = true then c.app st else st)

theorem foldS_agree (S T : Nat → Bool) (x : Key) : ∀ (cs : List Rec) (i : Nat) (st st' : St), (∀ j c, cs[j]? = some c → x ∈ c.W → S (i + j) = T (i + j)) → st.at x = st'.at x → (foldS S cs i st).at x = (foldS T cs i st').at x
  | [], _, _, _, _, h => h
  | c :: cs, i, st, st', hall, h => by
    simp only [foldS]
    refine foldS_agree S T x cs (i + 1) _ _ (fun j c' hj hx => ?_) ?_
    · have := hall (j + 1) c' (by simpa using hj) hx
      rwa [show i + (j + 1) = i + 1 + j by omega] at this
    · by_cases hx : x ∈ c.W
      · have e := hall 0 c (by simp) hx
        simp only [Nat.add_zero] at e
        rw [e]
        cases T i with
        | true => simp only [if_true]; exact c.app_in _ _ hx
        | false => simpa using h
      · have e1 : (if S i = true then c.app st else st).at x = st.at x := by
          split
          · exact c.app_out st hx
          · rfl
        have e2 : (if T i = true then c.app st' else st').at x = st'.at x := by
          split
          · exact c.app_out st' hx
          · rfl
        rw [e1, e2, h]

/-- The last writer. -/
theorem foldS_last (S : Nat → Bool) (x : Key) (stx : St) : ∀ (cs : List Rec) (i : Nat) (st : St) (p : Nat) (c : Rec), cs[p]? = some c → x ∈ c.W → S (i + p) = true → (∀ j c', cs[j]? = some c' → p < j → x ∈ c'.W → S (i + j) = false) →
    (foldS S cs i st).at x = (c.app stx).at x
  | [], _, _, p, c, h, _, _, _ => by simp at h
  | c' :: cs, i, st, 0, c, h, hx, hS, hall => by
    simp only [List.getElem?_cons_zero, Option.some.injEq] at h
    subst h
    simp only [foldS]
    simp only [Nat.add_zero] at hS
    rw [if_pos hS]
    have : (foldS S cs (i + 1) (c'.app st)).at x = (foldS (fun _ => false) cs (i + 1) (c'.app st)).at x := by
      refine foldS_agree _ _ x cs (i + 1) _ _ (fun j c'' hj hx' => ?_) rfl
      have := hall (j + 1) c'' (by simpa using hj) (by omega) hx'
      rwa [show i + (j + 1) = i + 1 + j by omega] at this
    rw [this]
    have hz : ∀ (cs : List Rec) (i : Nat) (st : St), foldS (fun _ => false) cs i st = st := by
      intro cs
      induction cs with
      | nil => intro i st; rfl
      | cons c cs ih => intro i st; simp only [foldS]; rw [ih]; simp
    rw [hz]
    exact c'.app_in _ _ hx
  | c' :: cs, i, st, p + 1, c, h, hx, hS, hall => by
    simp only [List.getElem?_cons_succ] at h
    simp only [foldS]
    refine foldS_last S x stx cs (i + 1) _ p c h hx (by rwa [show i + (p + 1) = i + 1 + p by omega] at hS) (fun j c'' hj hp hx' => ?_)
    have := hall (j + 1) c'' (by simpa using hj) (by omega) hx'
    rwa [show i + (j + 1) = i + 1 + j by omega] at this

/-- Where a value comes from. -/
theorem foldS_src (S : Nat → Bool) (x : Key) : ∀ (cs : List Rec) (i : Nat) (st : St), (foldS S cs i st).at x = st.at x ∨ ∃ j c st', cs[j]? = some c ∧ S (i + j) = true ∧ x ∈ c.W ∧ (foldS S cs i st).at x = (c.app st').at x
  | [], _, st => .inl rfl
  | c :: cs, i, st => by
    simp only [foldS]
    rcases foldS_src S x cs (i + 1) (if S i = true then c.app st else st) with h | ⟨j, c', st', h1, h2, h3, h4⟩
    · rw [h]
      by_cases hS : S i = true
      · rw [if_pos hS]
        by_cases hx : x ∈ c.W
        · exact .inr ⟨0, c, st, by simp, by simpa using hS, hx, rfl⟩
        · exact .inl (c.app_out st hx)
      · rw [if_neg hS]; exact .inl rfl
    · exact .inr ⟨j + 1, c', st', by simpa using h1, by rwa [show i + (j + 1) = i + 1 + j by omega], h3, h4⟩

/-! ### The order that the edges force -/
def preds (o : Oper) : List Nat := (o.after.toList.filter (Region.binds .any)).map (·.on)

/-- For each operation all that must stand before it. -/
def clos : List Oper → List (List Nat) → List (List Nat)
  | [], acc => acc
  | o :: l, acc => clos l (acc ++ [((preds o) ++ (preds o).flatMap fun p => acc.getD p []).eraseDups])

inductive Prec (ops : Array Oper) : Nat → Nat → Prop
  | edge {i j o} : ops[i]? = some o → j ∈ preds o → Prec ops j i
  | trans {i j k} : Prec ops j k → Prec ops k i → Prec ops j i

theorem clos_ok (ops : Array Oper) : ∀ (l : List Oper) (acc : List (List Nat)), ops.toList = ops.toList.take acc.length ++ l → acc.length ≤ ops.size → (∀ i c, acc[i]? = some c → ∀ j ∈ c, Prec ops j i) →
    ∀ i c, (clos l acc)[i]? = some c → ∀ j ∈ c, Prec ops j i
  | [], acc, _, _, h => h
  | o :: l, acc, hl, hle, h => by
    simp only [clos]
    have hlen : acc.length < ops.size := by
      have := congrArg List.length hl
      simp at this; omega
    have ho : ops[acc.length]? = some o := by
      have := congrArg (fun x => x[acc.length]?) hl
      simp only [Array.getElem?_toList] at this
      have h2 : (ops.toList.take acc.length).length = acc.length := by simp; omega
      rw [this, List.getElem?_append_right (by omega), h2]
      simp
    refine clos_ok ops l _ ?_ (by simp; omega) (fun i c hc j hj => ?_)
    · simp only [List.length_append, List.length_singleton]
      rw [List.take_add_one, Array.getElem?_toList, ho]
      simp only [Option.toList_some, List.append_assoc, List.singleton_append]
      exact hl
    · by_cases hi : i < acc.length
      · rw [List.getElem?_append_left hi] at hc
        exact h i c hc j hj
      · rw [List.getElem?_append_right (by omega)] at hc
        have hi0 : i - acc.length = 0 := by
          rcases Nat.eq_zero_or_pos (i - acc.length) with e | e
          · exact e
          · rw [List.getElem?_eq_none (by simp; omega)] at hc; cases hc
        have hie : i = acc.length := by omega
        rw [hi0] at hc
        simp only [List.getElem?_cons_zero, Option.some.injEq] at hc
        subst hc
        rw [List.mem_eraseDups, List.mem_append] at hj
        subst hie
        rcases hj with hj | hj
        · exact .edge ho hj
        · obtain ⟨p, hp, hj⟩ := List.mem_flatMap.1 hj
          rw [List.getD_eq_getElem?_getD] at hj
          cases hpa : acc[p]? with
          | none => rw [hpa] at hj; simp at hj
          | some cp =>
            rw [hpa] at hj
            exact .trans (h p cp hpa j hj) (.edge ho hp)

def disj (a b : List Key) : Bool := a.all fun x => !b.contains x

/-- No race: what is not ordered by the edges does not meet. -/
def raceFree (cl : List (List Nat)) (cs : List Rec) : Bool :=
  (List.range cs.length).all fun j => (List.range j).all fun i =>
    (cl.getD j []).contains i ||
      (match cs[i]?, cs[j]? with
        | some a, some b => disj a.W b.W && disj a.W b.R && disj b.W a.R && a.r.new.all fun n => !b.nms.contains n
        | _, _ => true)

/-- No name is mentioned ahead of its making; each is new to the state. -/
def newOk (st : St) (cs : List Rec) : Prop :=
  (∀ c ∈ cs, ∀ n ∈ c.r.new, FreeB st n) ∧
  (List.range cs.length).all (fun j => (List.range j).all fun i => match cs[i]?, cs[j]? with
    | some a, some b => b.r.new.all fun n => !a.nms.contains n
    | _, _ => true) = true

/-- The edges lead backwards. -/
def backOk (ops : Array Oper) : Bool := ops.toList.zipIdx.all fun p => (preds p.1).all fun e => e < p.2

/-- What is new is written. -/
def newW (cs : List Rec) : Bool := cs.all fun c => c.r.new.all fun n => c.W.contains (Key.b n) || c.W.contains (Key.k n)


/-! ### Every order -/
def cntF (f : Nat → Bool) : Nat → Nat
  | 0 => 0
  | n + 1 => cntF f n + (if f n = true then 0 else 1)

theorem cntF_congr {f g : Nat → Bool} : ∀ n, (∀ i, i < n → f i = g i) → cntF f n = cntF g n
  | 0, _ => rfl
  | n + 1, h => by simp only [cntF]; rw [cntF_congr n (fun i hi => h i (by omega)), h n (by omega)]

theorem cntF_set {f g : Nat → Bool} {i : Nat} (hf : f i = false) (hg : g i = true) (he : ∀ j, j ≠ i → g j = f j) : ∀ n, i < n → cntF f n = cntF g n + 1
  | 0, h => by omega
  | n + 1, h => by
    simp only [cntF]
    by_cases e : i = n
    · subst e
      rw [hf, hg, cntF_congr i (fun j hj => (he j (by omega)).symm)]; simp
    · rw [cntF_set hf hg he n (by omega), he n (Ne.symm e)]; omega

theorem cntF_zero {f : Nat → Bool} : ∀ n, cntF f n = 0 → ∀ i, i < n → f i = true
  | 0, _, i, hi => by omega
  | n + 1, h, i, hi => by
    simp only [cntF] at h
    have h1 : f n = true := by
      cases hfn : f n with
      | true => rfl
      | false => rw [hfn] at h; simp at h
    by_cases e : i = n
    · rw [e]; exact h1
    · exact cntF_zero n (by omega) i (by omega)

theorem first_false {f : Nat → Bool} : ∀ n, cntF f n ≠ 0 → ∃ i, i < n ∧ f i = false ∧ ∀ j, j < i → f j = true
  | 0, h => by simp [cntF] at h
  | n + 1, h => by
    by_cases e : cntF f n = 0
    · refine ⟨n, by omega, ?_, fun j hj => cntF_zero n e j hj⟩
      simp only [cntF, e] at h
      cases hfn : f n with
      | true => rw [hfn] at h; simp at h
      | false => rfl
    · obtain ⟨i, h1, h2, h3⟩ := first_false n e
      exact ⟨i, by omega, h2, h3⟩

theorem disj_spec {a b : List Key} (h : disj a b = true) {x : Key} (hx : x ∈ a) : x ∉ b := by
  unfold disj at h
  have := List.all_eq_true.1 h x hx
  simpa using this

section
variable {X : Ctx}

theorem draw_sound (hT : TOk X) (hm : X.P.follows .mixedOrders = true) {ops : Array Oper} {id : Nat} {S0 : Start} {Q : Exit → Act → World → Prop} {cs : List Rec} {st : St}
    (hlen : cs.length = ops.size)
    (hrun : ∀ i c o, cs[i]? = some c → ops[i]? = some o → dstOk X o ∧ c.dst = o.dst ∧ ∃ R', Runs (opRun X ops o) (foldS (fun j => decide (j < i)) cs 0 st) R' (c.gd, c.r) ∧ ∀ x ∈ R', x ∈ c.R)
    (hrace : raceFree (clos ops.toList []) cs = true) (hnew : newOk st cs) (hback : backOk ops = true) (hnw : newW cs = true)
    (hQ : ∀ a w, Sim X S0 (foldS (fun _ => true) cs 0 st) a w → Q .normal a w) {a : Act} {w : World} (hs : Sim X S0 st a w) : (Code.region id ops true).wp X.P Q a w := by
  refine wp_region_any hm ?_
  have hedge : ∀ i j o, ops[i]? = some o → j ∈ preds o → j < i := by
    intro i j o ho hj
    unfold backOk at hback
    have h1 : (o, i) ∈ ops.toList.zipIdx := by
      rw [List.mem_iff_getElem?]
      exact ⟨i, by simp [ho]⟩
    have := List.all_eq_true.1 hback _ h1
    simpa using List.all_eq_true.1 this j hj
  have hprec : ∀ i j, Prec ops j i → j < i := by
    intro i j h
    induction h with
    | edge ho hj => exact hedge _ _ _ ho hj
    | trans _ _ h1 h2 => omega
  have hcmp : ∀ i j a b, i < j → cs[i]? = some a → cs[j]? = some b → Prec ops i j ∨
      ((∀ x, x ∈ a.W → x ∉ b.W) ∧ (∀ x, x ∈ a.W → x ∉ b.R) ∧ (∀ n, n ∈ a.r.new → n ∉ b.nms) ∧ (∀ x, x ∈ b.W → x ∉ a.R)) := by
    intro i j a b hij ha hb
    have hj : j < cs.length := (List.getElem?_eq_some_iff.1 hb).1
    have h1 := List.all_eq_true.1 hrace j (List.mem_range.2 hj)
    have h2 := List.all_eq_true.1 h1 i (List.mem_range.2 hij)
    simp only [ha, hb, Bool.or_eq_true, Bool.and_eq_true] at h2
    rcases h2 with h2 | ⟨⟨⟨h2, h3⟩, h4⟩, h5⟩
    · left
      rw [List.contains_iff_mem, List.getD_eq_getElem?_getD] at h2
      cases hc : (clos ops.toList [])[j]? with
      | none => rw [hc] at h2; simp at h2
      | some c =>
        rw [hc] at h2
        exact clos_ok ops ops.toList [] (by simp) (by simp) (by simp) j c hc i h2
    · right
      refine ⟨fun x hx => disj_spec h2 hx, fun x hx => disj_spec h3 hx, fun n hn hm => ?_, fun x hx => disj_spec h4 hx⟩
      have := List.all_eq_true.1 h5 n hn
      simp at this
      exact this hm
  have key : ∀ (fuel : Nat) (listed : Array Bool) (a : Act) (w : World), listed.size = ops.size → (∀ i o, ops[i]? = some o → listed.getD i true = true → ∀ j ∈ preds o, listed.getD j true = true) →
      cntF (fun i => listed.getD i true) ops.size = fuel → Sim X S0 (foldS (fun i => listed.getD i true) cs 0 st) a w → wpAny X.P .any ops Q fuel listed a w := by
    intro fuel
    induction fuel with
    | zero =>
      intro listed a w hsz hcl hcnt hs
      have hall := cntF_zero _ hcnt
      refine ⟨?_, hQ a w (hs.eqv (St.at_eqv fun x => foldS_agree _ _ x cs 0 _ _ (fun j c hj _ => ?_) rfl))⟩
      · rw [List.eq_nil_iff_forall_not_mem]
        intro i hi
        rw [mem_ready] at hi
        obtain ⟨h0, o, ho, _⟩ := hi
        have := hall i (Array.getElem?_eq_some_iff.1 ho).1
        rw [h0] at this; cases this
      · have hj' : j < ops.size := by rw [← hlen]; exact (List.getElem?_eq_some_iff.1 hj).1
        simp only [Nat.zero_add]
        exact (hall j hj').symm
    | succ fuel ih =>
      intro listed a w hsz hcl hcnt hs
      refine ⟨fun hr => ?_, fun i hi => ?_⟩
      · exfalso
        obtain ⟨i, h1, h2, h3⟩ := first_false (f := fun i => listed.getD i true) ops.size (by omega)
        have : i ∈ Region.ready .any ops listed := by
          rw [mem_ready]
          refine ⟨h2, ops[i], Array.getElem?_eq_getElem h1, fun e he hb => ?_⟩
          have hp : e.on ∈ preds ops[i] := by
            unfold preds
            rw [List.mem_map]
            exact ⟨e, List.mem_filter.2 ⟨by simpa using he, hb⟩, rfl⟩
          have hlt := hedge i e.on ops[i] (Array.getElem?_eq_getElem h1) hp
          have h4 := h3 e.on hlt
          have h5 : e.on < listed.size := by omega
          simp only [Array.getD_eq_getD_getElem?] at h4 ⊢
          rw [Array.getElem?_eq_getElem h5] at h4 ⊢
          exact h4
        rw [hr] at this; cases this
      · rw [mem_ready] at hi
        obtain ⟨hi0, o, ho, hpre⟩ := hi
        have hio : i < ops.size := (Array.getElem?_eq_some_iff.1 ho).1
        have hic : i < cs.length := by omega
        have hc : cs[i]? = some cs[i] := List.getElem?_eq_getElem hic
        generalize cs[i] = c at hc
        obtain ⟨hd, hdst, R', hruns, hsubR⟩ := hrun i c o hc ho
        have hready : ∀ j ∈ preds o, listed.getD j true = true := by
          intro j hj
          unfold preds at hj
          obtain ⟨e, he, rfl⟩ := List.mem_map.1 hj
          obtain ⟨he1, he2⟩ := List.mem_filter.1 he
          have := hpre e (by simpa using he1) he2
          simp only [Array.getD_eq_getD_getElem?] at this ⊢
          cases hg : listed[e.on]? with
          | none => rw [hg] at this; cases this
          | some b => rw [hg] at this; exact this
        have hclos : ∀ j k, Prec ops j k → listed.getD k true = true → listed.getD j true = true := by
          intro j k h
          induction h with
          | edge ho hj => exact fun hk => hcl _ _ ho hk _ hj
          | trans _ _ h1 h2 => exact fun hk => h1 (h2 hk)
        have hbefore : ∀ j k, Prec ops j k → k = i → listed.getD j true = true := by
          intro j k h
          induction h with
          | edge ho' hj => intro e; subst e; rw [ho] at ho'; cases ho'; exact hready _ hj
          | trans h1 _ _ h2 => intro e; exact hclos _ _ h1 (h2 e)
        have hafter : ∀ j, Prec ops i j → listed.getD j true = false := by
          intro j h
          cases hj : listed.getD j true with
          | false => rfl
          | true => have := hclos i j h hj; rw [hi0] at this; cases this
        -- the state agrees on what the operation reads
        have hagree : ∀ x, x ∈ c.R → (foldS (fun j => listed.getD j true) cs 0 st).at x = (foldS (fun j => decide (j < i)) cs 0 st).at x := by
          intro x hx
          refine foldS_agree _ _ x cs 0 _ _ (fun j c' hj hxw => ?_) rfl
          simp only [Nat.zero_add]
          rcases Nat.lt_trichotomy j i with h | h | h
          · rw [decide_eq_true h]
            rcases hcmp j i c' c h hj hc with h1 | h1
            · exact hbefore j i h1 rfl
            · exact absurd hx (h1.2.1 x hxw)
          · subst h; rw [hi0]; simp
          · rw [decide_eq_false (by omega)]
            rcases hcmp i j c c' h hc hj with h1 | h1
            · exact hafter j h1
            · exact absurd hx (h1.2.2.2 x hxw)
        have hruns' : Runs (opRun X ops o) (foldS (fun j => listed.getD j true) cs 0 st) R' (c.gd, c.r) :=
          hruns.agree (fun n hn => by have := hagree (.t n) (hsubR _ hn); simpa [St.at] using this) (fun n hn => by have := hagree (.b n) (hsubR _ hn); simpa [St.at] using this) (fun n hn => by have := hagree (.k n) (hsubR _ hn); simpa [St.at] using this)
        -- what is made is new
        have hnm : ∀ n ∈ c.r.new, ∀ j c', cs[j]? = some c' → listed.getD j true = true → n ∉ c'.nms := by
          intro n hn j c' hj hS hm
          rcases Nat.lt_trichotomy j i with h | h | h
          · have h1 := List.all_eq_true.1 hnew.2 i (List.mem_range.2 hic)
            have h2 := List.all_eq_true.1 h1 j (List.mem_range.2 h)
            simp only [hc, hj] at h2
            have h3 := List.all_eq_true.1 h2 n hn
            simp at h3
            exact h3 hm
          · subst h; rw [hi0] at hS; cases hS
          · rcases hcmp i j c c' h hc hj with h1 | h1
            · have := hafter j h1; rw [hS] at this; cases this
            · exact h1.2.2.1 n hn hm
        have hfree : ∀ n ∈ c.r.new, (foldS (fun j => listed.getD j true) cs 0 st).Free n := by
          intro n hn
          have hst := (hnew.1 c (List.mem_of_getElem? hc) n hn).free
          refine ⟨fun t v hv hh => ?_, ?_, ?_, fun m ccs hm cc hcc hh => ?_⟩
          · rcases foldS_src (fun j => listed.getD j true) (.t t) cs 0 st with h | ⟨j, c', st', h1, h2, h3, h4⟩
            · simp only [St.at, KV.t.injEq] at h
              rw [h] at hv
              exact hst.t t v hv hh
            · rw [Nat.zero_add] at h2
              simp only [St.at, KV.t.injEq] at h4
              rw [h4] at hv
              have hdd : c'.dst = some t := by
                unfold Rec.W at h3
                simp at h3
                exact h3
              have hvv : v.nms = c'.r.v.nms := by
                simp only [Rec.app, St.apply, putT, hdd] at hv
                cases hgd : c'.gd <;> rw [hgd] at hv <;> simp only [lk_cons_same, Option.some.injEq] at hv <;> subst hv <;> rfl
              refine hnm n hn j c' h1 h2 ?_
              unfold Rec.nms
              rw [V.has_iff, hvv] at hh
              simp [hh]
          · rcases foldS_src (fun j => listed.getD j true) (.b n) cs 0 st with h | ⟨j, c', st', h1, h2, h3, h4⟩
            · simp only [St.at, KV.b.injEq] at h
              rw [h]; exact hst.m.nb
            · rw [Nat.zero_add] at h2
              exfalso
              refine hnm n hn j c' h1 h2 ?_
              unfold Rec.W at h3
              unfold Rec.nms
              simp at h3 ⊢
              obtain ⟨cc, hcc⟩ := h3
              exact .inr (.inl ⟨n, cc, hcc, .inl rfl⟩)
          · rcases foldS_src (fun j => listed.getD j true) (.k n) cs 0 st with h | ⟨j, c', st', h1, h2, h3, h4⟩
            · simp only [St.at, KV.k.injEq] at h
              rw [h]; exact hst.m.nk
            · rw [Nat.zero_add] at h2
              exfalso
              refine hnm n hn j c' h1 h2 ?_
              unfold Rec.W at h3
              unfold Rec.nms
              simp at h3 ⊢
              obtain ⟨cc, hcc⟩ := h3
              exact .inr (.inr ⟨cc, hcc⟩)
          · rcases foldS_src (fun j => listed.getD j true) (.b m) cs 0 st with h | ⟨j, c', st', h1, h2, h3, h4⟩
            · simp only [St.at, KV.b.injEq] at h
              rw [h] at hm
              exact hst.m.nc m ccs hm cc hcc hh
            · rw [Nat.zero_add] at h2
              simp only [St.at, KV.b.injEq] at h4
              rw [h4] at hm
              refine hnm n hn j c' h1 h2 ?_
              unfold Rec.W at h3
              simp at h3
              obtain ⟨cc0, hcc0⟩ := h3
              have hsome := lk_map_some c'.r.b m Key.b (fun a b e => by cases e; rfl) (List.mem_map.2 ⟨(m, cc0), hcc0, rfl⟩)
              obtain ⟨cc1, hcc1⟩ := Option.isSome_iff_exists.1 hsome
              simp only [Rec.app, St.apply, lk_append, hcc1, Option.some_or, Option.some.injEq] at hm
              subst hm
              unfold Rec.nms
              simp
              exact .inr (.inl ⟨m, cc1, lk_mem _ _ _ hcc1, .inr ⟨cc, hcc, (C.has_iff cc n).1 hh⟩⟩)
        refine opRun_sound hT hd hruns' hfree hs ho (fun a' w' hs' => ?_)
        have hset : ∀ j, j ≠ i → (listed.setIfInBounds i true).getD j true = listed.getD j true := fun j hj => by
          simp [Array.getElem?_setIfInBounds_ne (Ne.symm hj)]
        have hseti : (listed.setIfInBounds i true).getD i true = true := by
          have : i < listed.size := by omega
          simp [this]
        refine ih (listed.setIfInBounds i true) a' w' (by simp [hsz]) (fun k o' hk hlk j hj => ?_) ?_ ?_
        · by_cases ej : j = i
          · rw [ej]; exact hseti
          · rw [hset j ej]
            by_cases ek : k = i
            · subst ek
              rw [ho] at hk; cases hk
              exact hready j hj
            · rw [hset k ek] at hlk
              exact hcl k o' hk hlk j hj
        · have := cntF_set (f := fun j => listed.getD j true) (g := fun j => (listed.setIfInBounds i true).getD j true) hi0 hseti hset ops.size hio
          omega
        · rw [← hdst] at hs'
          refine hs'.eqv (St.at_eqv fun x => ?_)
          show _ = (c.app (foldS (fun j => listed.getD j true) cs 0 st)).at x
          by_cases hx : x ∈ c.W
          · refine foldS_last _ x _ cs 0 st i c hc hx (by rw [Nat.zero_add]; exact hseti) (fun j c' hj hij hxw => ?_)
            rw [Nat.zero_add]
            show (listed.setIfInBounds i true).getD j true = false
            rw [hset j (by omega)]
            rcases hcmp i j c c' hij hc hj with h1 | h1
            · exact hafter j h1
            · exact absurd hxw (h1.1 x hx)
          · rw [c.app_out _ hx]
            refine foldS_agree _ _ x cs 0 _ _ (fun j c' hj hxw => ?_) rfl
            rw [Nat.zero_add]
            refine hset j (fun e => ?_)
            subst e
            rw [hc] at hj; cases hj
            exact hx hxw
  refine key ops.size (Array.replicate ops.size false) a _ (by simp) (fun i o ho hi => ?_) ?_ ?_
  · have : i < ops.size := (Array.getElem?_eq_some_iff.1 ho).1
    simp [this] at hi
  · have : ∀ n m, n ≤ m → cntF (fun i => (Array.replicate m false).getD i true) n = n := by
      intro n m
      induction n with
      | zero => intro _; rfl
      | succ n ih =>
        intro h
        simp only [cntF]
        rw [ih (by omega)]
        have : n < m := by omega
        simp [this]
    exact this _ _ (Nat.le_refl _)
  · refine Sim.drew (hs.eqv (St.at_eqv fun x => ?_))
    have : ∀ (cs : List Rec) (i : Nat) (st : St), i + cs.length ≤ ops.size → foldS (fun i => (Array.replicate ops.size false).getD i true) cs i st = st := by
      intro cs
      induction cs with
      | nil => intro i st _; rfl
      | cons c cs ih =>
        intro i st h
        simp only [List.length_cons] at h
        simp only [foldS]
        rw [ih (i + 1) _ (by omega)]
        have : i < ops.size := by omega
        simp [this]
    rw [this cs 0 st (by omega)]
end

end Go.Vam
