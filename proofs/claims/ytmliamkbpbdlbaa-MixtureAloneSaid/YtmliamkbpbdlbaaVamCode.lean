/- The value-level machine, part 17: the weakest demand of a function's code, and the contract that it gives. Conditions: none. -/
import Derived.Test.YtmliamkbpbdlbaaVamDraw
import Derived.Deep.LoopGhost
set_option linter.unusedVariables false
set_option linter.unusedSimpArgs false
namespace Go.Vam

/-! ### Weaker states -/
def leC : C → C → Prop
  | .d (.list l), .own _ l' => l = l'
  | .d (.list l), .nil => l = []
  | c, c' => c = c'

def leCs : List C → List C → Prop
  | [], [] => True
  | c :: cs, d :: ds => leC c d ∧ leCs cs ds
  | _, _ => False

def leV : V → V → Prop
  | .g γ v, .g γ' v' => γ = γ' ∧ v = v'
  | v, .g γ v' => γ = true ∧ leV v v'
  | .c x, .c y => leC x y
  | .agg xs, .agg ys => leCs xs ys
  | .tup ds, .tup es => ds = es
  | .ts sh xs, .ts sh' ys => sh = sh' ∧ leCs xs ys
  | _, _ => False

section
variable {ok : Foot} {ℓ : Loc} {w : World}
theorem RC.le {u : Value} {c c' : C} (h : RC ok ℓ w u c') (hl : leC c c') : RC ok ℓ w u c := by
  unfold leC at hl
  split at hl
  · subst hl; exact ⟨h.1, rfl⟩
  · subst hl; obtain ⟨a, rfl⟩ := h; exact ⟨.nil _ _, rfl⟩
  · subst hl; exact h

theorem leCs_getElem : ∀ (cs ds : List C), leCs cs ds → cs.length = ds.length ∧ ∀ (i : Nat) c d, cs[i]? = some c → ds[i]? = some d → leC c d
  | [], [], _ => ⟨rfl, by simp⟩
  | [], _ :: _, h => by simp [leCs] at h
  | _ :: _, [], h => by simp [leCs] at h
  | c :: cs, d :: ds, h => by
    simp only [leCs] at h
    obtain ⟨h1, h2⟩ := leCs_getElem cs ds h.2
    refine ⟨by simp [h1], fun i c' d' hc hd => ?_⟩
    cases i with
    | zero => simp at hc hd; subst hc; subst hd; exact h.1
    | succ i => simp at hc hd; exact h2 i c' d' hc hd

theorem RCs.le {vs : Array Value} {cs ds : List C} (h : RCs ok ℓ w vs ds) (hl : leCs cs ds) : RCs ok ℓ w vs cs := by
  obtain ⟨h1, h2⟩ := leCs_getElem cs ds hl
  refine ⟨by rw [h.1, h1], fun i u c hu hc => ?_⟩
  have hi : i < ds.length := by rw [← h1]; exact (List.getElem?_eq_some_iff.1 hc).1
  exact (h.2 i u ds[i] hu (List.getElem?_eq_getElem hi)).le (h2 i c ds[i] hc (List.getElem?_eq_getElem hi))

theorem RV.le {u : Value} : ∀ {v v' : V}, RV ok ℓ w u v' → leV v v' → RV ok ℓ w u v := by
  intro v v' h hl
  induction v' with
  | g γ v' ih =>
    cases v with
    | g γ' v => simp only [leV] at hl; obtain ⟨rfl, rfl⟩ := hl; exact h
    | c x => simp only [leV] at hl; exact ih (h.1 hl.1) hl.2
    | agg x => simp only [leV] at hl; exact ih (h.1 hl.1) hl.2
    | tup x => simp only [leV] at hl; exact ih (h.1 hl.1) hl.2
    | ts sh x => simp only [leV] at hl; exact ih (h.1 hl.1) hl.2
  | c y =>
    cases v with
    | c x => exact RC.le h hl
    | _ => simp [leV] at hl
  | agg ys =>
    cases v with
    | agg xs => obtain ⟨vs, h1, h2⟩ := h; exact ⟨vs, h1, h2.le hl⟩
    | _ => simp [leV] at hl
  | tup ds =>
    cases v with
    | tup es => simp only [leV] at hl; subst hl; exact h
    | _ => simp [leV] at hl
  | ts sh ys =>
    cases v with
    | ts sh' xs => simp only [leV] at hl; obtain ⟨rfl, hl⟩ := hl; obtain ⟨vs, h1, h2⟩ := h; exact ⟨vs, h1, h2.le hl⟩
    | _ => simp [leV] at hl

theorem MemOK.le {b b' : Boxes} {k k' : Toks} (h : MemOK ok ℓ b k w) (hb : ∀ n cs', lk b' n = some cs' → ∃ cs, lk b n = some cs ∧ leCs cs' cs) (hk : ∀ n t, lk k' n = some t → lk k n = some t) :
    MemOK ok ℓ b' k' w ∧ ∀ n x, Owns ℓ b' k' n x → Owns ℓ b k n x := by
  have hown : ∀ n x, Owns ℓ b' k' n x → Owns ℓ b k n x := by
    intro n x hn
    rcases hn with ⟨h1, rfl⟩ | ⟨t, h1, h2, rfl⟩ | ⟨t, h1, h2, h3⟩
    · obtain ⟨cs, hcs⟩ := Option.isSome_iff_exists.1 h1
      obtain ⟨cs', h2, _⟩ := hb n cs hcs
      exact .box h2
    · exact .arr (hk n t h1) h2
    · exact .buf (hk n t h1) h2 h3
  refine ⟨⟨fun n cs hn => ?_, fun n t hn => h.buf n t (hk n t hn), fun n t hn => h.arr n t (hk n t hn), fun n hn => ?_, fun n m x hn hm => h.distinct n m x (hown _ _ hn) (hown _ _ hm), h.alive⟩, hown⟩
  · obtain ⟨ds, hd, hl⟩ := hb n cs hn
    obtain ⟨vs, T, h1, h2, h3⟩ := h.box n ds hd
    exact ⟨vs, T, h1, h2.le hl, h3⟩
  · obtain ⟨cs, hcs⟩ := Option.isSome_iff_exists.1 hn
    obtain ⟨cs', h2, _⟩ := hb n cs hcs
    have := h.apart n (by simp [h2])
    cases hk0 : lk k' n with
    | none => rfl
    | some t => rw [hk n t hk0] at this; cases this
end

/-- A state says no more than another one. -/
def Sub (X : Ctx) (st' st : St) : Prop := ∀ S a w, Sim X S st a w → Sim X S st' a w

theorem Sub.refl (X : Ctx) (st : St) : Sub X st st := fun _ _ _ h => h
theorem Sub.trans {X : Ctx} {a b c : St} (h : Sub X a b) (k : Sub X b c) : Sub X a c := fun S x w hs => h S x w (k S x w hs)

def subT : List (Nat × V) → List (Nat × V) → Prop
  | [], _ => True
  | (t, v) :: l, m => (match lk m t with
    | some v' => leV v v'
    | none => False) ∧ subT l m
def subB : Boxes → Boxes → Prop
  | [], _ => True
  | (n, cs) :: l, m => (match lk m n with
    | some cs' => leCs cs cs'
    | none => False) ∧ subB l m
def subK : Toks → Toks → Prop
  | [], _ => True
  | (n, t) :: l, m => (match lk m n with
    | some t' => t = t'
    | none => False) ∧ subK l m

theorem subT_get : ∀ (l m : List (Nat × V)), subT l m → ∀ t v, lk l t = some v → ∃ v', lk m t = some v' ∧ leV v v'
  | [], _, _, _, _, h => by simp [lk] at h
  | (t', v') :: l, m, hs, t, v, h => by
    simp only [subT] at hs
    by_cases e : t' = t
    · subst e; rw [lk_cons_same] at h; cases h
      split at hs
      · rename_i v'' hv; exact ⟨v'', hv, hs.1⟩
      · exact hs.1.elim
    · rw [lk_cons_ne _ _ e] at h; exact subT_get l m hs.2 t v h
theorem subB_get : ∀ (l m : Boxes), subB l m → ∀ t v, lk l t = some v → ∃ v', lk m t = some v' ∧ leCs v v'
  | [], _, _, _, _, h => by simp [lk] at h
  | (t', v') :: l, m, hs, t, v, h => by
    simp only [subB] at hs
    by_cases e : t' = t
    · subst e; rw [lk_cons_same] at h; cases h
      split at hs
      · rename_i v'' hv; exact ⟨v'', hv, hs.1⟩
      · exact hs.1.elim
    · rw [lk_cons_ne _ _ e] at h; exact subB_get l m hs.2 t v h
theorem subK_get : ∀ (l m : Toks), subK l m → ∀ t v, lk l t = some v → lk m t = some v
  | [], _, _, _, _, h => by simp [lk] at h
  | (t', v') :: l, m, hs, t, v, h => by
    simp only [subK] at hs
    by_cases e : t' = t
    · subst e; rw [lk_cons_same] at h; cases h
      split at hs
      · rename_i v'' hv; rw [hv, hs.1]
      · exact hs.1.elim
    · rw [lk_cons_ne _ _ e] at h; exact subK_get l m hs.2 t v h

theorem Sub.of {X : Ctx} {st' st : St} (ht : subT st'.t st.t) (hb : subB st'.b st.b) (hk : subK st'.k st.k) : Sub X st' st := by
  rintro S a w ⟨ok, ℓ, hs⟩
  obtain ⟨hm, ho⟩ := hs.mem.le (subB_get _ _ hb) (subK_get _ _ hk)
  refine ⟨ok, ℓ, hs.defers, hs.size, fun t v hv => ?_, hm, hs.ext, hs.sub, hs.sup, fun n x hx => hs.own n x (ho n x hx), hs.names, fun n hl hh => hs.inH n hl ?_⟩
  · obtain ⟨v', h1, h2⟩ := subT_get _ _ ht t v hv
    obtain ⟨u, h3, h4⟩ := hs.tmps t v' h1
    exact ⟨u, h3, h4.le h2⟩
  · rcases hh with hh | hh
    · obtain ⟨cs, hcs⟩ := Option.isSome_iff_exists.1 hh
      obtain ⟨cs', h1, _⟩ := subB_get _ _ hb n cs hcs
      exact .inl (by simp [h1])
    · obtain ⟨t, ht'⟩ := Option.isSome_iff_exists.1 hh
      exact .inr (by simp [subK_get _ _ hk n t ht'])

/-- A slice without room becomes a buffer: in a slot. -/
theorem Sub.nilT {X : Ctx} {st : St} {t : Nat} {n : Name} (sz : Nat) (ht : lk st.t t = some (.c .nil)) (hf : FreeB st n) (hn : X.L ≤ n.lv) :
    Sub X ⟨(t, .c (.own n [])) :: st.t, st.b, (n, ⟨false, sz, []⟩) :: st.k⟩ st := by
  rintro S a w ⟨ok, ℓ, hs⟩
  obtain ⟨u, hu, ad, rfl⟩ := hs.tmps t _ ht
  obtain ⟨hs', hrv⟩ := hs.nilBuf (by omega) hf.free (u := ad) sz
  refine ⟨ok, _, hs'.defers, hs'.size, fun t' v hv => ?_, hs'.mem, hs'.ext, hs'.sub, hs'.sup, hs'.own, hs'.names, hs'.inH⟩
  by_cases e : t = t'
  · subst e; rw [lk_cons_same] at hv; cases hv; exact ⟨_, hu, hrv⟩
  · rw [lk_cons_ne _ _ e] at hv; exact hs'.tmps t' v hv

/-- .. in a box. -/
theorem Sub.nilB {X : Ctx} {st : St} {m : Name} {cs : List C} {j : Nat} {n : Name} (sz : Nat) (hm : lk st.b m = some cs) (hj : cs[j]? = some .nil) (hf : FreeB st n) (hn : X.L ≤ n.lv) :
    Sub X ⟨st.t, (m, cs.set j (.own n [])) :: st.b, (n, ⟨false, sz, []⟩) :: st.k⟩ st := by
  rintro S a w ⟨ok, ℓ, hs⟩
  obtain ⟨vs, T, h1, h2, h3⟩ := hs.mem.box m cs hm
  have hjl : j < vs.size := by rw [h2.1]; exact (List.getElem?_eq_some_iff.1 hj).1
  obtain ⟨ad, had⟩ := h2.2 j vs[j] _ (Array.getElem?_eq_getElem hjl) hj
  obtain ⟨hs', hrv⟩ := hs.nilBuf (by omega) hf.free (u := ad) sz
  obtain ⟨vs', T', h1', h2', h3'⟩ := hs'.mem.box m cs hm
  have hvv : vs' = vs := by
    rw [show (ℓ.setH n (.slice ad 0 0)).i m = ℓ.i m from rfl, h1] at h1'
    cases h1'; rfl
  subst hvv
  have hrow : RCs ok (ℓ.setH n (.slice ad 0 0)) w vs' (cs.set j (.own n [])) := by
    refine ⟨by rw [h2'.1]; simp, fun i u c hu hc => ?_⟩
    by_cases e : i = j
    · subst e
      rw [List.getElem?_set_self (by rw [← h2'.1]; exact (Array.getElem?_eq_some_iff.1 hu).1)] at hc
      cases hc
      rw [Array.getElem?_eq_getElem hjl] at hu
      cases hu
      rw [had]
      exact hrv
    · rw [List.getElem?_set_ne (Ne.symm e)] at hc
      exact h2'.2 i u c hu hc
  have hown : ∀ k x, Owns (ℓ.setH n (.slice ad 0 0)) ((m, cs.set j (.own n [])) :: st.b) ((n, ⟨false, sz, []⟩) :: st.k) k x → Owns (ℓ.setH n (.slice ad 0 0)) st.b ((n, ⟨false, sz, []⟩) :: st.k) k x := by
    intro k x h
    rcases h with ⟨h1, rfl⟩ | ⟨t, h1, h2, rfl⟩ | ⟨t, h1, h2, h3⟩
    · by_cases e : k = m
      · subst e; exact .box hm
      · rw [lk_cons_ne _ _ (Ne.symm e)] at h1; exact .inl ⟨h1, rfl⟩
    · exact .arr h1 h2
    · exact .buf h1 h2 h3
  have hsome : ∀ k, (lk ((m, cs.set j (.own n [])) :: st.b) k).isSome = true → (lk st.b k).isSome = true := by
    intro k h
    by_cases e : k = m
    · subst e; simp [hm]
    · rwa [lk_cons_ne _ _ (Ne.symm e)] at h
  refine ⟨ok, _, hs'.defers, hs'.size, hs'.tmps, ⟨fun k cs' hk => ?_, hs'.mem.buf, hs'.mem.arr, fun k hk => hs'.mem.apart k (hsome k hk), fun k k' x h h' => hs'.mem.distinct k k' x (hown _ _ h) (hown _ _ h'), hs'.mem.alive⟩,
    hs'.ext, hs'.sub, hs'.sup, fun k x h => hs'.own k x (hown k x h), hs'.names, fun k hl hh => hs'.inH k hl (hh.imp (hsome k) id)⟩
  by_cases e : k = m
  · subst e
    rw [lk_cons_same] at hk
    cases hk
    exact ⟨vs', T', h1', hrow, h3'⟩
  · rw [lk_cons_ne _ _ (Ne.symm e)] at hk
    exact hs'.mem.box k cs' hk

/-- An array that is written no more, in a slot: it may be read. -/
theorem Sub.freezeT {X : Ctx} {st : St} {t : Nat} {n : Name} {len : Nat} {tk : Tok} (ht : lk st.t t = some (.c (.arr n len))) (hk : lk st.k n = some tk) (ha : tk.isArr = true) (hl : len = tk.l.length) :
    Sub X ⟨(t, .c (.d (.list tk.l))) :: st.t, st.b, rm st.k n⟩ st := by
  rintro S a w ⟨ok, ℓ, hs⟩
  obtain ⟨hm, hrep, hown⟩ := hs.mem.freezeArr hk ha
  have hc : Chg ok (fun x o => ok x o ∨ x = ℓ.i n) w w := ⟨fun _ _ h => .inl h, fun _ _ _ => rfl⟩
  have howner := hs.own n _ (.arr hk ha)
  have hs' := hs.move (b' := st.b) (k' := rm st.k n) hc (fun _ _ _ n _ => .refl ℓ n) hm ⟨rfl, rfl, rfl, Nat.le_refl _⟩ (fun _ _ _ => rfl) (fun x o hx => hx.elim .inl (fun e => .inr (e ▸ howner))) (fun m x hx => hs.own m x (hown m x hx)) (fun m _ => ⟨.refl ℓ m, fun _ => ⟨rfl, rfl, rfl⟩⟩)
    (fun m hlt hh => hs.inH m hlt (hh.imp id (fun h => by
      by_cases e : m = n
      · subst e; simp [hk]
      · rwa [lk_rm_ne _ e] at h)))
  obtain ⟨u, hu, hrv⟩ := hs.tmps t _ ht
  simp only [RV, RC] at hrv
  obtain ⟨capA, hcA, hrv⟩ := hrv
  refine ⟨_, ℓ, hs'.defers, hs'.size, fun t' v hv => ?_, hs'.mem, hs'.ext, hs'.sub, hs'.sup, hs'.own, hs'.names, hs'.inH⟩
  by_cases e : t = t'
  · subst e; rw [lk_cons_same] at hv; cases hv; exact ⟨u, hu, by rw [hrv, hl]; exact hrep capA (by omega), rfl⟩
  · rw [lk_cons_ne _ _ e] at hv; exact hs'.tmps t' v hv

/-! ### Code -/
def wpL {α : Type} : Rd α → St → List Key → (List Key → α → Prop) → Prop
  | .ret a, _, R, Q => Q R a
  | .fail, _, _, _ => False
  | .getT n f, st, R, Q => match lk st.t n with
    | some v => wpL (f v) st (.t n :: R) Q
    | none => False
  | .getB n f, st, R, Q => match lk st.b n with
    | some v => wpL (f v) st (.b n :: R) Q
    | none => False
  | .getK n f, st, R, Q => match lk st.k n with
    | some v => wpL (f v) st (.k n :: R) Q
    | none => False
  | .need p r, st, R, Q => p ∧ wpL r st R Q
  | .exD f, st, R, Q => ∃ x, wpL (f x) st R Q
  | .exM f, st, R, Q => ∃ x b k, wpL (f x b k) st R Q
  | .case γ r s, st, R, Q => (γ = true → wpL r st R Q) ∧ (γ = false → wpL s st R Q)

theorem wpL_runs {α : Type} : ∀ {r : Rd α} {st : St} {R : List Key} {Q : List Key → α → Prop}, wpL r st R Q → ∃ R1 R' a, Runs r st R1 a ∧ Q R' a ∧ (∀ x ∈ R1, x ∈ R') ∧ (∀ x ∈ R, x ∈ R') := by
  intro r
  induction r with
  | ret a => intro st R Q h; exact ⟨[], R, a, .ret a st, h, by simp, fun x h => h⟩
  | fail => intro st R Q h; exact h.elim
  | getT n f ih =>
    intro st R Q h
    simp only [wpL] at h
    split at h
    · rename_i v hv
      obtain ⟨R1, R', a, h1, h2, h3, h4⟩ := ih v h
      exact ⟨_ :: R1, R', a, .getT hv h1, h2, fun x hx => (List.mem_cons.1 hx).elim (fun e => h4 x (by simp [e])) (h3 x), fun x hx => h4 x (by simp [hx])⟩
    · exact h.elim
  | getB n f ih =>
    intro st R Q h
    simp only [wpL] at h
    split at h
    · rename_i v hv
      obtain ⟨R1, R', a, h1, h2, h3, h4⟩ := ih v h
      exact ⟨_ :: R1, R', a, .getB hv h1, h2, fun x hx => (List.mem_cons.1 hx).elim (fun e => h4 x (by simp [e])) (h3 x), fun x hx => h4 x (by simp [hx])⟩
    · exact h.elim
  | getK n f ih =>
    intro st R Q h
    simp only [wpL] at h
    split at h
    · rename_i v hv
      obtain ⟨R1, R', a, h1, h2, h3, h4⟩ := ih v h
      exact ⟨_ :: R1, R', a, .getK hv h1, h2, fun x hx => (List.mem_cons.1 hx).elim (fun e => h4 x (by simp [e])) (h3 x), fun x hx => h4 x (by simp [hx])⟩
    · exact h.elim
  | need p r ih => intro st R Q h; obtain ⟨R1, R', a, h1, h2⟩ := ih h.2; exact ⟨R1, R', a, .need h.1 h1, h2⟩
  | exD f ih => intro st R Q h; obtain ⟨x, h⟩ := h; obtain ⟨R1, R', a, h1, h2⟩ := ih x h; exact ⟨R1, R', a, .exD x h1, h2⟩
  | exM f ih => intro st R Q h; obtain ⟨x, b, k, h⟩ := h; obtain ⟨R1, R', a, h1, h2⟩ := ih x b k h; exact ⟨R1, R', a, .exM x b k h1, h2⟩
  | case γ r s ih ih' =>
    intro st R Q h
    cases γ with
    | true => obtain ⟨R1, R', a, h1, h2⟩ := ih (h.1 rfl); exact ⟨R1, R', a, .caseT rfl h1, h2⟩
    | false => obtain ⟨R1, R', a, h1, h2⟩ := ih' (h.2 rfl); exact ⟨R1, R', a, .caseF rfl h1, h2⟩

def runOpsL (X : Ctx) (ops : Array Oper) : List Oper → St → List Rec → (St → List Rec → Prop) → Prop
  | [], st, cs, Q => Q st cs
  | o :: l, st, cs, Q => dstOk X o ∧ wpL (opRun X ops o) st [] fun R p => runOpsL X ops l (st.apply o.dst p.1 p.2) (cs ++ [⟨o.dst, R, p.1, p.2⟩]) Q

/-- What makes the order of a region immaterial. -/
def drawOk (ops : Array Oper) (cs : List Rec) : Bool := raceFree (clos ops.toList []) cs && backOk ops && newW cs

theorem foldS_append (S : Nat → Bool) : ∀ (cs ds : List Rec) (i : Nat) (st : St), foldS S (cs ++ ds) i st = foldS S ds (i + cs.length) (foldS S cs i st)
  | [], ds, i, st => rfl
  | c :: cs, ds, i, st => by
    simp only [List.cons_append, foldS, List.length_cons]
    rw [foldS_append S cs ds (i + 1)]
    congr 1; omega

theorem foldS_congr {S T : Nat → Bool} : ∀ (cs : List Rec) (i : Nat) (st : St), (∀ j, j < cs.length → S (i + j) = T (i + j)) → foldS S cs i st = foldS T cs i st
  | [], _, _, _ => rfl
  | c :: cs, i, st, h => by
    simp only [foldS]
    have h0 := h 0 (by simp)
    simp only [Nat.add_zero] at h0
    rw [h0]
    exact foldS_congr cs (i + 1) _ (fun j hj => by
      have := h (j + 1) (by simp; omega)
      rwa [show i + (j + 1) = i + 1 + j by omega] at this)

theorem foldS_none {S : Nat → Bool} : ∀ (cs : List Rec) (i : Nat) (st : St), (∀ j, j < cs.length → S (i + j) = false) → foldS S cs i st = st
  | [], _, _, _ => rfl
  | c :: cs, i, st, h => by
    simp only [foldS]
    have h0 := h 0 (by simp)
    simp only [Nat.add_zero] at h0
    rw [h0]
    simp only [Bool.false_eq_true, if_false]
    exact foldS_none cs (i + 1) _ (fun j hj => by
      have := h (j + 1) (by simp; omega)
      rwa [show i + (j + 1) = i + 1 + j by omega] at this)

/-- What a run in the order of the text says of each of its operations. -/
theorem runOpsL_spec {X : Ctx} {ops : Array Oper} {Q : St → List Rec → Prop} {st0 : St} : ∀ (l : List Oper) (st : St) (cs : List Rec), ops.toList = ops.toList.take cs.length ++ l → cs.length ≤ ops.size → st = foldS (fun _ => true) cs 0 st0 →
    (∀ i c o, cs[i]? = some c → ops[i]? = some o → dstOk X o ∧ c.dst = o.dst ∧ ∃ R', Runs (opRun X ops o) (foldS (fun j => decide (j < i)) cs 0 st0) R' (c.gd, c.r) ∧ ∀ x ∈ R', x ∈ c.R) →
    runOpsL X ops l st cs Q → ∃ ds, ds.length = ops.size ∧ (∀ i c o, ds[i]? = some c → ops[i]? = some o → dstOk X o ∧ c.dst = o.dst ∧ ∃ R', Runs (opRun X ops o) (foldS (fun j => decide (j < i)) ds 0 st0) R' (c.gd, c.r) ∧ ∀ x ∈ R', x ∈ c.R) ∧
      Q (foldS (fun _ => true) ds 0 st0) ds
  | [], st, cs, hl, hle, hst, hall, h => by
    refine ⟨cs, ?_, hall, by rw [← hst]; exact h⟩
    have := congrArg List.length hl
    simp at this; omega
  | o :: l, st, cs, hl, hle, hst, hall, h => by
    obtain ⟨hd, h⟩ := h
    obtain ⟨R1, R', p, h1, h2, h3, _⟩ := wpL_runs h
    have hlen : cs.length < ops.size := by
      have := congrArg List.length hl
      simp at this; omega
    have ho : ops[cs.length]? = some o := by
      have := congrArg (fun x => x[cs.length]?) hl
      simp only [Array.getElem?_toList] at this
      have h2 : (ops.toList.take cs.length).length = cs.length := by simp; omega
      rw [this, List.getElem?_append_right (by omega), h2]
      simp
    refine runOpsL_spec l _ (cs ++ [⟨o.dst, R', p.1, p.2⟩]) ?_ (by simp; omega) ?_ (fun i c o' hc ho' => ?_) h2
    · simp only [List.length_append, List.length_singleton]
      rw [List.take_add_one, Array.getElem?_toList, ho]
      simp only [Option.toList_some, List.append_assoc, List.singleton_append]
      exact hl
    · rw [foldS_append, ← hst]; rfl
    · by_cases hi : i < cs.length
      · rw [List.getElem?_append_left hi] at hc
        obtain ⟨g1, g2, R2, g3, g4⟩ := hall i c o' hc ho'
        refine ⟨g1, g2, R2, ?_, g4⟩
        rw [foldS_append, foldS_none [_] _ _ (fun j hj => by simp at hj; subst hj; simp; omega)]
        exact g3
      · rw [List.getElem?_append_right (by omega)] at hc
        have hi0 : i - cs.length = 0 := by
          rcases Nat.eq_zero_or_pos (i - cs.length) with e | e
          · exact e
          · rw [List.getElem?_eq_none (by simp; omega)] at hc; cases hc
        have hie : i = cs.length := by omega
        rw [hi0] at hc
        simp only [List.getElem?_cons_zero, Option.some.injEq] at hc
        subst hc
        subst hie
        rw [ho] at ho'; cases ho'
        refine ⟨hd, rfl, R1, ?_, h3⟩
        have : foldS (fun j => decide (j < cs.length)) (cs ++ [⟨o.dst, R', p.1, p.2⟩]) 0 st0 = st := by
          rw [foldS_append, foldS_none [_] _ _ (fun j hj => by simp at hj; subst hj; simp), hst]
          exact foldS_congr cs 0 st0 (fun j hj => by simp [hj])
        rw [this]
        exact h1

theorem region_draw_sound {X : Ctx} (hT : TOk X) (hm : X.P.follows .mixedOrders = true) {ops : Array Oper} {id : Nat} {S : Start} {Q : Exit → Act → World → Prop} {Q' : St → Prop} (hQ : ∀ st a w, Q' st → Sim X S st a w → Q .normal a w) {st : St}
    (h : runOpsL X ops ops.toList st [] fun st' cs => newOk st cs ∧ drawOk ops cs = true ∧ Q' st') {a : Act} {w : World} (hs : Sim X S st a w) : (Code.region id ops true).wp X.P Q a w := by
  obtain ⟨ds, h1, h2, h3, h4, h5⟩ := runOpsL_spec (st0 := st) ops.toList st [] (by simp) (by simp) rfl (by simp) h
  unfold drawOk at h4
  simp only [Bool.and_eq_true] at h4
  exact draw_sound hT hm h1 h2 h4.1.1 h3 h4.1.2 h4.2 (fun a w hs => hQ _ a w h5 hs) hs

def thenS (n : St → Prop) (Q : Exit → St → Prop) : Exit → St → Prop
  | .normal, st => n st
  | e, st => Q e st

def inBlockS (id : Nat) (Q : Exit → St → Prop) : Exit → St → Prop
  | .exit i, st => if i = id then Q .normal st else Q (.exit i) st
  | e, st => Q e st

def condS (c : Operand) (st : St) : Option (Bool × Bool) := match c with
  | .tmp t => match lk st.t t with
    | some v => boolG v
    | none => none
  | .const (.bool b) => some (true, b)
  | _ => none

def W (X : Ctx) : Code → (Exit → St → Prop) → St → Prop
  | .skip, Q, st => Q .normal st
  | .region _ ops true, Q, st => runOpsL X ops ops.toList st [] fun st' cs => newOk st cs ∧ drawOk ops cs = true ∧ Q .normal st'
  | .region _ ops false, Q, st => runOps X ops ops.toList st (Q .normal)
  | .seq a b, Q, st => W X a (thenS (W X b Q) Q) st
  | .cond c x y, Q, st => match condS c st with
    | some p => p.1 = true ∧ (p.2 = true → W X x Q st) ∧ (p.2 = false → W X y Q st)
    | none => False
  | .block id c, Q, st => W X c (inBlockS id Q) st
  | .loop c, Q, st => ∃ (G : Type) (T : G → St) (J : G → Prop) (μ : G → Nat), (∃ g, J g ∧ Sub X (T g) st) ∧ ∀ g, J g → W X c (thenS (fun st' => ∃ g', J g' ∧ Sub X (T g') st' ∧ μ g' < μ g) Q) (T g)
  | .exit id, Q, st => Q (.exit id) st
  | .ret, Q, st => Q .ret st
  | .label _, Q, st => Q .normal st
  | _, _, _ => False

theorem W_sound {X : Ctx} (hT : TOk X) (hm : X.P.follows .mixedOrders = true) : ∀ (c : Code) (Q : Exit → St → Prop) (st : St), W X c Q st → ∀ S a w, Sim X S st a w → c.wp X.P (fun e a' w' => ∃ st', Q e st' ∧ Sim X S st' a' w') a w := by
  intro c
  induction c with
  | skip => intro Q st h S a w hs; exact wp_skip ⟨st, h, hs⟩
  | region id ops d =>
    intro Q st h S a w hs
    cases d with
    | false => exact region_sound hT (fun st' a' w' h' hs' => ⟨st', h', hs'⟩) h hs
    | true => exact region_draw_sound hT hm (fun st' a' w' h' hs' => ⟨st', h', hs'⟩) h hs
  | seq x y ihx ihy =>
    intro Q st h S a w hs
    refine wp_seq (wp_mono (ihx _ st h S a w hs) ?_)
    rintro e a' w' ⟨st', h', hs'⟩
    cases e with
    | normal => exact ihy Q st' h' S a' w' hs'
    | _ => exact ⟨st', h', hs'⟩
  | cond c x y ihx ihy =>
    intro Q st h S a w hs
    simp only [W] at h
    split at h
    case h_2 => exact h.elim
    rename_i p hp
    obtain ⟨h1, h2, h3⟩ := h
    have hc : a.eval c = .bool p.2 := by
      obtain ⟨ok, ℓ, hsw⟩ := hs
      unfold condS at hp
      split at hp
      · split at hp
        · rename_i v hv
          exact boolG_run hp (hsw.eval hv) h1
        · cases hp
      · simp only [Option.some.injEq] at hp; subst hp; rfl
      · cases hp
    exact wp_cond_split hc (fun e => ihx Q st (h2 e) S a w hs) (fun e => ihy Q st (h3 e) S a w hs)
  | block id c ih =>
    intro Q st h S a w hs
    refine wp_block (wp_mono (ih _ st h S a w hs) ?_)
    rintro e a' w' ⟨st', h', hs'⟩
    cases e with
    | exit i =>
      simp only [inBlockS] at h'
      simp only [Exit.inBlock]
      split <;> rename_i he
      · rw [if_pos he] at h'; exact ⟨st', h', hs'⟩
      · rw [if_neg he] at h'; exact ⟨st', h', hs'⟩
    | _ => exact ⟨st', h', hs'⟩
  | loop c ih =>
    intro Q st h S a w hs
    obtain ⟨G, T, J, μ, ⟨g, hg, hsub⟩, hround⟩ := h
    refine wp_loop_ghost (fun n a w => ∃ g, J g ∧ μ g = n ∧ Sim X S (T g) a w) (μ g) ⟨g, hg, rfl, hsub S a w hs⟩ ?_
    rintro n a w ⟨g, hg, rfl, hs⟩
    refine wp_mono (ih _ _ (hround g hg) S a w hs) ?_
    rintro e a' w' ⟨st', h', hs'⟩
    cases e with
    | normal =>
      obtain ⟨g', h1, h2, h3⟩ := h'
      exact ⟨μ g', h3, g', h1, rfl, h2 S a' w' hs'⟩
    | _ => exact ⟨st', h', hs'⟩
  | exit id => intro Q st h S a w hs; exact wp_exit ⟨st, h, hs⟩
  | ret => intro Q st h S a w hs; exact wp_ret ⟨st, h, hs⟩
  | label l => intro Q st h S a w hs; exact wp_label ⟨st, h, hs⟩
  | _ => intro Q st h; exact h.elim

end Go.Vam
