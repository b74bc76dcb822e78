/- The value-level machine, part 15: regions, in the order of the text and in every order. Conditions: none. -/
import Derived.Test.YtmliamkbpbdlbaaVamCall
set_option linter.unusedVariables false
set_option linter.unusedSimpArgs false
namespace Go.Vam

theorem bindR_inv {α β : Type} {st : St} {f : α → Rd β} {b : β} {r : Rd α} : ∀ {R : List Key}, Runs (bindR r f) st R b → ∃ R1 R2 a, Runs r st R1 a ∧ Runs (f a) st R2 b ∧ R = R1 ++ R2 := by
  induction r with
  | ret a => intro R h; exact ⟨[], R, a, .ret a st, h, rfl⟩
  | fail => intro R h; exact (fail_inv h).elim
  | getT n g ih => intro R h; cases h with | getT e h => obtain ⟨R1, R2, a, h1, h2, rfl⟩ := ih _ h; exact ⟨_ :: R1, R2, a, .getT e h1, h2, rfl⟩
  | getB n g ih => intro R h; cases h with | getB e h => obtain ⟨R1, R2, a, h1, h2, rfl⟩ := ih _ h; exact ⟨_ :: R1, R2, a, .getB e h1, h2, rfl⟩
  | getK n g ih => intro R h; cases h with | getK e h => obtain ⟨R1, R2, a, h1, h2, rfl⟩ := ih _ h; exact ⟨_ :: R1, R2, a, .getK e h1, h2, rfl⟩
  | need p r ih => intro R h; cases h with | need e h => obtain ⟨R1, R2, a, h1, h2, rfl⟩ := ih h; exact ⟨R1, R2, a, .need e h1, h2, rfl⟩
  | exD g ih => intro R h; cases h with | exD x h => obtain ⟨R1, R2, a, h1, h2, rfl⟩ := ih _ h; exact ⟨R1, R2, a, .exD x h1, h2, rfl⟩
  | exM g ih => intro R h; cases h with | exM x b k h => obtain ⟨R1, R2, a, h1, h2, rfl⟩ := ih _ _ _ h; exact ⟨R1, R2, a, .exM x b k h1, h2, rfl⟩
  | case γ r s ih ih' =>
    intro R h
    cases h with
    | caseT e h => obtain ⟨R1, R2, a, h1, h2, rfl⟩ := ih h; exact ⟨R1, R2, a, .caseT e h1, h2, rfl⟩
    | caseF e h => obtain ⟨R1, R2, a, h1, h2, rfl⟩ := ih' h; exact ⟨R1, R2, a, .caseF e h1, h2, rfl⟩

section
variable {X : Ctx}

def dstOk (X : Ctx) (o : Oper) : Prop := match o.dst with
  | some d => d < X.n
  | none => True

theorem dstOk.of {o : Oper} (h : dstOk X o) : ∀ d, o.dst = some d → d < X.n := by
  intro d hd; unfold dstOk at h; rw [hd] at h; exact h

/-- One operation with its guard. -/
theorem opRun_sound (hT : TOk X) {ops : Array Oper} {o : Oper} (hd : dstOk X o) {S : Start} {st : St} {a : Act} {w : World} {R : List Key} {gd : Option Bool} {r : Out} (hr : Runs (opRun X ops o) st R (gd, r))
    (hfr : ∀ n ∈ r.new, st.Free n) (hs : Sim X S st a w) {i : Nat} (hi : ops[i]? = some o) {K : Act → World → Prop} {Q : Exit → Act → World → Prop}
    (hK : ∀ a' w', Sim X S (st.apply o.dst gd r) a' w' → K a' w') : wpOp X.P ops Q i K a w := by
  unfold wpOp
  simp only [hi]
  unfold opRun at hr
  split at hr
  · rename_i hg
    obtain ⟨R1, R2, r', h1, h2, _⟩ := bindR_inv hr
    have := ret_inv h2
    cases this
    have hw : Region.wanted o (yielded ops a.tmps) = true := by simp [Region.wanted, hg]
    rw [if_pos hw]
    exact .inl (op_sound hT hd.of rfl S st a w R1 r h1 hfr hs K Q hK)
  · rename_i j want hg
    obtain ⟨tg, htg, h1⟩ := orFail_inv hr
    obtain ⟨gv, R1, hgv, h2⟩ := getT_inv h1
    obtain ⟨p, hp, h3⟩ := orFail_inv h2
    obtain ⟨ok, ℓ, hsw⟩ := hs
    obtain ⟨u, hu, hrv⟩ := hsw.tmps tg gv hgv
    -- the guard's slot tells the truth
    have hwant : Region.wanted o (yielded ops a.tmps) = (p.1 && (p.2 == want)) := by
      simp only [Region.wanted, hg, yielded, htg, Option.bind_some, hu]
      unfold boolG at hp
      split at hp <;> simp only [Option.some.injEq, reduceCtorEq] at hp
      · subst hp
        have e := hrv.1.bool_inv
        subst e
        simp only [Bool.true_and]
        rename_i b
        cases b <;> cases want <;> rfl
      · rename_i γ b
        subst hp
        cases γ with
        | true =>
          have e := (hrv.1 rfl).1.bool_inv
          subst e
          simp only [Bool.true_and]
          cases b <;> cases want <;> rfl
        | false =>
          have e := hrv.2 rfl
          subst e
          simp [undef]
    have hs : Sim X S st a w := ⟨ok, ℓ, hsw⟩
    split at h3
    · -- an operation with an effect: two ways
      cases h3 with
      | caseT e h =>
        obtain ⟨R1, R2, r', h4, h5, _⟩ := bindR_inv h
        have := ret_inv h5
        cases this
        rw [hwant, e, if_pos rfl]
        exact .inl (op_sound hT hd.of rfl S st a w _ _ h4 hfr hs K Q hK)
      | caseF e h =>
        have := ret_inv h
        cases this
        rw [hwant, e, if_neg (by simp)]
        refine hK _ _ ?_
        cases hdd : o.dst with
        | none => exact ⟨ok, ℓ, hsw⟩
        | some d => exact ⟨ok, ℓ, hsw.put (v := .g false _) (hd.of d hdd) ⟨(fun e => by cases e), fun _ => rfl⟩⟩
    · obtain ⟨R1, R2, r', h4, h5, _⟩ := bindR_inv h3
      obtain ⟨⟨hb, hk, hn⟩, h6⟩ := need_inv h5
      have := ret_inv h6
      cases this
      cases hγ : (p.1 && (p.2 == want)) with
      | true =>
        rw [hwant, hγ, if_pos rfl]
        rw [hγ] at h4 hK
        exact .inl (op_sound hT hd.of rfl S st a w _ _ h4 hfr hs K Q hK)
      | false =>
        rw [hwant, hγ, if_neg (by simp)]
        rw [hγ] at hK
        refine hK _ _ ?_
        have : st.apply o.dst (some false) r = ⟨putT o.dst (some false) r.v st.t, st.b, st.k⟩ := by simp [St.apply, hb, hk]
        rw [this]
        cases hdd : o.dst with
        | none => exact ⟨ok, ℓ, hsw⟩
        | some d => exact ⟨ok, ℓ, hsw.put (v := .g false r.v) (hd.of d hdd) ⟨(fun e => by cases e), fun _ => rfl⟩⟩

/-! ### What a state says, whatever its lists look like -/
structure St.Eqv (st st' : St) : Prop where
  t : ∀ n, lk st'.t n = lk st.t n
  b : ∀ n, lk st'.b n = lk st.b n
  k : ∀ n, lk st'.k n = lk st.k n

theorem Owns.eqv {ℓ : Loc} {b b' : Boxes} {k k' : Toks} (hb : ∀ n, lk b' n = lk b n) (hk : ∀ n, lk k' n = lk k n) {n x} (h : Owns ℓ b' k' n x) : Owns ℓ b k n x := by
  unfold Owns at h ⊢; rw [hb, hk] at h; exact h

theorem Sim.eqv {S : Start} {st st' : St} {a : Act} {w : World} (h : Sim X S st a w) (e : st.Eqv st') : Sim X S st' a w := by
  obtain ⟨ok, ℓ, hs⟩ := h
  refine ⟨ok, ℓ, hs.defers, hs.size, fun t v h => hs.tmps t v (by rw [← e.t]; exact h), ⟨fun n cs h => hs.mem.box n cs (by rw [← e.b]; exact h), fun n t h => hs.mem.buf n t (by rw [← e.k]; exact h), fun n t h => hs.mem.arr n t (by rw [← e.k]; exact h),
    fun n h => by rw [e.k]; exact hs.mem.apart n (by rw [← e.b]; exact h), fun n m x hn hm => hs.mem.distinct n m x (hn.eqv e.b e.k) (hm.eqv e.b e.k), hs.mem.alive⟩, hs.ext, hs.sub, hs.sup, fun n x hx => hs.own n x (hx.eqv e.b e.k), hs.names,
    fun n hl h => hs.inH n hl (by rw [← e.b, ← e.k]; exact h)⟩

theorem Sim.drew {S : Start} {st : St} {a : Act} {w : World} (h : Sim X S st a w) : Sim X S st a { w with drawn := w.drawn + 1 } := by
  obtain ⟨ok, ℓ, hs⟩ := h
  exact ⟨ok, ℓ, hs.drew⟩

/-! ### Freshness, to be computed -/
def C.nms : C → List Name
  | .own k _ => [k]
  | .arr k _ => [k]
  | .lp k _ => [k]
  | .ap k _ _ => [k]
  | .bs k _ => [k]
  | .vw k _ _ => [k]
  | .rws k _ _ => [k]
  | .rp k _ _ => [k]
  | .fn _ caps => caps.map (·.1)
  | _ => []
def V.nms : V → List Name
  | .c x => x.nms
  | .agg cs => cs.flatMap C.nms
  | .tup _ => []
  | .ts _ cs => cs.flatMap C.nms
  | .g _ v => v.nms

theorem C.has_iff (c : C) (n : Name) : c.has n ↔ n ∈ c.nms := by
  cases c <;> simp [C.has, C.nms, eq_comm]
theorem V.has_iff (v : V) (n : Name) : v.has n ↔ n ∈ v.nms := by
  induction v with
  | c x => exact C.has_iff x n
  | agg cs => simp [V.has, V.nms, C.has_iff]
  | tup ds => simp [V.has, V.nms]
  | ts sh cs => simp [V.has, V.nms, C.has_iff]
  | g γ v ih => exact ih

/-- Nothing in the lists bears the name. -/
def FreeB (st : St) (n : Name) : Prop :=
  (∀ p ∈ st.t, n ∉ p.2.nms) ∧ (∀ p ∈ st.b, p.1 ≠ n ∧ ∀ c ∈ p.2, n ∉ c.nms) ∧ ∀ p ∈ st.k, p.1 ≠ n

theorem lk_none {κ α : Type} [DecidableEq κ] (l : List (κ × α)) (k : κ) (h : ∀ p ∈ l, p.1 ≠ k) : lk l k = none := by
  cases e : lk l k with
  | none => rfl
  | some v => exact absurd rfl (h _ (lk_mem l k v e))

theorem FreeB.free {st : St} {n : Name} (h : FreeB st n) : st.Free n where
  t t v hv hh := h.1 (t, v) (lk_mem _ _ _ hv) ((V.has_iff v n).1 hh)
  m := ⟨lk_none _ _ fun p hp => (h.2.1 p hp).1, lk_none _ _ h.2.2, fun m cs hm c hc hh => (h.2.1 (m, cs) (lk_mem _ _ _ hm)).2 c hc ((C.has_iff c n).1 hh)⟩

/-! ### In the order of the text -/
/-- The weakest demand of a reader. -/
def wp {α : Type} : Rd α → St → (α → Prop) → Prop
  | .ret a, _, Q => Q a
  | .fail, _, _ => False
  | .getT n f, st, Q => match lk st.t n with
    | some v => wp (f v) st Q
    | none => False
  | .getB n f, st, Q => match lk st.b n with
    | some v => wp (f v) st Q
    | none => False
  | .getK n f, st, Q => match lk st.k n with
    | some v => wp (f v) st Q
    | none => False
  | .need p r, st, Q => p ∧ wp r st Q
  | .exD f, st, Q => ∃ x, wp (f x) st Q
  | .exM f, st, Q => ∃ x b k, wp (f x b k) st Q
  | .case γ r s, st, Q => (γ = true → wp r st Q) ∧ (γ = false → wp s st Q)

theorem wp_runs {α : Type} : ∀ {r : Rd α} {st : St} {Q : α → Prop}, wp r st Q → ∃ R a, Runs r st R a ∧ Q a
  | .ret a, st, Q, h => ⟨[], a, .ret a st, h⟩
  | .fail, _, _, h => h.elim
  | .getT n f, st, Q, h => by
    simp only [wp] at h
    split at h
    · rename_i v hv
      obtain ⟨R, a, h1, h2⟩ := wp_runs h
      exact ⟨_ :: R, a, .getT hv h1, h2⟩
    · exact h.elim
  | .getB n f, st, Q, h => by
    simp only [wp] at h
    split at h
    · rename_i v hv
      obtain ⟨R, a, h1, h2⟩ := wp_runs h
      exact ⟨_ :: R, a, .getB hv h1, h2⟩
    · exact h.elim
  | .getK n f, st, Q, h => by
    simp only [wp] at h
    split at h
    · rename_i v hv
      obtain ⟨R, a, h1, h2⟩ := wp_runs h
      exact ⟨_ :: R, a, .getK hv h1, h2⟩
    · exact h.elim
  | .need p r, st, Q, h => let ⟨R, a, h1, h2⟩ := wp_runs h.2; ⟨R, a, .need h.1 h1, h2⟩
  | .exD f, st, Q, ⟨x, h⟩ => let ⟨R, a, h1, h2⟩ := wp_runs h; ⟨R, a, .exD x h1, h2⟩
  | .exM f, st, Q, ⟨x, b, k, h⟩ => let ⟨R, a, h1, h2⟩ := wp_runs h; ⟨R, a, .exM x b k h1, h2⟩
  | .case γ r s, st, Q, h => by
    cases γ with
    | true => obtain ⟨R, a, h1, h2⟩ := wp_runs (h.1 rfl); exact ⟨R, a, .caseT rfl h1, h2⟩
    | false => obtain ⟨R, a, h1, h2⟩ := wp_runs (h.2 rfl); exact ⟨R, a, .caseF rfl h1, h2⟩

def runOps (X : Ctx) (ops : Array Oper) : List Oper → St → (St → Prop) → Prop
  | [], st, Q => Q st
  | o :: l, st, Q => dstOk X o ∧ wp (opRun X ops o) st fun p => (∀ n ∈ p.2.new, FreeB st n) ∧ runOps X ops l (st.apply o.dst p.1 p.2) Q

theorem wpOps_of_runOps (hT : TOk X) {ops : Array Oper} {S : Start} {Q : Exit → Act → World → Prop} {Q' : St → Prop} (hQ : ∀ st a w, Q' st → Sim X S st a w → Q .normal a w) :
    ∀ (l : List Oper) (i : Nat) (st : St), ops.toList.drop i = l → runOps X ops l st Q' → ∀ a w, Sim X S st a w → wpOps X.P ops Q (List.range' i l.length) a w
  | [], i, st, _, h, a, w, hs => hQ st a w h hs
  | o :: l, i, st, hl, h, a, w, hs => by
    obtain ⟨hd, h⟩ := h
    obtain ⟨R, p, h1, h2, h3⟩ := wp_runs h
    have hi : ops[i]? = some o := by
      have := congrArg (fun l => l[0]?) hl
      simpa using this
    simp only [List.length_cons, List.range'_succ]
    rw [wpOps_cons]
    refine opRun_sound hT hd h1 (fun n hn => (h2 n hn).free) hs hi (fun a' w' hs' => ?_)
    refine wpOps_of_runOps hT hQ l (i + 1) _ ?_ h3 a' w' hs'
    have := congrArg List.tail hl
    simpa [List.tail_drop] using this

theorem region_sound (hT : TOk X) {ops : Array Oper} {id : Nat} {S : Start} {Q : Exit → Act → World → Prop} {Q' : St → Prop} (hQ : ∀ st a w, Q' st → Sim X S st a w → Q .normal a w) {st : St} (h : runOps X ops ops.toList st Q') {a : Act} {w : World} (hs : Sim X S st a w) :
    (Code.region id ops false).wp X.P Q a w := by
  refine wp_region ?_
  rw [List.range_eq_range', ← Array.length_toList]
  exact wpOps_of_runOps hT hQ ops.toList 0 st (by simp) h a w hs
end

end Go.Vam
