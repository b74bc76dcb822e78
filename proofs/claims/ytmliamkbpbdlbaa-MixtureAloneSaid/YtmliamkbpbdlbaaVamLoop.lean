/- The value-level machine, part 21: weaker demands; loops that are run a known number of times; loops with an invariant. Conditions: none. -/
import Derived.Test.YtmliamkbpbdlbaaVamRow
set_option linter.unusedVariables false
set_option linter.unusedSimpArgs false
namespace Go.Vam

theorem wp_mono' {α : Type} {Q Q' : α → Prop} (hq : ∀ a, Q a → Q' a) : ∀ {r : Rd α} {st : St}, wp r st Q → wp r st Q' := by
  intro r
  induction r with
  | ret a => intro st h; exact hq a h
  | fail => intro st h; exact h
  | getT n f ih => intro st h; simp only [wp] at h ⊢; split at h <;> simp_all
  | getB n f ih => intro st h; simp only [wp] at h ⊢; split at h <;> simp_all
  | getK n f ih => intro st h; simp only [wp] at h ⊢; split at h <;> simp_all
  | need p r ih => intro st h; exact ⟨h.1, ih h.2⟩
  | exD f ih => intro st h; obtain ⟨x, h⟩ := h; exact ⟨x, ih x h⟩
  | exM f ih => intro st h; obtain ⟨x, b, k, h⟩ := h; exact ⟨x, b, k, ih x b k h⟩
  | case γ r s ih ih' => intro st h; exact ⟨fun e => ih (h.1 e), fun e => ih' (h.2 e)⟩

theorem wpL_mono {α : Type} {Q Q' : List Key → α → Prop} (hq : ∀ R a, Q R a → Q' R a) : ∀ {r : Rd α} {st : St} {R : List Key}, wpL r st R Q → wpL r st R Q' := by
  intro r
  induction r with
  | ret a => intro st R h; exact hq R a h
  | fail => intro st R h; exact h
  | getT n f ih => intro st R h; simp only [wpL] at h ⊢; split at h <;> simp_all
  | getB n f ih => intro st R h; simp only [wpL] at h ⊢; split at h <;> simp_all
  | getK n f ih => intro st R h; simp only [wpL] at h ⊢; split at h <;> simp_all
  | need p r ih => intro st R h; exact ⟨h.1, ih h.2⟩
  | exD f ih => intro st R h; obtain ⟨x, h⟩ := h; exact ⟨x, ih x h⟩
  | exM f ih => intro st R h; obtain ⟨x, b, k, h⟩ := h; exact ⟨x, b, k, ih x b k h⟩
  | case γ r s ih ih' => intro st R h; exact ⟨fun e => ih (h.1 e), fun e => ih' (h.2 e)⟩

theorem runOps_mono {X : Ctx} {ops : Array Oper} {Q Q' : St → Prop} (hq : ∀ st, Q st → Q' st) : ∀ (l : List Oper) (st : St), runOps X ops l st Q → runOps X ops l st Q'
  | [], st, h => hq st h
  | o :: l, st, h => ⟨h.1, wp_mono' (fun p hp => ⟨hp.1, runOps_mono hq l _ hp.2⟩) h.2⟩

theorem runOpsL_mono {X : Ctx} {ops : Array Oper} {Q Q' : St → List Rec → Prop} (hq : ∀ st cs, Q st cs → Q' st cs) : ∀ (l : List Oper) (st : St) (cs : List Rec), runOpsL X ops l st cs Q → runOpsL X ops l st cs Q'
  | [], st, cs, h => hq st cs h
  | o :: l, st, cs, h => ⟨h.1, wpL_mono (fun R p hp => runOpsL_mono hq l _ _ hp) h.2⟩

theorem W_mono {X : Ctx} : ∀ (c : Code) {Q Q' : Exit → St → Prop} (hq : ∀ e st, Q e st → Q' e st) (st : St), W X c Q st → W X c Q' st := by
  intro c
  induction c with
  | skip => intro Q Q' hq st h; exact hq _ _ h
  | region id ops d =>
    intro Q Q' hq st h
    cases d with
    | false => exact runOps_mono (hq _) _ _ h
    | true => exact runOpsL_mono (fun st' cs hh => ⟨hh.1, hh.2.1, hq _ _ hh.2.2⟩) _ _ _ h
  | seq x y ihx ihy =>
    intro Q Q' hq st h
    refine ihx (fun e st' he => ?_) st h
    cases e with
    | normal => exact ihy hq st' he
    | _ => exact hq _ _ he
  | cond c x y ihx ihy =>
    intro Q Q' hq st h
    simp only [W] at h ⊢
    split at h
    · exact ⟨h.1, fun e => ihx hq st (h.2.1 e), fun e => ihy hq st (h.2.2 e)⟩
    · exact h.elim
  | block id c ih =>
    intro Q Q' hq st h
    refine ih (fun e st' he => ?_) st h
    cases e with
    | exit i =>
      simp only [inBlockS] at he ⊢
      split <;> rename_i hi
      · rw [if_pos hi] at he; exact hq _ _ he
      · rw [if_neg hi] at he; exact hq _ _ he
    | _ => exact hq _ _ he
  | loop c ih =>
    intro Q Q' hq st h
    obtain ⟨G, T, J, μ, h0, hr⟩ := h
    refine ⟨G, T, J, μ, h0, fun g hg => ih (fun e st' he => ?_) _ (hr g hg)⟩
    cases e with
    | normal => exact he
    | _ => exact hq _ _ he
  | exit id => intro Q Q' hq st h; exact hq _ _ h
  | ret => intro Q Q' hq st h; exact hq _ _ h
  | label l => intro Q Q' hq st h; exact hq _ _ h
  | _ => intro Q Q' hq st h; exact h.elim

/-- At most so many rounds. -/
def WRounds (X : Ctx) (c : Code) (Q : Exit → St → Prop) : Nat → St → Prop
  | 0, _ => False
  | n + 1, st => W X c (thenS (WRounds X c Q n) Q) st

theorem WLoop_rounds {X : Ctx} {c : Code} {Q : Exit → St → Prop} {st : St} (n : Nat) (h : WRounds X c Q n st) : WLoop X c Q st := by
  refine ⟨Nat × St, (·.2), fun g => WRounds X c Q g.1 g.2, (·.1), ⟨(n, st), h, .refl _ _⟩, ?_⟩
  rintro ⟨n, st⟩ h
  cases n with
  | zero => exact h.elim
  | succ n =>
    refine W_mono c (fun e st' he => ?_) st h
    cases e with
    | normal => exact ⟨(n, st'), he, .refl _ _, Nat.lt_succ_self n⟩
    | _ => exact he

theorem WRounds_succ {X : Ctx} {c : Code} {Q : Exit → St → Prop} {n : Nat} {st : St} : WRounds X c Q (n + 1) st = W X c (thenS (WRounds X c Q n) Q) st := Eq.trans rfl rfl

/-- With an invariant: what is left of the state at each round is written out. -/
theorem WLoop_inv {X : Ctx} {c : Code} {Q : Exit → St → Prop} {st : St} {G : Type} (T : G → St) (J : G → Prop) (μ : G → Nat) (g0 : G) (h0 : J g0) (hs : subT (T g0).t st.t) (hb : subB (T g0).b st.b) (hk : subK (T g0).k st.k)
    (hr : ∀ g, J g → W X c (thenS (fun st' => ∃ g', (subT (T g').t st'.t ∧ subB (T g').b st'.b ∧ subK (T g').k st'.k) ∧ J g' ∧ μ g' < μ g) Q) (T g)) : WLoop X c Q st := by
  refine ⟨G, T, J, μ, ⟨g0, h0, .of hs hb hk⟩, fun g hg => W_mono c (fun e st' he => ?_) _ (hr g hg)⟩
  cases e with
  | normal =>
    obtain ⟨g', ⟨h1, h2, h3⟩, h4, h5⟩ := he
    exact ⟨g', h4, .of h1 h2 h3, h5⟩
  | _ => exact he

/-- .. with the next one named. -/
theorem WLoop_nx {X : Ctx} {c : Code} {Q : Exit → St → Prop} {st : St} {G : Type} (T : G → St) (J : G → Prop) (μ : G → Nat) (nx : G → G) (g0 : G) (h0 : J g0) (hs : subT (T g0).t st.t ∧ subB (T g0).b st.b ∧ subK (T g0).k st.k)
    (hr : ∀ g, J g → W X c (thenS (fun st' => (subT (T (nx g)).t st'.t ∧ subB (T (nx g)).b st'.b ∧ subK (T (nx g)).k st'.k) ∧ J (nx g) ∧ μ (nx g) < μ g) Q) (T g)) : WLoop X c Q st :=
  WLoop_inv T J μ g0 h0 hs.1 hs.2.1 hs.2.2 (fun g hg => W_mono c (fun e st' he => by
    cases e with
    | normal => exact ⟨nx g, he.1, he.2⟩
    | _ => exact he) _ (hr g hg))

theorem subT_nil {m : List (Nat × V)} : subT [] m = True := Eq.trans rfl rfl
theorem subT_cons {t : Nat} {v : V} {l m : List (Nat × V)} : subT ((t, v) :: l) m = (oel (lk m t) (leV v) ∧ subT l m) := by
  simp only [subT]; cases lk m t <;> rfl

/-- What is not in 'ws', each name once. -/
def keep {κ α : Type} [DecidableEq κ] : List κ → List (κ × α) → List (κ × α)
  | _, [] => []
  | ws, p :: l => if p.1 ∈ ws then keep ws l else p :: keep (p.1 :: ws) l

theorem keep_nil {κ α : Type} [DecidableEq κ] {ws : List κ} : keep ws ([] : List (κ × α)) = [] := Eq.trans rfl rfl
theorem keep_cons {κ α : Type} [DecidableEq κ] {ws : List κ} {k : κ} {v : α} {l : List (κ × α)} : keep ws ((k, v) :: l) = if k ∈ ws then keep ws l else (k, v) :: keep (k :: ws) l := Eq.trans rfl rfl

theorem lk_keep {κ α : Type} [DecidableEq κ] : ∀ (l : List (κ × α)) (ws : List κ) (k : κ) (v : α), lk (keep ws l) k = some v → k ∉ ws ∧ lk l k = some v
  | [], ws, k, v, h => by simp [keep, lk] at h
  | (k', v') :: l, ws, k, v, h => by
    rw [keep_cons] at h
    split at h
    · rename_i hm
      obtain ⟨h1, h2⟩ := lk_keep l ws k v h
      have : k' ≠ k := fun e => h1 (e ▸ hm)
      exact ⟨h1, by rw [lk_cons_ne _ _ this]; exact h2⟩
    · rename_i hm
      by_cases e : k' = k
      · subst e
        rw [lk_cons_same] at h ⊢
        exact ⟨hm, h⟩
      · rw [lk_cons_ne _ _ e] at h ⊢
        obtain ⟨h1, h2⟩ := lk_keep l _ k v h
        exact ⟨fun hh => h1 (List.mem_cons_of_mem _ hh), h2⟩

theorem leC_refl (c : C) : leC c c := by
  cases c with
  | d x => cases x <;> rfl
  | _ => rfl
theorem leCs_refl : ∀ cs : List C, leCs cs cs
  | [] => trivial
  | c :: cs => ⟨leC_refl c, leCs_refl cs⟩
theorem leV_refl : ∀ v : V, leV v v
  | .c x => leC_refl x
  | .agg cs => leCs_refl cs
  | .tup _ => rfl
  | .ts _ cs => ⟨rfl, leCs_refl cs⟩
  | .g _ _ => ⟨rfl, rfl⟩
theorem leV_same {v : V} : leV v v = True := eq_true (leV_refl v)
theorem leCs_same {cs : List C} : leCs cs cs = True := eq_true (leCs_refl cs)

theorem subT_of {l m : List (Nat × V)} (h : ∀ t v, lk l t = some v → ∃ v', lk m t = some v' ∧ leV v v') (hd : (l.map (·.1)).Nodup) : subT l m := by
  induction l with
  | nil => trivial
  | cons p l ih =>
    obtain ⟨t, v⟩ := p
    rw [List.map_cons, List.nodup_cons] at hd
    rw [subT_cons]
    refine ⟨?_, ih (fun t' v' h' => ?_) hd.2⟩
    · obtain ⟨v', h1, h2⟩ := h t v (lk_cons_same _ _ _)
      rw [h1]; exact h2
    · refine h t' v' ?_
      have : t ≠ t' := fun e => hd.1 (e ▸ List.mem_map.2 ⟨_, lk_mem _ _ _ h', rfl⟩)
      rw [lk_cons_ne _ _ this]; exact h'

theorem keep_nodup {κ α : Type} [DecidableEq κ] : ∀ (l : List (κ × α)) (ws : List κ), ((keep ws l).map (·.1)).Nodup
  | [], ws => by simp [keep]
  | (k, v) :: l, ws => by
    rw [keep_cons]
    split
    · exact keep_nodup l ws
    · rw [List.map_cons, List.nodup_cons]
      refine ⟨fun h => ?_, keep_nodup l _⟩
      obtain ⟨p, hp, e⟩ := List.mem_map.1 h
      have hs : ∀ (l : List (κ × α)) (ws : List κ) (p : κ × α), p ∈ keep ws l → p.1 ∉ ws := by
        intro l
        induction l with
        | nil => intro ws p h; simp [keep] at h
        | cons q l ih =>
          obtain ⟨k', v'⟩ := q
          intro ws p h
          rw [keep_cons] at h
          split at h
          · exact ih ws p h
          · rename_i hn
            rcases List.mem_cons.1 h with e | h
            · rw [e]; exact hn
            · exact fun hh => ih _ p h (List.mem_cons_of_mem _ hh)
      exact hs l _ p hp (by simp [show p.1 = k from e])

theorem subT_append {a b m : List (Nat × V)} (h1 : subT a m) (h2 : subT b m) : subT (a ++ b) m := by
  induction a with
  | nil => exact h2
  | cons p a ih => obtain ⟨t, v⟩ := p; simp only [subT] at h1; simp only [List.cons_append, subT]; exact ⟨h1.1, ih h1.2⟩
theorem subB_append {a b m : Boxes} (h1 : subB a m) (h2 : subB b m) : subB (a ++ b) m := by
  induction a with
  | nil => exact h2
  | cons p a ih => obtain ⟨t, v⟩ := p; simp only [subB] at h1; simp only [List.cons_append, subB]; exact ⟨h1.1, ih h1.2⟩
theorem subK_append {a b m : Toks} (h1 : subK a m) (h2 : subK b m) : subK (a ++ b) m := by
  induction a with
  | nil => exact h2
  | cons p a ih => obtain ⟨t, v⟩ := p; simp only [subK] at h1; simp only [List.cons_append, subK]; exact ⟨h1.1, ih h1.2⟩

theorem subB_of {l m : Boxes} (h : ∀ t v, lk l t = some v → ∃ v', lk m t = some v' ∧ leCs v v') (hd : (l.map (·.1)).Nodup) : subB l m := by
  induction l with
  | nil => trivial
  | cons p l ih =>
    obtain ⟨t, v⟩ := p
    rw [List.map_cons, List.nodup_cons] at hd
    simp only [subB]
    refine ⟨?_, ih (fun t' v' h' => ?_) hd.2⟩
    · obtain ⟨v', h1, h2⟩ := h t v (lk_cons_same _ _ _)
      rw [h1]; exact h2
    · refine h t' v' ?_
      have : t ≠ t' := fun e => hd.1 (e ▸ List.mem_map.2 ⟨_, lk_mem _ _ _ h', rfl⟩)
      rw [lk_cons_ne _ _ this]; exact h'
theorem subK_of {l m : Toks} (h : ∀ t v, lk l t = some v → lk m t = some v) (hd : (l.map (·.1)).Nodup) : subK l m := by
  induction l with
  | nil => trivial
  | cons p l ih =>
    obtain ⟨t, v⟩ := p
    rw [List.map_cons, List.nodup_cons] at hd
    simp only [subK]
    refine ⟨?_, ih (fun t' v' h' => ?_) hd.2⟩
    · rw [h t v (lk_cons_same _ _ _)]
    · refine h t' v' ?_
      have : t ≠ t' := fun e => hd.1 (e ▸ List.mem_map.2 ⟨_, lk_mem _ _ _ h', rfl⟩)
      rw [lk_cons_ne _ _ this]; exact h'

theorem subT_keep (l : List (Nat × V)) (ws : List Nat) : subT (keep ws l) l :=
  subT_of (fun t v h => ⟨v, (lk_keep l ws t v h).2, leV_refl v⟩) (keep_nodup l ws)
theorem subB_keep (l : Boxes) (ws : List Name) : subB (keep ws l) l :=
  subB_of (fun t v h => ⟨v, (lk_keep l ws t v h).2, leCs_refl v⟩) (keep_nodup l ws)
theorem subK_keep (l : Toks) (ws : List Name) : subK (keep ws l) l :=
  subK_of (fun t v h => (lk_keep l ws t v h).2) (keep_nodup l ws)

/-- The slots that code writes. -/
def dstL : List Oper → List Nat
  | [] => []
  | o :: l => o.dst.toList ++ dstL l
def dsts : Code → List Nat
  | .region _ ops _ => dstL ops.toList
  | .seq a b => dsts a ++ dsts b
  | .cond _ a b => dsts a ++ dsts b
  | .block _ c => dsts c
  | .loop c => dsts c
  | _ => []
theorem dstL_nil : dstL [] = [] := Eq.trans rfl rfl
theorem dstL_cons {o : Oper} {l : List Oper} : dstL (o :: l) = o.dst.toList ++ dstL l := Eq.trans rfl rfl
theorem dsts_region {id : Nat} {l : List Oper} {d : Bool} : dsts (.region id (List.toArray l) d) = dstL l := Eq.trans rfl rfl
theorem dsts_seq {a b : Code} : dsts (.seq a b) = dsts a ++ dsts b := Eq.trans rfl rfl
theorem dsts_cond {x : Operand} {a b : Code} : dsts (.cond x a b) = dsts a ++ dsts b := Eq.trans rfl rfl
theorem dsts_block {id : Nat} {a : Code} : dsts (.block id a) = dsts a := Eq.trans rfl rfl
theorem dsts_loop {a : Code} : dsts (.loop a) = dsts a := Eq.trans rfl rfl
theorem dsts_skip : dsts .skip = [] := Eq.trans rfl rfl
theorem dsts_exit {id : Nat} : dsts (.exit id) = [] := Eq.trans rfl rfl
theorem dsts_ret : dsts .ret = [] := Eq.trans rfl rfl

/-- A loop with an invariant: what it changes is written out; the rest stays. -/
theorem WLoop_keep {X : Ctx} {c : Code} {Q : Exit → St → Prop} {st : St} {G : Type} (T : G → St) (J : G → Prop) (μ : G → Nat) (nx : G → G) (g0 : G) (h0 : J g0)
    (hs : subT (T g0).t st.t ∧ subB (T g0).b st.b ∧ subK (T g0).k st.k)
    (hr : ∀ g, J g → W X c (thenS (fun st' => (subT ((T (nx g)).t ++ keep (dsts c) st.t) st'.t ∧ subB ((T (nx g)).b ++ keep ((T g0).b.map (·.1)) st.b) st'.b ∧ subK ((T (nx g)).k ++ keep ((T g0).k.map (·.1)) st.k) st'.k) ∧ J (nx g) ∧ μ (nx g) < μ g) Q)
      ⟨(T g).t ++ keep (dsts c) st.t, (T g).b ++ keep ((T g0).b.map (·.1)) st.b, (T g).k ++ keep ((T g0).k.map (·.1)) st.k⟩) : WLoop X c Q st :=
  WLoop_nx (fun g => ⟨(T g).t ++ keep (dsts c) st.t, (T g).b ++ keep ((T g0).b.map (·.1)) st.b, (T g).k ++ keep ((T g0).k.map (·.1)) st.k⟩) J μ nx g0 h0
    ⟨subT_append hs.1 (subT_keep _ _), subB_append hs.2.1 (subB_keep _ _), subK_append hs.2.2 (subK_keep _ _)⟩ hr

/-! ### The demand with every loop unrolled: at most 'n' rounds each -/
def WU (X : Ctx) (n : Nat) : Code → (Exit → St → Prop) → St → Prop
  | .skip, Q, st => Q .normal st
  | .region id ops d, Q, st => W X (.region id ops d) Q st
  | .seq a b, Q, st => WU X n a (thenS (WU X n b Q) Q) st
  | .cond c x y, Q, st => oel (condS c st) fun p => p.1 = true ∧ (p.2 = true → WU X n x Q st) ∧ (p.2 = false → WU X n y Q st)
  | .block id c, Q, st => WU X n c (inBlockS id Q) st
  | .loop c, Q, st => Nat.rec (motive := fun _ => St → Prop) (fun _ => False) (fun _ ih st => WU X n c (thenS ih Q) st) n st
  | .exit id, Q, st => Q (.exit id) st
  | .ret, Q, st => Q .ret st
  | .label _, Q, st => Q .normal st
  | _, _, _ => False

def WUr (X : Ctx) (n : Nat) (c : Code) (Q : Exit → St → Prop) : Nat → St → Prop
  | 0, _ => False
  | k + 1, st => WU X n c (thenS (WUr X n c Q k) Q) st

theorem WUr_eq {X : Ctx} {n : Nat} {c : Code} {Q : Exit → St → Prop} : ∀ (k : Nat), (Nat.rec (motive := fun _ => St → Prop) (fun _ => False) (fun _ ih st => WU X n c (thenS ih Q) st) k) = WUr X n c Q k
  | 0 => by funext st; rfl
  | k + 1 => by
    funext st
    show WU X n c (thenS (Nat.rec (motive := fun _ => St → Prop) (fun _ => False) (fun _ ih st => WU X n c (thenS ih Q) st) k) Q) st = _
    rw [WUr_eq k]
    rfl

theorem WU_sound {X : Ctx} {n : Nat} : ∀ (c : Code) (Q : Exit → St → Prop) (st : St), WU X n c Q st → W X c Q st := by
  intro c
  induction c with
  | skip => intro Q st h; exact h
  | region id ops d => intro Q st h; exact h
  | seq x y ihx ihy =>
    intro Q st h
    refine W_mono x (fun e st' he => ?_) st (ihx _ st h)
    cases e with
    | normal => exact ihy Q st' he
    | _ => exact he
  | cond c x y ihx ihy =>
    intro Q st h
    simp only [WU] at h
    rw [W_cond]
    cases hc : condS c st with
    | none => rw [hc] at h; exact h.elim
    | some p => rw [hc] at h; exact ⟨h.1, fun e => ihx Q st (h.2.1 e), fun e => ihy Q st (h.2.2 e)⟩
  | block id c ih => intro Q st h; exact ih _ st h
  | loop c ih =>
    intro Q st h
    simp only [WU, WUr_eq] at h
    have key : ∀ k st, WUr X n c Q k st → WRounds X c Q k st := by
      intro k
      induction k with
      | zero => intro st h; exact h
      | succ k ihk =>
        intro st h
        refine W_mono c (fun e st' he => ?_) st (ih _ st h)
        cases e with
        | normal => exact ihk st' he
        | _ => exact he
    exact WLoop_rounds n (key n st h)
  | exit id => intro Q st h; exact h
  | ret => intro Q st h; exact h
  | label l => intro Q st h; exact h
  | _ => intro Q st h; exact h.elim

@[congr] theorem WU_congr {X : Ctx} {n : Nat} {c : Code} {st st' : St} {Q : Exit → St → Prop} (h : ∀ _ : Unit, st = st') : WU X n c Q st = WU X n c Q st' := by rw [h ()]
@[congr] theorem WUr_congr {X : Ctx} {n k : Nat} {c : Code} {st st' : St} {Q : Exit → St → Prop} (h : ∀ _ : Unit, st = st') : WUr X n c Q k st = WUr X n c Q k st' := by rw [h ()]
section
variable {X : Ctx} {n : Nat} {st : St} {Q : Exit → St → Prop}
theorem WU_skip : WU X n .skip Q st = Q .normal st := Eq.trans rfl rfl
theorem WU_region {id : Nat} {l : List Oper} : WU X n (.region id (List.toArray l) false) Q st = runOps X (List.toArray l) l st (Q .normal) := Eq.trans rfl rfl
theorem WU_drawn {id : Nat} {l : List Oper} : WU X n (.region id (List.toArray l) true) Q st = runOpsL X (List.toArray l) l st [] fun st' cs => drawAll st (List.toArray l) cs = true ∧ Q .normal st' := W_drawn
theorem WU_seq {a b : Code} : WU X n (.seq a b) Q st = WU X n a (thenS (WU X n b Q) Q) st := Eq.trans rfl rfl
theorem WU_cond {c : Operand} {x y : Code} : WU X n (.cond c x y) Q st = oel (condS c st) fun p => p.1 = true ∧ (p.2 = true → WU X n x Q st) ∧ (p.2 = false → WU X n y Q st) := Eq.trans rfl rfl
theorem WU_block {id : Nat} {c : Code} : WU X n (.block id c) Q st = WU X n c (inBlockS id Q) st := Eq.trans rfl rfl
theorem WU_exit {id : Nat} : WU X n (.exit id) Q st = Q (.exit id) st := Eq.trans rfl rfl
theorem WU_ret : WU X n .ret Q st = Q .ret st := Eq.trans rfl rfl
theorem WU_loop {c : Code} : WU X n (.loop c) Q st = WUr X n c Q n st := by simp only [WU, WUr_eq]
theorem WUr_zero {c : Code} : WUr X n c Q 0 st = False := Eq.trans rfl rfl
theorem WUr_succ {c : Code} {k : Nat} : WUr X n c Q (k + 1) st = WU X n c (thenS (WUr X n c Q k) Q) st := Eq.trans rfl rfl
end

/-! ### Elements of lists of numbers that are written out -/
section
variable {k : IntKind} {z a0 a1 a2 a3 a4 a5 a6 a7 a8 a9 : Int} {i : Nat}
theorem gi1 : (([D.int k a0] : List D)[i]?).getD (D.int k z) = D.int k (([a0] : List Int)[i]?.getD z) := by
  match i with
  | 0 => rfl
  | j + 1 => rfl
theorem gi2 : (([D.int k a0, D.int k a1] : List D)[i]?).getD (D.int k z) = D.int k (([a0, a1] : List Int)[i]?.getD z) := by
  match i with
  | 0 => rfl
  | 1 => rfl
  | j + 2 => rfl
theorem gi3 : (([D.int k a0, D.int k a1, D.int k a2] : List D)[i]?).getD (D.int k z) = D.int k (([a0, a1, a2] : List Int)[i]?.getD z) := by
  match i with
  | 0 => rfl
  | 1 => rfl
  | 2 => rfl
  | j + 3 => rfl
theorem gi4 : (([D.int k a0, D.int k a1, D.int k a2, D.int k a3] : List D)[i]?).getD (D.int k z) = D.int k (([a0, a1, a2, a3] : List Int)[i]?.getD z) := by
  match i with
  | 0 => rfl
  | 1 => rfl
  | 2 => rfl
  | 3 => rfl
  | j + 4 => rfl
theorem gi5 : (([D.int k a0, D.int k a1, D.int k a2, D.int k a3, D.int k a4] : List D)[i]?).getD (D.int k z) = D.int k (([a0, a1, a2, a3, a4] : List Int)[i]?.getD z) := by
  match i with
  | 0 => rfl
  | 1 => rfl
  | 2 => rfl
  | 3 => rfl
  | 4 => rfl
  | j + 5 => rfl
theorem gi6 : (([D.int k a0, D.int k a1, D.int k a2, D.int k a3, D.int k a4, D.int k a5] : List D)[i]?).getD (D.int k z) = D.int k (([a0, a1, a2, a3, a4, a5] : List Int)[i]?.getD z) := by
  match i with
  | 0 => rfl
  | 1 => rfl
  | 2 => rfl
  | 3 => rfl
  | 4 => rfl
  | 5 => rfl
  | j + 6 => rfl
theorem gi7 : (([D.int k a0, D.int k a1, D.int k a2, D.int k a3, D.int k a4, D.int k a5, D.int k a6] : List D)[i]?).getD (D.int k z) = D.int k (([a0, a1, a2, a3, a4, a5, a6] : List Int)[i]?.getD z) := by
  match i with
  | 0 => rfl
  | 1 => rfl
  | 2 => rfl
  | 3 => rfl
  | 4 => rfl
  | 5 => rfl
  | 6 => rfl
  | j + 7 => rfl
theorem gi8 : (([D.int k a0, D.int k a1, D.int k a2, D.int k a3, D.int k a4, D.int k a5, D.int k a6, D.int k a7] : List D)[i]?).getD (D.int k z) = D.int k (([a0, a1, a2, a3, a4, a5, a6, a7] : List Int)[i]?.getD z) := by
  match i with
  | 0 => rfl
  | 1 => rfl
  | 2 => rfl
  | 3 => rfl
  | 4 => rfl
  | 5 => rfl
  | 6 => rfl
  | 7 => rfl
  | j + 8 => rfl
theorem gi9 : (([D.int k a0, D.int k a1, D.int k a2, D.int k a3, D.int k a4, D.int k a5, D.int k a6, D.int k a7, D.int k a8] : List D)[i]?).getD (D.int k z) = D.int k (([a0, a1, a2, a3, a4, a5, a6, a7, a8] : List Int)[i]?.getD z) := by
  match i with
  | 0 => rfl
  | 1 => rfl
  | 2 => rfl
  | 3 => rfl
  | 4 => rfl
  | 5 => rfl
  | 6 => rfl
  | 7 => rfl
  | 8 => rfl
  | j + 9 => rfl
theorem gi10 : (([D.int k a0, D.int k a1, D.int k a2, D.int k a3, D.int k a4, D.int k a5, D.int k a6, D.int k a7, D.int k a8, D.int k a9] : List D)[i]?).getD (D.int k z) = D.int k (([a0, a1, a2, a3, a4, a5, a6, a7, a8, a9] : List Int)[i]?.getD z) := by
  match i with
  | 0 => rfl
  | 1 => rfl
  | 2 => rfl
  | 3 => rfl
  | 4 => rfl
  | 5 => rfl
  | 6 => rfl
  | 7 => rfl
  | 8 => rfl
  | 9 => rfl
  | j + 10 => rfl
end

theorem wrapN (n : Nat) (h : n < 9223372036854775807) : IntKind.i64.wrap (((n : Nat) : Int) + 1) = ((n + 1 : Nat) : Int) := by
  rw [IntWalk.i64_in _ (by omega)]; omega

theorem i64_lit {n : Int} (h0 : -9223372036854775808 ≤ n) (h1 : n ≤ 9223372036854775807) : IntKind.i64.wrap n = n := IntWalk.i64_in n ⟨h0, h1⟩
theorem i32_lit {n : Int} (h0 : -2147483648 ≤ n) (h1 : n ≤ 2147483647) : IntKind.i32.wrap n = n := IntWalk.i32_in n ⟨h0, h1⟩

end Go.Vam
