/- The value-level machine, part 9: comparisons, indexing, slicing, struct literals. Conditions: none. -/
import Derived.Test.YtmliamkbpbdlbaaVamSnd2
set_option linter.unusedVariables false
set_option linter.unusedSimpArgs false
namespace Go.Vam

/-! ### Equality of structs -/
def vcellsEq : List Value → List Value → Option Bool
  | [], [] => some true
  | .int k a :: l, .int k' b :: m => if k = k' then (vcellsEq l m).map (fun r => (a == b) && r) else none
  | .bool a :: l, .bool b :: m => (vcellsEq l m).map (fun r => (a == b) && r)
  | _, _ => none

def vkinds : List Value → Option (List Bool)
  | [] => some []
  | .int _ _ :: l => (vkinds l).map (true :: ·)
  | .bool _ :: l => (vkinds l).map (false :: ·)
  | _ => none

theorem vcellsEq_len : ∀ (l m : List Value) (b : Bool), vcellsEq l m = some b → l.length = m.length
  | [], [], _, _ => rfl
  | [], _ :: _, _, h => by simp [vcellsEq] at h
  | v :: l, [], b, h => by cases v <;> simp [vcellsEq] at h
  | v :: l, u :: m, b, h => by
    cases v <;> cases u <;> simp only [vcellsEq, reduceCtorEq] at h
    · obtain ⟨r, hr, _⟩ := Option.map_eq_some_iff.1 h
      simp [vcellsEq_len l m r hr]
    · split at h
      · obtain ⟨r, hr, _⟩ := Option.map_eq_some_iff.1 h
        simp [vcellsEq_len l m r hr]
      · cases h

theorem vcellsEq_append : ∀ (l m l' m' : List Value) (b : Bool), l.length = m.length → vcellsEq (l ++ l') (m ++ m') = some b → ∃ p q, vcellsEq l m = some p ∧ vcellsEq l' m' = some q ∧ b = (p && q)
  | [], [], l', m', b, _, h => ⟨true, b, rfl, h, by simp⟩
  | [], _ :: _, _, _, _, e, _ => by simp at e
  | _ :: _, [], _, _, _, e, _ => by simp at e
  | v :: l, u :: m, l', m', b, e, h => by
    simp only [List.length_cons, Nat.add_right_cancel_iff] at e
    cases v <;> cases u <;> simp only [List.cons_append, vcellsEq, reduceCtorEq] at h ⊢
    · obtain ⟨r, hr, rfl⟩ := Option.map_eq_some_iff.1 h
      obtain ⟨p, q, h1, h2, rfl⟩ := vcellsEq_append l m l' m' r e hr
      exact ⟨_, q, by rw [h1]; rfl, h2, by simp [Bool.and_assoc]⟩
    · split at h
      · rename_i hk
        obtain ⟨r, hr, rfl⟩ := Option.map_eq_some_iff.1 h
        obtain ⟨p, q, h1, h2, rfl⟩ := vcellsEq_append l m l' m' r e hr
        exact ⟨_, q, by rw [if_pos hk, h1]; rfl, h2, by simp [Bool.and_assoc]⟩
      · cases h

theorem vcellsEq_of {ok ℓ w} : ∀ (cs ds : List C) (l m : List Value) (b : Bool), RCs ok ℓ w l.toArray cs → RCs ok ℓ w m.toArray ds → cellsEq cs ds = some b → vcellsEq l m = some b
  | [], [], l, m, b, h1, h2, h => by
    have e1 : l = [] := by have := h1.1; simpa using this
    have e2 : m = [] := by have := h2.1; simpa using this
    subst e1; subst e2; simpa [cellsEq, vcellsEq] using h
  | [], _ :: _, _, _, _, _, _, h => by simp [cellsEq] at h
  | c :: cs, [], _, _, _, _, _, h => by
    cases c with
    | d x => cases x <;> simp [cellsEq] at h
    | _ => simp [cellsEq] at h
  | c :: cs, d :: ds, l, m, b, h1, h2, h => by
    cases l with
    | nil => have := h1.1; simp at this
    | cons v l =>
      cases m with
      | nil => have := h2.1; simp at this
      | cons u m =>
        have hv : RC ok ℓ w v c := h1.2 0 v c (by simp) (by simp)
        have hu : RC ok ℓ w u d := h2.2 0 u d (by simp) (by simp)
        have h1' : RCs ok ℓ w l.toArray cs := ⟨by have := h1.1; simpa using this, fun i x y hx hy => h1.2 (i + 1) x y (by simpa using hx) (by simpa using hy)⟩
        have h2' : RCs ok ℓ w m.toArray ds := ⟨by have := h2.1; simpa using this, fun i x y hx hy => h2.2 (i + 1) x y (by simpa using hx) (by simpa using hy)⟩
        unfold cellsEq at h
        split at h
        case h_1 => rename_i e1 e2; cases e1
        case h_4 => cases h
        case h_2 =>
          rename_i k a l0 k' b' m0 e1 e2
          cases e1; cases e2
          have ev := hv.1.int_inv
          have eu := hu.1.int_inv
          subst ev; subst eu
          split at h
          · rename_i hk
            obtain ⟨r, hr, rfl⟩ := Option.map_eq_some_iff.1 h
            simp only [vcellsEq, if_pos hk, vcellsEq_of cs ds l m r h1' h2' hr]
            rfl
          · cases h
        case h_3 =>
          rename_i a l0 b' m0 e1 e2
          cases e1; cases e2
          have ev := hv.1.bool_inv
          have eu := hu.1.bool_inv
          subst ev; subst eu
          obtain ⟨r, hr, rfl⟩ := Option.map_eq_some_iff.1 h
          simp only [vcellsEq, vcellsEq_of cs ds l m r h1' h2' hr]
          rfl

theorem vcellsEq_kinds : ∀ (l m : List Value) (b : Bool), vcellsEq l m = some b → ∀ ks, vkinds l = some ks → vkinds m = some ks
  | [], [], _, _, _, h => h
  | [], _ :: _, _, h, _, _ => by simp [vcellsEq] at h
  | v :: l, [], b, h, _, _ => by cases v <;> simp [vcellsEq] at h
  | v :: l, u :: m, b, h, ks, hk => by
    cases v <;> cases u <;> simp only [vcellsEq, reduceCtorEq] at h
    · obtain ⟨r, hr, _⟩ := Option.map_eq_some_iff.1 h
      simp only [vkinds] at hk ⊢
      obtain ⟨k', hk', e⟩ := Option.map_eq_some_iff.1 hk
      rw [vcellsEq_kinds l m r hr k' hk']; simpa using e
    · split at h
      · obtain ⟨r, hr, _⟩ := Option.map_eq_some_iff.1 h
        simp only [vkinds] at hk ⊢
        obtain ⟨k', hk', e⟩ := Option.map_eq_some_iff.1 hk
        rw [vcellsEq_kinds l m r hr k' hk']; simpa using e
      · cases h

theorem vkinds_len : ∀ (l : List Value) (ks : List Bool), vkinds l = some ks → l.length = ks.length
  | [], ks, h => by simp [vkinds] at h; subst h; rfl
  | v :: l, ks, h => by
    cases v <;> simp only [vkinds, reduceCtorEq] at h
    all_goals
      obtain ⟨k', hk', rfl⟩ := Option.map_eq_some_iff.1 h
      simp [vkinds_len l k' hk']

theorem vkinds_append : ∀ (l l' : List Value) (ks : List Bool), vkinds (l ++ l') = some ks → ∃ a b, vkinds l = some a ∧ vkinds l' = some b ∧ ks = a ++ b
  | [], l', ks, h => ⟨[], ks, rfl, h, rfl⟩
  | v :: l, l', ks, h => by
    cases v <;> simp only [List.cons_append, vkinds, reduceCtorEq] at h
    all_goals
      obtain ⟨k', hk', rfl⟩ := Option.map_eq_some_iff.1 h
      obtain ⟨a, b, h1, h2, rfl⟩ := vkinds_append l l' k' hk'
      exact ⟨_ :: a, b, by simp only [vkinds, h1]; rfl, h2, rfl⟩

theorem vkinds_of {ok ℓ w} : ∀ (cs : List C) (l : List Value) (ks : List Bool), RCs ok ℓ w l.toArray cs → cellKinds cs = some ks → vkinds l = some ks
  | [], l, ks, h1, h => by
    have e1 : l = [] := by have := h1.1; simpa using this
    subst e1; simpa [cellKinds, vkinds] using h
  | c :: cs, l, ks, h1, h => by
    cases l with
    | nil => have := h1.1; simp at this
    | cons v l =>
      have hv : RC ok ℓ w v c := h1.2 0 v c (by simp) (by simp)
      have h1' : RCs ok ℓ w l.toArray cs := ⟨by have := h1.1; simpa using this, fun i x y hx hy => h1.2 (i + 1) x y (by simpa using hx) (by simpa using hy)⟩
      unfold cellKinds at h
      split at h
      case h_1 => rename_i e1; cases e1
      case h_4 => cases h
      case h_2 =>
        rename_i k a l0 e1
        cases e1
        have ev := hv.1.int_inv
        subst ev
        obtain ⟨r, hr, rfl⟩ := Option.map_eq_some_iff.1 h
        simp only [vkinds, vkinds_of cs l r h1' hr]; rfl
      case h_3 =>
        rename_i a l0 e1
        cases e1
        have ev := hv.1.bool_inv
        subst ev
        obtain ⟨r, hr, rfl⟩ := Option.map_eq_some_iff.1 h
        simp only [vkinds, vkinds_of cs l r h1' hr]; rfl

/-- The value of a type at a place of a row. -/
def valAt (P : Program) (t : TypeId) (xs : Array Value) (off n : Nat) : Value :=
  match P.underlying t with
  | some (.struct _) => .agg (xs.extract off (off + n))
  | _ => xs.getD off default

theorem take_drop_split {β : Type} (l : List β) (off a b : Nat) : cut l off (a + b) = cut l off a ++ cut l (off + a) b := by
  unfold cut
  rw [List.take_add]
  congr 1
  rw [List.drop_drop]

theorem cut_one (xs : Array Value) (off : Nat) (h : off < xs.size) : cut xs.toList off 1 = [xs.getD off default] := by
  apply List.ext_getElem?
  intro j
  rw [cut_getElem]
  cases j with
  | zero => simp [Array.getD, h]
  | succ j => simp

theorem cut_extract (xs : Array Value) (off a b n : Nat) (h : a + b ≤ n) : cut (xs.extract off (off + n)).toList a b = cut xs.toList (off + a) b := by
  apply List.ext_getElem?
  intro j
  rw [cut_getElem, cut_getElem]
  split
  · rw [Array.getElem?_toList, Array.getElem?_toList, Array.getElem?_extract]
    split
    · rw [Nat.add_assoc]
    · rw [Array.getElem?_eq_none (by omega)]
  · rfl

/-- Equality at a type, of two rows' parts. -/
def EqAt (P : Program) (w : World) (d : Nat) : Prop :=
  ∀ (t : TypeId) (ks : List Bool), flatT P d t = some ks → ∀ (D : Nat), d ≤ D → ∀ (xs ys : Array Value) (off : Nat) (b : Bool), off + ks.length ≤ xs.size → off + ks.length ≤ ys.size →
    vkinds (cut xs.toList off ks.length) = some ks → vcellsEq (cut xs.toList off ks.length) (cut ys.toList off ks.length) = some b →
    (Op.equalIn D t (valAt P t xs off ks.length) (valAt P t ys off ks.length)).run P w = .ok b w

theorem eqFs_flat {P : Program} (w : World) (d : Nat) (ih : EqAt P w d) : ∀ (fs : List Field) (off : Nat) (ks : List Bool), flatFs P (flatT P d) fs off = some ks → ∀ (D : Nat), d ≤ D → ∀ (xs ys : Array Value) (b : Bool),
    off + ks.length ≤ xs.size → off + ks.length ≤ ys.size → vkinds (cut xs.toList off ks.length) = some ks → vcellsEq (cut xs.toList off ks.length) (cut ys.toList off ks.length) = some b → (Op.eqFields D xs ys fs).run P w = .ok b w
  | [], off, ks, h, D, hD, xs, ys, b, hx, hy, hk, he => by
    simp only [flatFs, Option.some.injEq] at h
    subst h
    simp only [cut, List.length_nil, List.take_zero, vcellsEq, Option.some.injEq] at he
    subst he
    rfl
  | f :: fs, off, ks, h, D, hD, xs, ys, b, hx, hy, hk, he => by
    simp only [flatFs] at h
    split at h
    case isFalse => cases h
    rename_i hname
    split at h
    case h_2 => cases h
    rename_i m hm
    split at h
    case isFalse => cases h
    rename_i hag
    obtain ⟨r, hr, rfl⟩ := Option.map_eq_some_iff.1 h
    simp only [List.length_append] at hx hy hk he
    rw [take_drop_split xs.toList] at hk
    rw [take_drop_split xs.toList, take_drop_split ys.toList] at he
    obtain ⟨p, q, h1, h2, rfl⟩ := vcellsEq_append _ _ _ _ _ (by rw [cut_length _ _ _ (by simp; omega), cut_length _ _ _ (by simp; omega)]) he
    obtain ⟨ka, kb, h3, h4, e⟩ := vkinds_append _ _ _ hk
    have hla : ka.length = m.length := by rw [← vkinds_len _ _ h3, cut_length _ _ _ (by simp; omega)]
    obtain ⟨rfl, rfl⟩ := List.append_inj e.symm hla
    have hf := ih f.type ka hm D hD xs ys off p (by omega) (by omega) h3 h1
    have hr' := eqFs_flat w d ih fs (off + ka.length) kb hr D hD xs ys q (by omega) (by omega) h4 h2
    have hpart : ∀ zs : Array Value, off + (ka.length + kb.length) ≤ zs.size → (part f.type zs f.offset).run P w = .ok (valAt P f.type zs off ka.length) w := by
      intro zs hz
      rw [hname.2]
      unfold aggSize at hag
      cases d with
      | zero => simp [flatT] at hm
      | succ d =>
        unfold flatT at hm
        split at hm
        · rename_i k hu
          simp only [Option.some.injEq] at hm
          subst hm
          have : off < zs.size := by simp at hz; omega
          simp [part, isAgg, run_underlying hu, valAt, hu, this]
        · rename_i hu
          simp only [Option.some.injEq] at hm
          subst hm
          have : off < zs.size := by simp at hz; omega
          simp [part, isAgg, run_underlying hu, valAt, hu, this]
        · rename_i fs' hu
          simp only [hu, decide_eq_true_eq] at hag
          obtain ⟨i, hi, hs⟩ := Option.map_eq_some_iff.1 hag
          simp [part, isAgg, run_underlying hu, valAt, hu, sizeOf, typeInfo, hi, hs]
        · cases hm
    simp only [Op.eqFields, ne_eq, hname.1, not_false_eq_true, if_true, Sem.run_bind, hpart xs hx, hpart ys hy, Result.andThen_ok, hf, Sem.run_ite]
    cases p with
    | true => simp [hr']
    | false => simp

theorem eq_flat (P : Program) (w : World) : ∀ d, EqAt P w d
  | 0 => fun t n h => by simp [flatT] at h
  | d + 1 => by
    intro t n h D hD xs ys off b hx hy hk he
    obtain ⟨D, rfl⟩ : ∃ D', D = D' + 1 := ⟨D - 1, by omega⟩
    unfold flatT at h
    split at h
    · rename_i k hu
      simp only [Option.some.injEq] at h
      subst h
      simp only [List.length_singleton] at hx hy hk he
      simp only [valAt, hu, List.length_singleton]
      rw [cut_one xs off (by omega)] at hk he
      rw [cut_one ys off (by omega)] at he
      generalize xs.getD off default = x at *
      generalize ys.getD off default = y at *
      cases x <;> simp [vkinds] at hk
      cases y <;> simp only [vcellsEq, reduceCtorEq] at he
      split at he
      · rename_i hk; subst hk
        simp only [Option.map_some, Option.some.injEq] at he
        subst he
        rw [run_equalIn_int w D t _ k _ _ hu]; simp
      · cases he
    · rename_i hu
      simp only [Option.some.injEq] at h
      subst h
      simp only [List.length_singleton] at hx hy hk he
      simp only [valAt, hu, List.length_singleton]
      rw [cut_one xs off (by omega)] at hk he
      rw [cut_one ys off (by omega)] at he
      generalize xs.getD off default = x at *
      generalize ys.getD off default = y at *
      cases x <;> simp [vkinds] at hk
      cases y <;> simp only [vcellsEq, reduceCtorEq] at he
      simp only [Option.map_some, Option.some.injEq] at he
      subst he
      rw [run_equalIn_bool' w D t _ _ hu]; simp
    · rename_i fs hu
      split at h
      case isFalse => cases h
      rename_i hst
      simp only [valAt, hu]
      have hfo : P.fieldsOf t = fs := by simp [Program.fieldsOf, hu]
      rw [run_equalIn_struct w D t _ _ (by rw [hfo]; exact hu) hst, hfo]
      refine eqFs_flat w d (eq_flat P w d) fs.toList 0 n h D (by omega) _ _ b (by simp; omega) (by simp; omega) ?_ ?_
      · rw [cut_extract _ _ _ _ _ (by omega)]; exact hk
      · rw [cut_extract _ _ _ _ _ (by omega), cut_extract _ _ _ _ _ (by omega)]; exact he
    · cases h


section
variable {X : Ctx} {gd : Option Bool} {o : Oper}

theorem run_eqGuard_plain {P : Program} {w : World} (op : BinOp) (t : TypeId) (x y : Operand) (a b : Value) (h : (∀ c, a ≠ .agg c) ∧ a ≠ .nilIface) : (eqGuard op t x y a b).run P w = .ok () w := by
  cases op <;> cases a <;> first
    | rfl
    | exact absurd rfl (h.1 _)
    | exact absurd rfl h.2

theorem snd_binOp (hT : TOk X) (hd : ∀ d, o.dst = some d → d < X.n) (hg : gd.getD true = true) {op : BinOp} {t yt : TypeId} {x y : Operand} (ho : o.op = .binOp op t x y yt) : Sound X gd o := by
  rintro S st a w R r hr _ ⟨ok, ℓ, hs⟩ K Q hK
  simp only [opSem, ho] at hr
  obtain ⟨xv, R1, h1, h2, hf1⟩ := opnd_run hs hg hr
  obtain ⟨yv, R2, h3, h4, hf2⟩ := opnd_run hs hg h2
  unfold binV at h4
  split at h4
  · -- numbers
    rename_i k a' k' b'
    have hx : a.eval x = .int k a' := h1.1.int_inv
    have hy : a.eval y = .int k' b' := h3.1.int_inv
    have hgu := run_eqGuard_plain (P := X.P) (w := w) op t x y (.int k a') (.int k' b') (by simp)
    split at h4
    · obtain ⟨h0, h5⟩ := gNeed_inv hg h4
      obtain ⟨d, h6, h7⟩ := orFail_inv h5
      rw [ret_inv h7] at hK
      simp only [shiftBin, Option.some.injEq] at h6
      subst h6
      refine wp_value (w' := w) ?_ (hK _ _ (Sim.plain hs hd hg ⟨.int _ _, rfl⟩))
      have h0' : ¬ b' < 0 := by omega
      simp [execOp, ho, hx, hy, hgu, binOp, Op.shift, h0']
    · obtain ⟨h0, h5⟩ := gNeed_inv hg h4
      obtain ⟨d, h6, h7⟩ := orFail_inv h5
      rw [ret_inv h7] at hK
      simp only [shiftBin, Option.some.injEq] at h6
      subst h6
      refine wp_value (w' := w) ?_ (hK _ _ (Sim.plain hs hd hg ⟨.int _ _, rfl⟩))
      have h0' : ¬ b' < 0 := by omega
      simp [execOp, ho, hx, hy, hgu, binOp, Op.shift, h0']
    · rename_i hn1 hn2
      split at h4
      case isFalse => exact (fail_inv h4).elim
      rename_i hk
      subst hk
      obtain ⟨d, h6, h7⟩ := orFail_inv h4
      obtain ⟨hp, h8⟩ := gNeed_inv hg h7
      rw [ret_inv h8] at hK
      cases op <;> simp only [intBin, Option.some.injEq, reduceCtorEq] at h6
      all_goals first
        | exact absurd rfl hn1
        | exact absurd rfl hn2
        | (subst h6
           refine wp_value (w' := w) ?_ (hK _ _ (Sim.plain hs hd hg ⟨.int _ _, rfl⟩))
           first
            | (simp [execOp, ho, hx, hy, hgu, binOp, Op.intArith]; done)
            | (simp [execOp, ho, hx, hy, hgu, binOp, Op.intBits]; done)
            | (simp only at hp; simp [execOp, ho, hx, hy, hgu, binOp, Op.intDiv, hp]; done))
        | (subst h6
           refine wp_value (w' := w) ?_ (hK _ _ (Sim.plain hs hd hg ⟨.bool _, rfl⟩))
           simp [execOp, ho, hx, hy, hgu, binOp, Op.intCmp]; done)
  · -- truth values
    rename_i a' b'
    have hx : a.eval x = .bool a' := h1.1.bool_inv
    have hy : a.eval y = .bool b' := h3.1.bool_inv
    have hgu := run_eqGuard_plain (P := X.P) (w := w) op t x y (.bool a') (.bool b') (by simp)
    obtain ⟨ti, hti, h5⟩ := orFail_inv h4
    obtain ⟨i, dsc, z, hto⟩ := TI.ok (hT t ti hti)
    split at h5
    case isFalse => exact (fail_inv h5).elim
    rename_i hb
    have hu := hto.und
    rw [hto.boo hb] at hu
    split at h5
    · rw [ret_inv h5] at hK
      refine wp_value (w' := w) ?_ (hK _ _ (Sim.plain hs hd hg ⟨.bool _, rfl⟩))
      simp [execOp, ho, hx, hy, hgu, run_eql_bool w t a' b' hu]
    · rw [ret_inv h5] at hK
      refine wp_value (w' := w) ?_ (hK _ _ (Sim.plain hs hd hg ⟨.bool _, rfl⟩))
      simp [execOp, ho, hx, hy, hgu, run_neq_bool w t a' b' hu]
    · exact (fail_inv h5).elim
  · -- strings
    rename_i a' b'
    have hx : a.eval x = .string a' := h1.1.str_inv
    have hy : a.eval y = .string b' := h3.1.str_inv
    have hgu := run_eqGuard_plain (P := X.P) (w := w) op t x y (.string a') (.string b') (by simp)
    split at h4
    · obtain ⟨h0, h5⟩ := gNeed_inv hg h4
      rw [ret_inv h5] at hK
      refine wp_value (w' := w) ?_ (hK _ _ (Sim.plain hs hd hg ⟨.str _, rfl⟩))
      have h0' : ¬ ((a'.size + b'.size : Nat) : Int) > IntKind.i64.max := by
        have e : IntKind.i64.max = 9223372036854775807 := by decide
        rw [e]
        omega
      simp only [execOp, ho, hx, hy, hgu, Sem.run_bind, Result.andThen_ok, binOp, Op.stringOp, if_neg h0', Sem.run_pure]
    · rw [ret_inv h4] at hK
      refine wp_value (w' := w) ?_ (hK _ _ (Sim.plain hs hd hg ⟨.bool _, rfl⟩))
      simp [execOp, ho, hx, hy, hgu, binOp, Op.stringOp]
    · rw [ret_inv h4] at hK
      refine wp_value (w' := w) ?_ (hK _ _ (Sim.plain hs hd hg ⟨.bool _, rfl⟩))
      simp [execOp, ho, hx, hy, hgu, binOp, Op.stringOp]
    · exact (fail_inv h4).elim
  · -- structs
    rename_i xs ys
    obtain ⟨ti, hti, h5⟩ := orFail_inv h4
    obtain ⟨i, dsc, z, hto⟩ := TI.ok (hT t ti hti)
    split at h5
    case isFalse => exact (fail_inv h5).elim
    rename_i hfl
    obtain ⟨he1, he2, he3⟩ := hto.flat hfl.1
    obtain ⟨us, hx, hru⟩ := h1
    obtain ⟨vs, hy, hrv⟩ := h3
    have hlu : us.size = ti.flat.length := by
      have := vkinds_of xs us.toList _ (by simpa using hru) hfl.2
      rw [← vkinds_len _ _ this]; simp
    have hd2 := he2
    have hkey : ∀ b, cellsEq xs ys = some b → (Op.equalIn 10000 t (.agg us) (.agg vs)).run X.P w = .ok b w := by
      intro b hb
      have hv := vcellsEq_of xs ys us.toList vs.toList b (by simpa using hru) (by simpa using hrv) hb
      have hk := vkinds_of xs us.toList _ (by simpa using hru) hfl.2
      have hlv : vs.size = ti.flat.length := by have := vcellsEq_len _ _ _ hv; simp at this; omega
      have e1 : cut us.toList 0 ti.flat.length = us.toList := by unfold cut; rw [List.drop_zero, List.take_of_length_le (by simp; omega)]
      have e2 : cut vs.toList 0 ti.flat.length = vs.toList := by unfold cut; rw [List.drop_zero, List.take_of_length_le (by simp; omega)]
      have := eq_flat X.P w 20 t ti.flat he2 10000 (by omega) us vs 0 b (by omega) (by omega) (by rw [e1]; exact hk) (by rw [e1, e2]; exact hv)
      have hun : ∃ fs, X.P.underlying t = some (.struct fs) := by
        unfold flatT at hd2
        have := hto.agg
        rw [he3] at this
        split at hd2
        · rename_i hu; rw [hto.und] at hu; cases hu; cases this
        · rename_i hu; rw [hto.und] at hu; cases hu; cases this
        · rename_i fs hu; exact ⟨fs, hu⟩
        · cases hd2
      obtain ⟨fs, hun⟩ := hun
      simp only [valAt, hun, Nat.zero_add] at this
      rw [← hlu] at this
      rw [show ti.flat.length = us.size from hlu.symm] at hlv
      rw [Array.extract_size, ← hlv, Array.extract_size] at this
      exact this
    split at h5
    · obtain ⟨b, h6, h7⟩ := orFail_inv h5
      rw [ret_inv h7] at hK
      refine wp_value (w' := w) ?_ (hK _ _ (Sim.plain hs hd hg ⟨.bool b, rfl⟩))
      simp [execOp, ho, hx, hy, run_eqGuard_agg w .eql t x y us vs he1, run_eql_struct w t us vs, hkey b h6]
    · obtain ⟨b, h6, h7⟩ := orFail_inv h5
      rw [ret_inv h7] at hK
      refine wp_value (w' := w) ?_ (hK _ _ (Sim.plain hs hd hg ⟨.bool (!b), rfl⟩))
      simp [execOp, ho, hx, hy, run_eqGuard_agg w .neq t x y us vs he1, run_neq_struct w t us vs, hkey b h6]
    · exact (fail_inv h5).elim
  · exact (fail_inv h4).elim
end

end Go.Vam
