/- The value-level machine, part 7: the plain operations do what the symbolic state says. Conditions: none. -/
import Derived.Test.YtmliamkbpbdlbaaVamSim
set_option linter.unusedVariables false
set_option linter.unusedSimpArgs false
namespace Go.Vam

section inv
variable {α β : Type} {st : St} {R : List Key} {r : α}
theorem ret_inv {a : α} (h : Runs (.ret a) st R r) : r = a := by cases h; rfl
theorem fail_inv (h : Runs (.fail : Rd α) st R r) : False := by cases h
theorem need_inv {p : Prop} {x : Rd α} (h : Runs (.need p x) st R r) : p ∧ Runs x st R r := by cases h with | need a b => exact ⟨a, b⟩
theorem gNeed_inv {gd : Option Bool} (hg : gd.getD true = true) {p : Prop} {x : Rd α} (h : Runs (gNeed gd p x) st R r) : p ∧ Runs x st R r := ⟨(need_inv h).1 hg, (need_inv h).2⟩
theorem orFail_inv {x : Option β} {f : β → Rd α} (h : Runs (orFail x f) st R r) : ∃ y, x = some y ∧ Runs (f y) st R r := by
  cases x with
  | none => exact (fail_inv h).elim
  | some y => exact ⟨y, rfl, h⟩
theorem noGd_inv {gd : Option Bool} {x : Rd α} (h : Runs (noGd gd x) st R r) : gd = none ∧ Runs x st R r := by
  cases gd with
  | none => exact ⟨rfl, h⟩
  | some γ => exact (fail_inv h).elim
theorem exD_inv {f : D → Rd α} (h : Runs (.exD f) st R r) : ∃ x, Runs (f x) st R r := by cases h with | exD x h => exact ⟨x, h⟩
theorem exM_inv {f : V → Boxes → Toks → Rd α} (h : Runs (.exM f) st R r) : ∃ x b k, Runs (f x b k) st R r := by cases h with | exM x b k h => exact ⟨x, b, k, h⟩
theorem scR_inv {x : D} {f : D → Rd α} (h : Runs (scR x f) st R r) : Runs (f x) st R r ∧ (∀ l, x ≠ .agg l) ∧ ∀ l, x ≠ .tup l := by
  unfold scR at h
  split at h
  · cases h
  · cases h
  · rename_i h1 h2; exact ⟨h, fun l e => h1 l e, fun l e => h2 l e⟩
theorem getT_inv {n : Nat} {f : V → Rd α} (h : Runs (.getT n f) st R r) : ∃ v R', lk st.t n = some v ∧ Runs (f v) st R' r := by cases h with | getT a b => exact ⟨_, _, a, b⟩
theorem getB_inv {n : Name} {f : List C → Rd α} (h : Runs (.getB n f) st R r) : ∃ v R', lk st.b n = some v ∧ Runs (f v) st R' r := by cases h with | getB a b => exact ⟨_, _, a, b⟩
theorem getK_inv {n : Name} {f : Tok → Rd α} (h : Runs (.getK n f) st R r) : ∃ v R', lk st.k n = some v ∧ Runs (f v) st R' r := by cases h with | getK a b => exact ⟨_, _, a, b⟩
theorem asI_inv {v : V} {f : IntKind → Int → Rd α} (h : Runs (asI v f) st R r) : ∃ k n, v = .c (.d (.int k n)) ∧ Runs (f k n) st R r := by
  unfold asI at h
  split at h
  · exact ⟨_, _, rfl, h⟩
  · exact (fail_inv h).elim
theorem asB_inv {v : V} {f : Bool → Rd α} (h : Runs (asB v f) st R r) : ∃ b, v = .c (.d (.bool b)) ∧ Runs (f b) st R r := by
  unfold asB at h
  split at h
  · exact ⟨_, rfl, h⟩
  · exact (fail_inv h).elim
end inv

section
variable {X : Ctx} {S : Start} {ok : Foot} {ℓ : Loc} {st : St} {a : Act} {w : World} {α : Type} {R : List Key} {r : α}

theorem asL_inv {v : V} {f : List D → Rd α} (h : Runs (asL v f) st R r) : ∃ l, Runs (f l) st R r ∧ (∀ ok ℓ w u, RV ok ℓ w u v → Rep ok w u (.list l)) ∧ (v = .c .nil ∨ (∃ k, v = .c (.own k l)) ∨ v = .c (.d (.list l))) := by
  unfold asL at h
  split at h
  · exact ⟨_, h, fun ok ℓ w u hu => by obtain ⟨a, rfl⟩ := hu; exact .nil a 0, .inl rfl⟩
  · exact ⟨_, h, fun ok ℓ w u hu => hu.1, .inr (.inl ⟨_, rfl⟩)⟩
  · exact ⟨_, h, fun ok ℓ w u hu => hu.1, .inr (.inr rfl)⟩
  · exact (fail_inv h).elim

theorem constV_rep {c : Value} {v : V} (h : constV c = some v) (ok : Foot) (ℓ : Loc) (w : World) : RV ok ℓ w c v ∧ ∀ n, ¬ v.has n := by
  unfold constV at h
  split at h <;> simp only [Option.some.injEq, reduceCtorEq] at h
  · subst h; exact ⟨⟨.int _ _, rfl⟩, fun _ h => h⟩
  · subst h; exact ⟨⟨.bool _, rfl⟩, fun _ h => h⟩
  · subst h; exact ⟨⟨.str _, rfl⟩, fun _ h => h⟩
  · subst h; exact ⟨⟨_, rfl⟩, fun _ h => h⟩
  · subst h; exact ⟨⟨.raw _, rfl⟩, fun _ h => h⟩
  · subst h; exact ⟨⟨.raw _, rfl⟩, fun _ h => h⟩

theorem rawO_run (hs : SimW X S ok ℓ st a w) {x : Operand} {f : V → Rd α} (h : Runs (rawO x f) st R r) : ∃ v R', RV ok ℓ w (a.eval x) v ∧ Runs (f v) st R' r ∧ ∀ n, st.Free n → ¬ v.has n := by
  cases x with
  | tmp t =>
    obtain ⟨v, R', h1, h2⟩ := getT_inv h
    exact ⟨v, R', hs.eval h1, h2, fun n hn => hn.t t v h1⟩
  | const c =>
    simp only [rawO] at h
    cases hc : constV c with
    | none => rw [hc] at h; exact (fail_inv h).elim
    | some v =>
      rw [hc] at h
      exact ⟨v, R, (constV_rep hc ok ℓ w).1, h, fun n _ => (constV_rep hc ok ℓ w).2 n⟩
  | global g => exact (fail_inv h).elim
  | func f =>
    refine ⟨.c (.fn f []), R, ?_, h, fun n _ hh => ?_⟩
    · simp [RV, RC, Act.eval, fnV, rcv, fnP]
    · simp [V.has, C.has] at hh

theorem unG_run {u : Value} {gd : Option Bool} (hg : gd.getD true = true) {v : V} (hv : RV ok ℓ w u v) {f : V → Rd α} (h : Runs (unG gd v f) st R r) :
    ∃ v', RV ok ℓ w u v' ∧ Runs (f v') st R r ∧ ∀ n, v'.has n → v.has n := by
  unfold unG at h
  split at h
  · obtain ⟨h1, h2⟩ := need_inv h
    exact ⟨_, hv.1 (h1 hg), h2, fun n hn => hn⟩
  · exact ⟨_, hv, h, fun n hn => hn⟩

theorem opnd_run (hs : SimW X S ok ℓ st a w) {gd : Option Bool} (hg : gd.getD true = true) {x : Operand} {f : V → Rd α} (h : Runs (opnd gd x f) st R r) :
    ∃ v R', RV ok ℓ w (a.eval x) v ∧ Runs (f v) st R' r ∧ ∀ n, st.Free n → ¬ v.has n := by
  obtain ⟨v, R', h1, h2, h3⟩ := rawO_run hs h
  obtain ⟨v', h4, h5, h6⟩ := unG_run hg h1 h2
  exact ⟨v', R', h4, h5, fun n hn hh => h3 n hn (h6 n hh)⟩

theorem opnds_run (hs : SimW X S ok ℓ st a w) {gd : Option Bool} (hg : gd.getD true = true) : ∀ (xs : List Operand) {R : List Key} {f : List V → Rd α}, Runs (opnds gd xs f) st R r →
    ∃ vs R', RVs ok ℓ w (xs.map a.eval).toArray vs ∧ Runs (f vs) st R' r ∧ ∀ n, st.Free n → ∀ v ∈ vs, ¬ v.has n
  | [], R, f, h => ⟨[], R, ⟨rfl, by simp⟩, h, by simp⟩
  | x :: xs, R, f, h => by
    obtain ⟨v, R1, h1, h2, h3⟩ := opnd_run hs hg h
    obtain ⟨vs, R2, h4, h5, h6⟩ := opnds_run hs hg xs h2
    refine ⟨v :: vs, R2, ⟨by have := h4.1; simp at this; simp [this], fun i u v' hu hv => ?_⟩, h5, fun n hn v' hv' => ?_⟩
    · cases i with
      | zero => simp at hu hv; subst hu; subst hv; exact h1
      | succ i => simp at hu hv; exact h4.2 i u v' (by simpa using hu) hv
    · rcases List.mem_cons.1 hv' with rfl | hv'
      · exact h3 n hn
      · exact h6 n hn v' hv'

theorem wp_value {P : Program} {o : Oper} {u : Value} {w' : World} {K : Act → World → Prop} {Q : Exit → Act → World → Prop} (h : (execOp a.eval o).run P w = .ok (.value u) w') (hk : K (a.put o.dst u) w') : o.wp P a w K Q := by
  unfold Oper.wp
  rw [h]
  exact hk

theorem wp_skip' {P : Program} {o : Oper} {w' : World} {K : Act → World → Prop} {Q : Exit → Act → World → Prop} (h : (execOp a.eval o).run P w = .ok .skip w') (hk : K (a.put o.dst undef) w') : o.wp P a w K Q := by
  unfold Oper.wp
  rw [h]
  exact hk
end

/-- What is to be shown of an operation. -/
def Sound (X : Ctx) (gd : Option Bool) (o : Oper) : Prop :=
  ∀ (S : Start) (st : St) (a : Act) (w : World) (R : List Key) (r : Out), Runs (opSem X gd o) st R r → (∀ n ∈ r.new, st.Free n) → Sim X S st a w →
    ∀ (K : Act → World → Prop) (Q : Exit → Act → World → Prop), (∀ a' w', Sim X S (st.apply o.dst gd r) a' w' → K a' w') → o.wp X.P a w K Q

section
variable {X : Ctx} {gd : Option Bool} {o : Oper}

theorem Sim.plain {S : Start} {ok : Foot} {ℓ : Loc} {st : St} {a : Act} {w : World} (h : SimW X S ok ℓ st a w) (hd : ∀ d, o.dst = some d → d < X.n) (hg : gd.getD true = true) {u : Value} {v : V} (hr : RV ok ℓ w u v) :
    Sim X S (st.apply o.dst gd { v }) (a.put o.dst u) w := Sim.fin h hd hg (fun _ => hr)

theorem snd_move (hd : ∀ d, o.dst = some d → d < X.n) (hg : gd.getD true = true) {x : Operand} (ho : o.op = .move x ∨ o.op = .assign x) : Sound X gd o := by
  rintro S st a w R r hr _ ⟨ok, ℓ, hs⟩ K Q hK
  have hr' : Runs (opnd gd x fun v => .ret { v }) st R r := by
    rcases ho with ho | ho <;> simpa only [opSem, ho] using hr
  obtain ⟨v, R', h1, h2, _⟩ := opnd_run hs hg hr'
  rw [ret_inv h2] at hK
  refine wp_value (u := a.eval x) (w' := w) ?_ (hK _ _ (Sim.plain hs hd hg h1))
  rcases ho with ho | ho <;> simp [execOp, ho]

theorem boolG_run {ok ℓ w} {u : Value} {v : V} {p : Bool × Bool} (h : boolG v = some p) (hv : RV ok ℓ w u v) (hp : p.1 = true) : u = .bool p.2 := by
  unfold boolG at h
  split at h <;> simp only [Option.some.injEq, reduceCtorEq] at h
  · subst h; exact hv.1.bool_inv
  · subst h; exact (hv.1 hp).1.bool_inv

theorem snd_pick (hd : ∀ d, o.dst = some d → d < X.n) (hg : gd.getD true = true) {c x y : Operand} (ho : o.op = .pick c x y) : Sound X gd o := by
  rintro S st a w R r hr _ ⟨ok, ℓ, hs⟩ K Q hK
  simp only [opSem, ho] at hr
  obtain ⟨cv, R1, h1, h2, _⟩ := opnd_run hs hg hr
  obtain ⟨cb, rfl, h3⟩ := asB_inv h2
  obtain ⟨av, R2, h4, h5, _⟩ := rawO_run hs h3
  obtain ⟨bv, R3, h6, h7, _⟩ := rawO_run hs h5
  obtain ⟨p, h8, h9⟩ := orFail_inv h7
  obtain ⟨q, h10, h11⟩ := orFail_inv h9
  obtain ⟨h12, h13⟩ := gNeed_inv hg h11
  obtain ⟨h14, h15⟩ := gNeed_inv hg h13
  rw [ret_inv h15] at hK
  have hc : a.eval c = .bool cb := h1.1.bool_inv
  cases cb with
  | true =>
    have hx := boolG_run h8 h4 (h12 rfl)
    refine wp_value (u := .bool p.2) (w' := w) ?_ (hK _ _ (Sim.plain hs hd hg ⟨.bool _, rfl⟩))
    simp [execOp, ho, hc, asBool, hx]
  | false =>
    have hy := boolG_run h10 h6 (h14 rfl)
    refine wp_value (u := .bool q.2) (w' := w) ?_ (hK _ _ (Sim.plain hs hd hg ⟨.bool _, rfl⟩))
    simp [execOp, ho, hc, asBool, hy]

theorem snd_index (hd : ∀ d, o.dst = some d → d < X.n) (hg : gd.getD true = true) {t : TypeId} {x i : Operand} (ho : o.op = .index t x i) : Sound X gd o := by
  rintro S st a w R r hr _ ⟨ok, ℓ, hs⟩ K Q hK
  simp only [opSem, ho] at hr
  obtain ⟨xv, R1, h1, h2, hf1⟩ := opnd_run hs hg hr
  obtain ⟨iv, R2, h3, h4, hf2⟩ := opnd_run hs hg h2
  obtain ⟨kk, n, rfl, h5⟩ := asI_inv h4
  split at h5
  · rename_i s
    obtain ⟨hu, h6⟩ := need_inv h5
    obtain ⟨⟨h0, hn⟩, h7⟩ := gNeed_inv hg h6
    rw [ret_inv h7] at hK
    have hx : a.eval x = .string s := h1.1.str_inv
    have hy : a.eval i = .int kk n := h3.1.int_inv
    refine wp_value (w' := w) ?_ (hK _ _ (Sim.plain hs hd hg ⟨.int _ _, rfl⟩))
    have hb : s[n.toNat]? = some (s.toList[n.toNat]?.getD 0) := by
      have hlt : n.toNat < s.size := by omega
      rw [getElem?_pos s n.toNat hlt, ByteArray.toList_eq]
      have h2 : n.toNat < s.data.toList.length := by rw [Array.length_toList]; exact hlt
      rw [List.getElem?_eq_getElem h2, Option.getD_some]
      rfl
    simp [execOp, ho, hx, hy, Instr.index, asIntOf, run_underlying hu, h0, hb]
  · exact (fail_inv h5).elim

theorem snd_unOp (hd : ∀ d, o.dst = some d → d < X.n) (hg : gd.getD true = true) {op : UnOp} {t : TypeId} {x : Operand} (ho : o.op = .unOp op t x) : Sound X gd o := by
  rintro S st a w R r hr _ ⟨ok, ℓ, hs⟩ K Q hK
  simp only [opSem, ho] at hr
  obtain ⟨v, R1, h1, h2, _⟩ := opnd_run hs hg hr
  split at h2
  · rw [ret_inv h2] at hK
    have hx := h1.1.int_inv
    refine wp_value (w' := w) ?_ (hK _ _ (Sim.plain hs hd hg ⟨.int _ _, rfl⟩))
    simp [execOp, ho, hx, Op.unary, Op.intArith]
  · rw [ret_inv h2] at hK
    have hx := h1.1.bool_inv
    refine wp_value (w' := w) ?_ (hK _ _ (Sim.plain hs hd hg ⟨.bool _, rfl⟩))
    simp [execOp, ho, hx, Op.unary]
  · exact (fail_inv h2).elim

theorem run_strD {P : Program} {s t : TypeId} (e : TypeId) (h1 : P.underlying s = some (.slice e)) (h2 : P.underlying e = some (.int .u8)) (h3 : P.underlying t = some .string) {ok : Foot} {w : World} {u : Value} {l : List D} (hr : Rep ok w u (.list l)) (hu : ∀ y ∈ l, y.isU8 = true) :
    (convert s t u).run P w = .ok (.string (strD l)) w := by
  obtain ⟨a, cap, rfl, hh⟩ := hr.list_inv
  rcases hh with rfl | ⟨blk, o, sz, uu, rfl, hle, hall, hcell⟩
  · rw [run_convert_bytes_string w s t e a _ cap h1 h2 h3]
    cases a with
    | none => simp [Conv.bytesToString]; rfl
    | some a =>
      exact run_bytesToString (P := P) w a 0 cap [] (by simp [loadCells, loadCellsFrom])
  · cases l with
    | nil =>
      rw [run_convert_bytes_string w s t e _ _ cap h1 h2 h3]
      exact run_bytesToString (P := P) w ⟨blk, o, none⟩ 0 cap [] (by simp [loadCells, loadCellsFrom])
    | cons y0 l0 =>
      have hint : ∀ y ∈ y0 :: l0, ∃ n, y = .int .u8 n := by
        intro y hy
        have := hu y hy
        cases y with
        | int k n => cases k <;> first | exact ⟨n, rfl⟩ | cases this
        | _ => cases this
      have hsz : sz = 1 := by
        have := hall y0 (List.mem_cons_self ..)
        obtain ⟨n, rfl⟩ := hint y0 (List.mem_cons_self ..)
        exact this.symm
      subst hsz
      refine run_convert_bytes_arg w s e h1 h2 blk o _ cap ((y0 :: l0).map D.toI) (by simp) (fun i hi => ?_) t h3
      obtain ⟨n, hn⟩ := hint (y0 :: l0)[i] (List.getElem_mem hi)
      obtain ⟨_, _, hc, hrep⟩ := hcell i (y0 :: l0)[i] 0 (.int .u8 n) (List.getElem?_eq_getElem hi) (by rw [hn]; rfl)
      have e1 := hrep.int_inv
      rw [e1] at hc
      rw [show o + i * 1 + 0 = o + i by omega] at hc
      rw [hc]
      have : ((y0 :: l0).map D.toI).getD i 0 = n := by
        rw [List.getD_eq_getElem?_getD, List.getElem?_map, List.getElem?_eq_getElem hi, hn]; rfl
      rw [this]

theorem snd_convert (hT : TOk X) (hd : ∀ d, o.dst = some d → d < X.n) (hg : gd.getD true = true) {s t : TypeId} {x : Operand} (ho : o.op = .convert s t x) : Sound X gd o := by
  rintro S st a w R r hr _ ⟨ok, ℓ, hs⟩ K Q hK
  simp only [opSem, ho] at hr
  obtain ⟨v, R1, h1, h2, _⟩ := opnd_run hs hg hr
  split at h2
  case h_2 =>
    obtain ⟨l, h3, h4, _⟩ := asL_inv h2
    obtain ⟨⟨e, he1, he2, he3⟩, h5⟩ := need_inv h3
    obtain ⟨hu8, h6⟩ := need_inv h5
    rw [ret_inv h6] at hK
    refine wp_value (w' := w) ?_ (hK _ _ (Sim.plain hs hd hg ⟨.str _, rfl⟩))
    simp only [execOp, ho, Sem.run_bind, run_strD e he1 he2 he3 (h4 ok ℓ w _ h1) hu8, Result.andThen_ok]
    rfl
  rename_i k0 n
  have h3 := h2
  obtain ⟨si, h4, h5⟩ := orFail_inv h3
  obtain ⟨ti, h6, h7⟩ := orFail_inv h5
  obtain ⟨k, h8, h9⟩ := orFail_inv h7
  rw [ret_inv h9] at hK
  have hx := h1.1.int_inv
  obtain ⟨_, sd, _, hso⟩ := TI.ok (hT s si h4)
  obtain ⟨_, td, _, hto⟩ := TI.ok (hT t ti h6)
  have htd := hto.kind k h8
  refine wp_value (w' := w) ?_ (hK _ _ (Sim.plain hs hd hg ⟨.int _ _, rfl⟩))
  have hu := hto.und
  rw [htd] at hu
  simp only [execOp, ho, hx, convert, Sem.run_bind, run_underlying hso.und, run_underlying hu, Result.andThen_ok]
  simp [Conv.intToInt]

theorem RCs.head {ok ℓ w} {v : Value} {vs : List Value} {c : C} {cs : List C} (h : RCs ok ℓ w (v :: vs).toArray (c :: cs)) : RC ok ℓ w v c ∧ RCs ok ℓ w vs.toArray cs :=
  ⟨h.2 0 v c (by simp) (by simp), by have := h.1; simpa using this, fun i u d hu hd => h.2 (i + 1) u d (by simpa using hu) (by simpa using hd)⟩
theorem RCs.takeL {ok ℓ w} {vs : List Value} {cs : List C} (n : Nat) (h : RCs ok ℓ w vs.toArray cs) : RCs ok ℓ w (vs.take n).toArray (cs.take n) := by
  refine ⟨?_, fun i u d hu hd => ?_⟩
  · have := h.1
    simp only [List.size_toArray, List.length_take] at this ⊢
    omega
  · rw [List.getElem?_toArray, List.getElem?_take] at hu
    rw [List.getElem?_take] at hd
    split at hu
    · rename_i hi
      rw [if_pos hi] at hd
      exact h.2 i u d (by simpa using hu) hd
    · cases hu
theorem RCs.dropL {ok ℓ w} {vs : List Value} {cs : List C} (n : Nat) (h : RCs ok ℓ w vs.toArray cs) : RCs ok ℓ w (vs.drop n).toArray (cs.drop n) := by
  refine ⟨?_, fun i u d hu hd => ?_⟩
  · have := h.1
    simp only [List.size_toArray, List.length_drop] at this ⊢
    omega
  · rw [List.getElem?_toArray, List.getElem?_drop] at hu
    rw [List.getElem?_drop] at hd
    exact h.2 (n + i) u d (by simpa using hu) hd
theorem tsGet_rep {ok ℓ w} : ∀ (sh : List (Option Nat)) (cs : List C) (vs : List Value) (i : Nat) (y : V), RCs ok ℓ w vs.toArray cs → tsGet sh cs i = some y → ∃ u, (tupOf sh vs)[i]? = some u ∧ RV ok ℓ w u y
  | [], cs, vs, i, y, h, e => by simp [tsGet] at e
  | none :: sh, [], vs, i, y, h, e => by simp [tsGet] at e
  | none :: sh, c :: cs, [], i, y, h, e => by have := h.1; simp at this
  | none :: sh, c :: cs, v :: vs, 0, y, h, e => by
    simp only [tsGet, Option.some.injEq] at e
    subst e
    exact ⟨v, by simp [tupOf], h.head.1⟩
  | none :: sh, c :: cs, v :: vs, i + 1, y, h, e => by
    simp only [tsGet] at e
    obtain ⟨u, h1, h2⟩ := tsGet_rep sh cs vs i y h.head.2 e
    exact ⟨u, by simpa [tupOf] using h1, h2⟩
  | some n :: sh, cs, vs, 0, y, h, e => by
    simp only [tsGet] at e
    split at e
    · simp only [Option.some.injEq] at e
      subst e
      exact ⟨.agg (vs.take n).toArray, by simp [tupOf], (vs.take n).toArray, rfl, h.takeL n⟩
    · cases e
  | some n :: sh, cs, vs, i + 1, y, h, e => by
    simp only [tsGet] at e
    split at e
    · obtain ⟨u, h1, h2⟩ := tsGet_rep sh (cs.drop n) (vs.drop n) i y (h.dropL n) e
      exact ⟨u, by simpa [tupOf] using h1, h2⟩
    · cases e

theorem snd_extract (hd : ∀ d, o.dst = some d → d < X.n) (hg : gd.getD true = true) {x : Operand} {i : Nat} (ho : o.op = .extract x i) : Sound X gd o := by
  rintro S st a w R r hr _ ⟨ok, ℓ, hs⟩ K Q hK
  simp only [opSem, ho] at hr
  obtain ⟨v, R1, h1, h2, _⟩ := opnd_run hs hg hr
  split at h2
  · rename_i ds
    obtain ⟨y, h3, h4⟩ := orFail_inv h2
    obtain ⟨hy, h4⟩ := need_inv h4
    rw [ret_inv h4] at hK
    obtain ⟨vs, hv, hsz, hall⟩ := Rep.tup_inv h1
    have hi : i < vs.size := by rw [hsz]; exact (List.getElem?_eq_some_iff.1 h3).1
    have hu : vs[i]? = some vs[i] := Array.getElem?_eq_getElem hi
    refine wp_value (u := vs[i]) (w' := w) ?_ (hK _ _ (Sim.plain hs hd hg (toV_rep (hall i _ y hu h3) hy)))
    simp [execOp, ho, hv, Instr.extract, hu]
  · rename_i sh cs _
    obtain ⟨y, h3, h4⟩ := orFail_inv h2
    rw [ret_inv h4] at hK
    obtain ⟨vs, hv, hr⟩ := h1
    obtain ⟨u, hu, hu2⟩ := tsGet_rep sh cs vs.toList i y (by simpa using hr) h3
    refine wp_value (u := u) (w' := w) ?_ (hK _ _ (Sim.plain hs hd hg hu2))
    simp [execOp, ho, hv, Instr.extract, hu]
  · exact (fail_inv h2).elim
end

end Go.Vam
