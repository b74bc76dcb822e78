/- The value-level machine, part 35: a buffer that a call has made may be written by its caller. Conditions: none. -/
import Derived.Test.YtmliamkbpbdlbaaVamLib
set_option linter.unusedVariables false
namespace Go.Vam
theorem CallsF.mono {P : Program} {f : FuncId} {us : Array Value} {w : World} {R R' : Ending → World → Prop} (h : CallsF P f us w R) (hr : ∀ e w', R e w' → R' e w') : CallsF P f us w R' := by
  rcases h with ⟨h1, h2⟩ | ⟨v, w', h1, h2⟩
  · exact .inl ⟨h1, h2.mono hr⟩
  · exact .inr ⟨v, w', h1, hr _ _ h2⟩

theorem Spec.thaw {P : Program} {lv : Nat} {f : FuncId} {args : List V} {b0 : List C} {N F : Name} {k0 : IntKind} {z0 : Int} {l : List Int} {r1 : List UInt8}
    (h : Spec P lv f args [(N, b0)] [] (.agg [.d (.int k0 z0), .own F (LI .i32 l)]) [(N, [.d (.list (LB r1))])] [(F, ⟨false, 1, LI .i32 l⟩)]) (hl : l ≠ []) (hNF : N ≠ F) :
    Spec P lv f args [(N, b0)] [] (.agg [.d (.int k0 z0), .arr F l.length]) [(N, [.d (.list (LB r1))])] [(F, ⟨true, 1, LI .i32 l⟩)] := by
  obtain ⟨hlv, hs⟩ := h
  obtain ⟨lv1, lv2, lv3⟩ := hlv
  have hll : (LI .i32 l).length = l.length := by simp [LI]
  have hlp : 0 < l.length := List.length_pos_iff.2 hl
  refine ⟨⟨fun n hn => lv1 n ?_, lv2, fun p hp => ?_⟩, fun w ok ℓ us hm hv => (hs w ok ℓ us hm hv).mono ?_⟩
  · simp only [V.has, C.has, List.mem_cons, List.not_mem_nil, or_false, exists_eq_or_imp, exists_eq_left] at hn ⊢
    exact hn
  · simp only [List.mem_cons, List.not_mem_nil, or_false] at hp
    subst hp
    exact lv3 (F, ⟨false, 1, LI .i32 l⟩) (by simp)
  rintro e w' ⟨u, ok', ℓ', he, p⟩
  -- the buffer
  have hbuf := p.mem.buf F ⟨false, 1, LI .i32 l⟩ (by simp [lk]) rfl
  obtain ⟨hrep, hone, a, cap, hh, hcap⟩ := hbuf
  simp only [hll] at hh hcap
  obtain ⟨a', cap', hh', hlist⟩ := hrep.list_inv
  rw [hh] at hh'
  simp only [Value.slice.injEq] at hh'
  obtain ⟨rfl, _, rfl⟩ := hh'
  have hne : LI .i32 l ≠ [] := fun e => hl (by rwa [LI_nil_eq] at e)
  obtain ⟨blk0, o0, sz0, uf, hA, hc1, hc2, hcell⟩ := hlist.resolve_left hne
  rw [hll] at hc1
  obtain ⟨blk, cs, T, hA2, hheap, hcs, hnok⟩ := hcap.resolve_left (by omega)
  rw [hA] at hA2
  simp only [Option.some.injEq, Addr.mk.injEq] at hA2
  obtain ⟨rfl, rfl, _⟩ := hA2
  have hsz : sz0 = 1 := by
    have hx : (LI .i32 l)[0] ∈ LI .i32 l := List.getElem_mem (by rw [hll]; exact hlp)
    rw [← hc2 _ hx]
    exact hone _ hx
  subst hsz
  -- every cell of it that may be read holds an i32
  have h32 : ∀ o v, ok' blk0 o → w'.cell? ⟨blk0, o, none⟩ = some v → ∃ z, v = .int .i32 z := by
    intro o v ho hv
    have hol : o < l.length := by
      rcases Nat.lt_or_ge o l.length with h | h
      · exact h
      · exact absurd ho (hnok o (by omega))
    have hx : (LI .i32 l)[o]? = some (.int .i32 l[o]) := by simp [LI, hol]
    have := hcell o _ 0 (.int .i32 l[o]) hx rfl
    simp only [Nat.mul_one, Nat.add_zero, Nat.zero_add] at this
    obtain ⟨_, _, h3, h4⟩ := this
    rw [hv] at h3
    cases h3
    exact ⟨_, h4.int_inv⟩
  have hblkF : Owns ℓ' [(N, [C.d (.list (LB r1))])] [(F, ⟨false, 1, LI .i32 l⟩)] F blk0 := by
    refine .inr (.inr ⟨⟨false, 1, LI .i32 l⟩, by simp [lk], rfl, ?_⟩)
    rw [hh, hA]
    simp only [hblk]
    rw [if_neg (by omega)]
  have hNlv : N.lv ≤ lv := (lv2 (N, [C.d (.list (LB r1))]) (by simp)).1
  have hNloc := p.loc N hNlv (fun hn => by have := hn.1; simp [lk] at this)
  have hownN : ∀ {ℓx : Loc} {kx : Toks}, Owns ℓx [(N, [C.d (.list (LB r1))])] kx N (ℓx.i N) := fun {ℓx kx} => .inl ⟨by simp [lk], rfl⟩
  have hbN : blk0 ≠ ℓ'.i N := fun e => hNF ((p.mem.distinct F N blk0 hblkF (e ▸ hownN)).symm)
  have hfresh : w.heap.size ≤ blk0 := by
    rcases p.own F blk0 hblkF with h | ⟨m, h⟩
    · exact h
    · rcases h with ⟨h1, h2⟩ | ⟨tk, h1, _⟩ | ⟨tk, h1, _⟩
      · have hmN : m = N := by
          by_cases e : N = m
          · exact e.symm
          · simp [lk, e] at h1
        subst hmN
        rw [h2, ← hNloc.1.i] at hbN
        exact absurd rfl hbN
      · simp [lk] at h1
      · simp [lk] at h1
  have hpos : ∀ n, n ≠ F → (if n = F then blk0 else ℓ'.i n) = ℓ'.i n := fun n hn => if_neg hn
  have hposz : ∀ n, n ≠ F → (if n = F then 1 else ℓ'.z n) = ℓ'.z n := fun n hn => if_neg hn
  have hFF : (if F = F then blk0 else ℓ'.i F) = blk0 := if_pos rfl
  have hown : ∀ n x, Owns (⟨fun n => if n = F then blk0 else ℓ'.i n, ℓ'.h, fun n => if n = F then 1 else ℓ'.z n⟩ : Loc) [(N, [C.d (.list (LB r1))])] [(F, ⟨true, 1, LI .i32 l⟩)] n x → (n = N ∧ x = ℓ'.i N) ∨ (n = F ∧ x = blk0) := by
    intro n x hx
    rcases hx with ⟨h1, h2⟩ | ⟨tk, h1, _, h2⟩ | ⟨tk, h1, h3, _⟩
    · have e : n = N := by
        by_cases e : N = n
        · exact e.symm
        · simp [lk, e] at h1
      subst e
      exact .inl ⟨rfl, by rw [h2]; exact hpos _ hNF⟩
    · have e : n = F := by
        by_cases e : F = n
        · exact e.symm
        · simp [lk, e] at h1
      subst e
      exact .inr ⟨rfl, by rw [h2]; exact hFF⟩
    · by_cases e : F = n
      · simp only [lk, e, if_true, Option.some.injEq] at h1
        subst h1
        cases h3
      · simp [lk, e] at h1
  refine ⟨u, fun x o => ok' x o ∧ x ≠ blk0, ⟨fun n => if n = F then blk0 else ℓ'.i n, ℓ'.h, fun n => if n = F then 1 else ℓ'.z n⟩, he, ?_⟩
  -- what is read elsewhere stays
  have hlb : ∀ v, Rep ok' w' v (.list (LB r1)) → Rep (fun x o => ok' x o ∧ x ≠ blk0) w' v (.list (LB r1)) := by
    intro v hv
    obtain ⟨a1, cap1, rfl, h⟩ := hv.list_inv
    rcases h with h | ⟨bk, o1, s1, u1, rfl, k1, k2, k3⟩
    · rw [h]; exact .nil _ _
    · refine .list bk o1 cap1 s1 (LB r1) u1 k1 k2 (fun i x j y hx hy => ?_) (fun i x j y hx hy => ?_)
      all_goals
        obtain ⟨m1, m2, m3, m4⟩ := k3 i x j y hx hy
        have hx8 : ∃ z, x = .int .u8 z := by
          have := List.mem_of_getElem? hx
          simp only [LB, List.mem_map] at this
          obtain ⟨b, _, rfl⟩ := this
          exact ⟨_, rfl⟩
        obtain ⟨z, rfl⟩ := hx8
        have hy8 : y = .int .u8 z := by
          cases j with
          | zero => simpa [D.cells] using hy.symm
          | succ j => simp [D.cells] at hy
        subst hy8
      · refine ⟨m1, ⟨m2, fun e => ?_⟩, m3⟩
        subst e
        obtain ⟨z', hz'⟩ := h32 _ _ m2 m3
        have := m4.int_inv
        rw [this] at hz'
        cases hz'
      · rw [m4.int_inv]; exact .int _ _
  obtain ⟨vs, hu, hvs⟩ := p.val
  constructor
  · exact p.ext
  · refine ⟨fun n cs' hn => ?_, fun n tk hn ha => ?_, fun n tk hn ha => ?_, fun n hn => ?_, fun n m x hn hm' => ?_, fun x o hx => p.mem.alive x o hx.1⟩
    · have e : n = N := by
        by_cases e : N = n
        · exact e.symm
        · simp [lk, e] at hn
      subst e
      simp only [lk, if_true, Option.some.injEq] at hn
      subst hn
      obtain ⟨vs', T', b1, b2, b3⟩ := p.mem.box n [C.d (.list (LB r1))] (by simp [lk])
      refine ⟨vs', T', by simp only [hpos n hNF]; exact b1, ⟨b2.1, fun i u c hu hc => ?_⟩, fun o => by simp only [hpos n hNF]; exact fun hx => b3 o hx.1⟩
      have hb := b2.2 i u c hu hc
      cases i with
      | zero =>
        simp only [List.getElem?_cons_zero, Option.some.injEq] at hc
        subst hc
        exact ⟨hlb _ hb.1, hb.2⟩
      | succ i => simp at hc
    · by_cases e : F = n
      · simp only [lk, e, if_true, Option.some.injEq] at hn
        subst hn
        cases ha
      · simp [lk, e] at hn
    · have e : n = F := by
        by_cases e : F = n
        · exact e.symm
        · simp [lk, e] at hn
      subst e
      simp only [lk, if_true, Option.some.injEq] at hn
      subst hn
      refine ⟨by simp, hone, cs, T, by simp only [if_true]; exact hheap, by rw [hcs]; simp only [hll]; omega, fun i x j y hx hy => ?_, fun o hx => ?_⟩
      · obtain ⟨m1, m2, m3, m4⟩ := hcell i x j y hx hy
        have hx32 : ∃ z, x = .int .i32 z := by
          have := List.mem_of_getElem? hx
          simp only [LI, List.mem_map] at this
          obtain ⟨b, _, rfl⟩ := this
          exact ⟨_, rfl⟩
        obtain ⟨z, rfl⟩ := hx32
        have hy32 : y = .int .i32 z := by
          cases j with
          | zero => simpa [D.cells] using hy.symm
          | succ j => simp [D.cells] at hy
        subst hy32
        rw [Nat.zero_add, cell_row hheap] at m3
        exact ⟨m1, _, m3, by rw [m4.int_inv]; exact .int _ _⟩
      · simp only [if_true] at hx
        exact hx.2 rfl
    · have e : n = N := by
        by_cases e : N = n
        · exact e.symm
        · simp [lk, e] at hn
      subst e
      simp [lk, Ne.symm hNF]
    · rcases hown n x hn with ⟨d1, d2⟩ | ⟨d1, d2⟩ <;> rcases hown m x hm' with ⟨e1, e2⟩ | ⟨e1, e2⟩
      · exact d1.trans e1.symm
      · exact absurd (e2.symm.trans d2) hbN
      · exact absurd (d2.symm.trans e2) hbN
      · exact d1.trans e1.symm
  · refine ⟨vs, hu, hvs.1, fun i v c hv hc => ?_⟩
    match i with
    | 0 =>
      have := hvs.2 0 v (.d (.int k0 z0)) hv rfl
      simp only [List.getElem?_cons_zero, Option.some.injEq] at hc
      subst hc
      exact ⟨by rw [this.1.int_inv]; exact .int _ _, rfl⟩
    | 1 =>
      have := hvs.2 1 v (.own F (LI .i32 l)) hv rfl
      simp only [List.getElem?_cons_succ, List.getElem?_cons_zero, Option.some.injEq] at hc
      subst hc
      obtain ⟨_, _, h3⟩ := this
      rw [hh] at h3
      exact ⟨cap, hc1, by rw [h3 (by rw [hll]; rfl), hA]; simp⟩
    | i + 2 => simp at hc
  · exact ⟨fun y o hy => ⟨p.chg.sub y o hy, fun e => by have h1 := hm.alive y o hy; omega⟩, p.chg.cell⟩
  · exact fun x o hx => p.sup x o hx.1
  · intro n x hx
    rcases hown n x hx with ⟨rfl, rfl⟩ | ⟨rfl, rfl⟩
    · exact p.own _ _ hownN
    · exact .inl hfresh
  · intro n hn hnew
    have hnF : n ≠ F := fun e => hnew (by
      subst e
      exact ⟨by simp [lk, hNF], by simp [lk], .inr (by simp [lk])⟩)
    have hold : ¬ NewName [(N, b0)] [(N, [C.d (.list (LB r1))])] [] [(F, ⟨false, 1, LI .i32 l⟩)] n := fun h => hnew ⟨h.1, h.2.1, h.2.2.imp id (fun h => by simp [lk, Ne.symm hnF] at h)⟩
    obtain ⟨q1, q2⟩ := p.loc n hn hold
    refine ⟨⟨by simp only [hpos n hnF]; exact q1.i, by simp only [hposz n hnF]; exact q1.z, q1.le, q1.eq⟩, fun h1 h2 => ?_⟩
    obtain ⟨r1', r2', r3'⟩ := q2 h1 h2
    exact ⟨by simp only [hpos n hnF]; exact r1', by simp only [hposz n hnF]; exact r2', r3'⟩
end Go.Vam
