/- The value-level machine, part 25: slices of numbers that a law is handed. Conditions: none. -/
import Derived.Test.YtmliamkbpbdlbaaVamExec
import Derived.Below
set_option linter.unusedVariables false
set_option linter.unusedSimpArgs false
namespace Go.Vam

theorem below_of_ext {w w' : World} (h : Ext (fun _ => False) w w') : Go.RowKit.Below w.heap.size w w' :=
  ⟨h.os, h.tape, h.output, h.size, fun k hk => h.block k hk (fun h => h)⟩

theorem spot_none {w : World} {x : Addr} {v : Value} (h : w.cell? x = some v) : x.spot = none := by
  unfold World.cell? at h
  split at h
  · split at h
    · cases h
    · rename_i hs; simpa using hs
  · cases h

/-- A slice of numbers. -/
theorem rv_ints {k : IntKind} {w : World} {a : Option Addr} {len cap : Nat} {zs : List Int} {ℓ : Loc} (h : (a = none ∧ len = 0 ∧ cap = 0 ∧ zs = []) ∨
    ∃ x, a = some x ∧ len ≤ cap ∧ cap ≤ maxLen ∧ zs.length = cap ∧ (∀ i, i < zs.length → w.cell? (x.add i) = some (.int k (zs.getD i 0))) ∧ ∀ n ∈ zs, (Lit.int k n).wf = true) :
    RV (fun x _ => x < w.heap.size) ℓ w (.slice a len cap) (vL (LI k (zs.take len))) := by
  rcases h with ⟨rfl, rfl, rfl, rfl⟩ | ⟨x, rfl, hl, hm, hz, hcell, hwf⟩
  · exact ⟨.nil _ _, rfl⟩
  · by_cases h0 : len = 0
    · subst h0; exact ⟨.nil _ _, rfl⟩
    · have hx := hcell 0 (by omega)
      have hs := spot_none hx
      simp only [Addr.add, if_true] at hs
      obtain ⟨blk, o, sp⟩ := x
      simp only at hs
      subst hs
      have hlen : (LI k (zs.take len)).length = len := by rw [LI_length, List.length_take]; omega
      refine ⟨?_, rfl⟩
      have := Rep.list (ok := fun x _ => x < w.heap.size) (w := w) blk o cap 1 (LI k (zs.take len)) (fun i _ => .int k (zs.getD i 0)) (by rw [hlen]; exact hl) (of_eq_true LI_cells) (fun i y j z hy hz' => ?_) (fun i y j z hy hz' => ?_)
      · rw [hlen] at this; exact this
      all_goals
        simp only [LI, List.getElem?_map, Option.map_eq_some_iff, List.getElem?_take] at hy
        obtain ⟨n, hn, rfl⟩ := hy
        split at hn
        case isFalse => cases hn
        rename_i hi
        have hj : j = 0 := by
          simp only [D.cells] at hz'
          have := (List.getElem?_eq_some_iff.1 hz').1
          simpa using this
        subst hj
        simp only [D.cells, List.getElem?_cons_zero, Option.some.injEq] at hz'
        subst hz'
        have hzn : zs.getD i 0 = n := by simp [List.getD_eq_getElem?_getD, hn]
      · have hlt : i < zs.length := (List.getElem?_eq_some_iff.1 hn).1
        have hc := hcell i hlt
        have he : (Addr.add ⟨blk, o, none⟩ i) = ⟨blk, o + i * 1 + 0, none⟩ := by
          unfold Addr.add
          split
          · rename_i h; subst h; simp
          · simp
        rw [he] at hc
        refine ⟨rfl, ?_, hc⟩
        unfold World.cell? at hc
        split at hc
        · rename_i hh; exact lt_of_heap hh
        · cases hc
      · rw [hzn]; exact .int k n

/-- A slice of bytes. -/
theorem rv_bytes {w : World} {a : Option Addr} {len cap : Nat} {zs : List Int} {ℓ : Loc} (h : (a = none ∧ len = 0 ∧ cap = 0 ∧ zs = []) ∨
    ∃ x, a = some x ∧ len ≤ cap ∧ cap ≤ maxLen ∧ zs.length = cap ∧ (∀ i, i < zs.length → w.cell? (x.add i) = some (.int .u8 (zs.getD i 0))) ∧ ∀ n ∈ zs, (Lit.int .u8 n).wf = true) :
    ∃ l : List UInt8, RV (fun x _ => x < w.heap.size) ℓ w (.slice a len cap) (vL (LB l)) := by
  have hr := rv_ints (ℓ := ℓ) h
  obtain ⟨m, hm⟩ := LI_LB (zs.take len) (fun x hx => by
    have hx' := List.mem_of_mem_take hx
    rcases h with ⟨_, _, _, rfl⟩ | ⟨_, _, _, _, _, _, hwf⟩
    · cases hx'
    · exact wf_u8 (hwf x hx'))
  rw [hm] at hr
  exact ⟨m, hr⟩

end Go.Vam
