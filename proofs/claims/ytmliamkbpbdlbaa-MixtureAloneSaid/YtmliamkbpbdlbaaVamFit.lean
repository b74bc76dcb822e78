/- The value-level machine, part 32: lists of inputs as arguments of a law. Conditions: none. -/
import Derived.Test.YtmliamkbpbdlbaaVamInp
set_option linter.unusedVariables false
namespace Go.Vam

def shInp : List Sh := [.int .i64, .sl false [.int .i32], .int .i64, .int .i64, .sl false [.int .i64], .int .i64, .int .i64, .int .i64, .int .i64]
theorem fits_inp {cs : List D} (h : FitsL shInp cs) : ∃ x : Inp, D.agg cs = inpD x := by
  unfold shInp at h
  obtain ⟨y0, z0, rfl, g0, h⟩ := fitsL_cons h
  obtain ⟨y1, z1, rfl, g1, h⟩ := fitsL_cons h
  obtain ⟨y2, z2, rfl, g2, h⟩ := fitsL_cons h
  obtain ⟨y3, z3, rfl, g3, h⟩ := fitsL_cons h
  obtain ⟨y4, z4, rfl, g4, h⟩ := fitsL_cons h
  obtain ⟨y5, z5, rfl, g5, h⟩ := fitsL_cons h
  obtain ⟨y6, z6, rfl, g6, h⟩ := fitsL_cons h
  obtain ⟨y7, z7, rfl, g7, h⟩ := fitsL_cons h
  obtain ⟨y8, z8, rfl, g8, h⟩ := fitsL_cons h
  obtain rfl := fitsL_nil h
  obtain ⟨c, rfl, _⟩ := fits_int g0
  obtain ⟨l, rfl, _⟩ := fits_ints g1
  obtain ⟨a, rfl, _⟩ := fits_int g2
  obtain ⟨b, rfl, _⟩ := fits_int g3
  obtain ⟨m, rfl, _⟩ := fits_ints g4
  obtain ⟨f, rfl, _⟩ := fits_int g5
  obtain ⟨t, rfl, _⟩ := fits_int g6
  obtain ⟨n, rfl, _⟩ := fits_int g7
  obtain ⟨i, rfl, _⟩ := fits_int g8
  exact ⟨⟨c, l, a, b, m, f, t, n, i⟩, rfl⟩
theorem fits_inps {x : D} (h : Fits (.sl true shInp) x) : ∃ l : List Inp, x = .list (LX l) := by
  simp only [Fits] at h
  obtain ⟨l, rfl, hl⟩ := h
  suffices ∃ m : List Inp, l = LX m by obtain ⟨m, rfl⟩ := this; exact ⟨m, rfl⟩
  induction l with
  | nil => exact ⟨[], rfl⟩
  | cons y l ih =>
    obtain ⟨m, hm⟩ := ih (fun z hz => hl z (List.mem_cons_of_mem _ hz))
    obtain ⟨cs, h1, h2⟩ := hl y List.mem_cons_self
    obtain ⟨u, hu⟩ := fits_inp h1
    refine ⟨u :: m, ?_⟩
    rw [h2, hm]
    show D.agg cs :: LX m = inpD u :: LX m
    rw [hu]

theorem rv_len {ok : Foot} {ℓ : Loc} {w : World} {a : Option Addr} {n c : Nat} {l : List D} (h : RV ok ℓ w (.slice a n c) (.c (.d (.list l)))) : l.length = n := by
  have h1 : Rep ok w (.slice a n c) (.list l) := h.1
  cases h1 <;> rfl
theorem okWide_len {P : Program} {w : World} {r : Reach} {base : Nat} {t e : TypeId} {a : Option Addr} {n c : Nat} (hu : P.underlying t = some (.slice e)) (h : Value.okWide P w r base t (.slice a n c)) : n ≤ 9223372036854775807 := by
  unfold Value.okWide at h
  rw [hu] at h
  unfold Cell.okWide at h
  rw [hu] at h
  unfold Cell.ok at h
  rw [hu] at h
  cases a with
  | none =>
    match n, c, h with
    | 0, 0, _ => exact Nat.zero_le _
  | some a =>
    have h1 : n ≤ c ∧ (c : Int) ≤ IntKind.i64.max ∧ _ := h
    have h2 : IntKind.i64.max = 9223372036854775807 := by decide
    rw [h2] at h1
    omega

end Go.Vam
