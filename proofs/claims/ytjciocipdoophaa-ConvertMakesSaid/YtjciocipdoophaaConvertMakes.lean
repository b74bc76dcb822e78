/- 'ConvertMakes': for every input the law returns true and leaves its arguments as they were. Conditions: none. The row's step follows the kit's program proof-skeleton.mjs. -/
import Derived.Test.YtjciocipdoophaaRows
import Derived.Test.YtjciocipdoophaaCvQ
import Derived.WalkKit
import Derived.ProofKit
import Derived.OpenShut
import Derived.ShutString
import Derived.ChangeOld
import Derived.Below
namespace Go.Proofs.Ytjciocipdoophaa.convertMakes
open Go.ChangeShapes Go.WideShapes Go.ChangeAt Go.RowKit
open Go.ChangeMaps (open_string shut_string)
set_option linter.unusedVariables false

theorem own : ownKnob Try.prog.godebug = none := by kernel_rfl
theorem laidOut : laidOutB Try.prog = true := by kernel_rfl

set_option maxRecDepth 100000 in
theorem lifted (os : Os) (started : os.Started) (H : Type) (enc : TypeId × Value → H) :
    ReturnsInHanded {} Try.checked os 3 .any (Rows.convertMakesSpec.pre6 enc Try.prog Try.f3 Rows.convertMakesRow.domain false) (Rows.convertMakesSpec.post enc Try.prog Try.f3 false true false false) := by
  refine returnsInHanded_of_change (C := Try.checked) own started (by kernel_rfl) Try.func3
    (ChangeSpec.witness6 (enc := enc) (C := Try.checked) false ⟨#[], #[.agg #[.int .i64 0, .int .i64 0, .slice none 0 0], .agg #[.int .i64 0, .int .i64 0, .slice none 0 0], .slice none 0 0, .agg #[.int .i64 0, .int .i64 0, .slice none 0 0, .int .i64 0, .int .i64 0, .slice none 0 0, .int .i64 0, .int .i64 0, .slice none 0 0, .int .i64 0, .int .i64 0, .int .i64 0, .int .i64 0, .int .i64 0, .int .i64 0, .slice none 0 0]], []⟩ 12 (by kernel_rfl) (by kernel_rfl) (by kernel_rfl) (by kernel_rfl)) ?_
  intro W base args ds gs before hval0 hW hcnd _
  have hval : ∀ (j : Nat) t v, Try.f3.params[j]? = some t → args[j]? = some v → Value.okWide Try.prog W .any base t v := hval0
  have hW' := hW
  obtain ⟨p, q, hA0, hV, rfl, hfz, hnd⟩ := hW
  have hA : DataW.TrodAll enc Try.prog W 0 (fun _ => true) true Try.f3.params.toList args.toList ds p := hA0
  rw [Try.params3] at hA hval
  obtain ⟨v0, vs0, d0, ds0, p0, q0, hargs, rfl, rfl, h0, r0⟩ := trodAll_cons hA
  obtain ⟨v1, vs1, d1, ds1, p1, q1, rfl, rfl, rfl, h1, r1⟩ := trodAll_cons r0
  obtain ⟨v2, vs2, d2, ds2, p2, q2, rfl, rfl, rfl, h2, r2⟩ := trodAll_cons r1
  obtain ⟨v3, vs3, d3, ds3, p3, q3, rfl, rfl, rfl, h3, r3⟩ := trodAll_cons r2
  obtain ⟨rfl, rfl, rfl⟩ := trodAll_nil r3
  obtain rfl : args = #[v0, v1, v2, v3] := by cases args; simp_all
  obtain ⟨rfl, rfl⟩ := trodVars_none hV
  obtain ⟨cs0, rfl, _⟩ := okWide_struct Try.underlying24 (hval 0 24 v0 rfl rfl)
  have k0 := h0
  have lt0 : ∀ x ∈ p0, x.block < W.heap.size := by obtain ⟨m, hm⟩ := k0; exact DataW.trod_lt m _ _ _ hm
  obtain ⟨x0, f0, e0⟩ := Vam.rv_struct (ℓ := Vam.ℓ0) 8 k0 (ss := [.int .i64, .int .i64, .sl false [.int .i64]]) (by kernel_rfl)
  obtain ⟨y0_0, z0_0, rfl, g0_0, f0_0⟩ := Vam.fitsL_cons f0
  obtain ⟨y0_1, z0_1, rfl, g0_1, f0_1⟩ := Vam.fitsL_cons f0_0
  obtain ⟨y0_2, z0_2, rfl, g0_2, f0_2⟩ := Vam.fitsL_cons f0_1
  obtain rfl := Vam.fitsL_nil f0_2
  obtain ⟨a0_0, rfl, w0_0⟩ := Vam.fits_int g0_0
  obtain ⟨a0_1, rfl, w0_1⟩ := Vam.fits_int g0_1
  obtain ⟨a0_2, rfl, w0_2⟩ := Vam.fits_ints g0_2
  obtain ⟨cs1, rfl, _⟩ := okWide_struct Try.underlying24 (hval 1 24 v1 rfl rfl)
  have k1 := h1
  have lt1 : ∀ x ∈ p1, x.block < W.heap.size := by obtain ⟨m, hm⟩ := k1; exact DataW.trod_lt m _ _ _ hm
  obtain ⟨x1, f1, e1⟩ := Vam.rv_struct (ℓ := Vam.ℓ0) 8 k1 (ss := [.int .i64, .int .i64, .sl false [.int .i64]]) (by kernel_rfl)
  obtain ⟨y1_0, z1_0, rfl, g1_0, f1_0⟩ := Vam.fitsL_cons f1
  obtain ⟨y1_1, z1_1, rfl, g1_1, f1_1⟩ := Vam.fitsL_cons f1_0
  obtain ⟨y1_2, z1_2, rfl, g1_2, f1_2⟩ := Vam.fitsL_cons f1_1
  obtain rfl := Vam.fitsL_nil f1_2
  obtain ⟨a1_0, rfl, w1_0⟩ := Vam.fits_int g1_0
  obtain ⟨a1_1, rfl, w1_1⟩ := Vam.fits_int g1_1
  obtain ⟨a1_2, rfl, w1_2⟩ := Vam.fits_ints g1_2
  obtain ⟨ad2, len2, cap2, rfl⟩ := okWide_slice Try.underlying25 (hval 2 25 v2 rfl rfl)
  have k2 := h2
  have lt2 : ∀ x ∈ p2, x.block < W.heap.size := by obtain ⟨m, hm⟩ := k2; exact DataW.trod_lt m _ _ _ hm
  obtain ⟨x2, f2, e2⟩ := Vam.rv_cell (ℓ := Vam.ℓ0) 8 k2 rfl (s := .sl false [.int .u8]) (by kernel_rfl)
  obtain ⟨l2, rfl, w2⟩ := Vam.fits_ints f2
  obtain ⟨b2, g2⟩ := Vam.LI_LB l2 (fun x hx => Vam.wf_u8 (w2 x hx))
  rw [g2] at e2
  obtain ⟨cs3, rfl, _⟩ := okWide_struct Try.underlying36 (hval 3 36 v3 rfl rfl)
  have k3 := h3
  have lt3 : ∀ x ∈ p3, x.block < W.heap.size := by obtain ⟨m, hm⟩ := k3; exact DataW.trod_lt m _ _ _ hm
  obtain ⟨x3, f3, e3⟩ := Vam.rv_struct (ℓ := Vam.ℓ0) 8 k3 (ss := [.int .i64, .int .i64, .sl false [.int .i64], .int .i64, .int .i64, .sl false [.int .i64], .int .i64, .int .i64, .sl false [.int .i64], .int .i64, .int .i64, .int .i64, .int .i64, .int .i64, .int .i64, .sl false [.int .i32]]) (by kernel_rfl)
  obtain ⟨y3_0, z3_0, rfl, g3_0, f3_0⟩ := Vam.fitsL_cons f3
  obtain ⟨y3_1, z3_1, rfl, g3_1, f3_1⟩ := Vam.fitsL_cons f3_0
  obtain ⟨y3_2, z3_2, rfl, g3_2, f3_2⟩ := Vam.fitsL_cons f3_1
  obtain ⟨y3_3, z3_3, rfl, g3_3, f3_3⟩ := Vam.fitsL_cons f3_2
  obtain ⟨y3_4, z3_4, rfl, g3_4, f3_4⟩ := Vam.fitsL_cons f3_3
  obtain ⟨y3_5, z3_5, rfl, g3_5, f3_5⟩ := Vam.fitsL_cons f3_4
  obtain ⟨y3_6, z3_6, rfl, g3_6, f3_6⟩ := Vam.fitsL_cons f3_5
  obtain ⟨y3_7, z3_7, rfl, g3_7, f3_7⟩ := Vam.fitsL_cons f3_6
  obtain ⟨y3_8, z3_8, rfl, g3_8, f3_8⟩ := Vam.fitsL_cons f3_7
  obtain ⟨y3_9, z3_9, rfl, g3_9, f3_9⟩ := Vam.fitsL_cons f3_8
  obtain ⟨y3_10, z3_10, rfl, g3_10, f3_10⟩ := Vam.fitsL_cons f3_9
  obtain ⟨y3_11, z3_11, rfl, g3_11, f3_11⟩ := Vam.fitsL_cons f3_10
  obtain ⟨y3_12, z3_12, rfl, g3_12, f3_12⟩ := Vam.fitsL_cons f3_11
  obtain ⟨y3_13, z3_13, rfl, g3_13, f3_13⟩ := Vam.fitsL_cons f3_12
  obtain ⟨y3_14, z3_14, rfl, g3_14, f3_14⟩ := Vam.fitsL_cons f3_13
  obtain ⟨y3_15, z3_15, rfl, g3_15, f3_15⟩ := Vam.fitsL_cons f3_14
  obtain rfl := Vam.fitsL_nil f3_15
  obtain ⟨a3_0, rfl, w3_0⟩ := Vam.fits_int g3_0
  obtain ⟨a3_1, rfl, w3_1⟩ := Vam.fits_int g3_1
  obtain ⟨a3_2, rfl, w3_2⟩ := Vam.fits_ints g3_2
  obtain ⟨a3_3, rfl, w3_3⟩ := Vam.fits_int g3_3
  obtain ⟨a3_4, rfl, w3_4⟩ := Vam.fits_int g3_4
  obtain ⟨a3_5, rfl, w3_5⟩ := Vam.fits_ints g3_5
  obtain ⟨a3_6, rfl, w3_6⟩ := Vam.fits_int g3_6
  obtain ⟨a3_7, rfl, w3_7⟩ := Vam.fits_int g3_7
  obtain ⟨a3_8, rfl, w3_8⟩ := Vam.fits_ints g3_8
  obtain ⟨a3_9, rfl, w3_9⟩ := Vam.fits_int g3_9
  obtain ⟨a3_10, rfl, w3_10⟩ := Vam.fits_int g3_10
  obtain ⟨a3_11, rfl, w3_11⟩ := Vam.fits_int g3_11
  obtain ⟨a3_12, rfl, w3_12⟩ := Vam.fits_int g3_12
  obtain ⟨a3_13, rfl, w3_13⟩ := Vam.fits_int g3_13
  obtain ⟨a3_14, rfl, w3_14⟩ := Vam.fits_int g3_14
  obtain ⟨a3_15, rfl, w3_15⟩ := Vam.fits_ints g3_15
  clear hA0 hval0
  refine (Vam.law_of_spec (Vam.spec_lmakes a0_0 a0_1 a0_2 a1_0 a1_1 a1_2 b2 a3_0 a3_1 a3_2 a3_3 a3_4 a3_5 a3_6 a3_7 a3_8 a3_9 a3_10 a3_11 a3_12 a3_13 a3_14 a3_15 ) Try.func3 rfl (by decide) (Vam.rvs_cons e0 (Vam.rvs_cons e1 (Vam.rvs_cons e2 (Vam.rvs_cons e3 Vam.rvs_nil))))).mono fun e W' ⟨he, hx⟩ => ?_
  have bel := Vam.below_of_ext hx
  subst he
  exact ⟨_, rfl, _, _, _, [], _, [], hW', trodAll_mk1 (shut_bool Try.underlying4 _), (trodAll_cons_mk (Below.trod laidOut (by kernel_rfl) (of_decide_eq_true (by kernel_rfl)) k0 bel lt0) (trodAll_cons_mk (Below.trod laidOut (by kernel_rfl) (of_decide_eq_true (by kernel_rfl)) k1 bel lt1) (trodAll_cons_mk (Below.trod laidOut (by kernel_rfl) (of_decide_eq_true (by kernel_rfl)) k2 bel lt2) (trodAll_cons_mk (Below.trod laidOut (by kernel_rfl) (of_decide_eq_true (by kernel_rfl)) k3 bel lt3) trodAll_mk0)))), rfl, bel.frame _, fun h => by cases h⟩

theorem over : Rows.convertMakesRow.holds Try.pinned (OpenSpec.ofChange Rows.convertMakesSpec) :=
  OpenClaim.holds_of_wide 3 Try.f3 rfl rfl rfl rfl rfl rfl rfl ⟨rfl, rfl, rfl, rfl, rfl⟩ rfl rfl rfl rfl rfl (by kernel_rfl) Try.func3 (by kernel_rfl)
    (of_decide_eq_true (by kernel_rfl)) (by unfold Func.isWrapper; first | (rw [if_pos (by decide +kernel)]; kernel_rfl) | (rw [if_neg (by decide +kernel)]; exact ⟨rfl, rfl⟩))
    (fun os started H enc _ => lifted os started H enc)

/-- The statement. -/
theorem proved : Rows.ConvertMakesSaid := over
#print axioms proved
end Go.Proofs.Ytjciocipdoophaa.convertMakes
