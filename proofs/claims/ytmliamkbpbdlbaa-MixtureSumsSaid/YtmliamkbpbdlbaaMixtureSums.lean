/- 'MixtureSums': for every input the law returns true and leaves its arguments as they were. Conditions: none. The row's step follows the kit's program proof-skeleton.mjs. -/
import Derived.Test.YtmliamkbpbdlbaaRows
import Derived.Test.YtmliamkbpbdlbaaMixJ
import Derived.Test.YtmliamkbpbdlbaaVamFit
import Derived.WalkKit
import Derived.ProofKit
import Derived.OpenShut
import Derived.ShutString
import Derived.ChangeOld
import Derived.Below
namespace Go.Proofs.Ytmliamkbpbdlbaa.mixtureSums
open Go.ChangeShapes Go.WideShapes Go.ChangeAt Go.RowKit
open Go.ChangeMaps (open_string shut_string)
set_option linter.unusedVariables false

theorem own : ownKnob Try.prog.godebug = none := by kernel_rfl
theorem laidOut : laidOutB Try.prog = true := by kernel_rfl

set_option maxRecDepth 100000 in
theorem lifted (os : Os) (started : os.Started) (H : Type) (enc : TypeId × Value → H) :
    ReturnsInHanded {} Try.checked os 6 .any (Rows.mixtureSumsSpec.pre6 enc Try.prog Try.f6 Rows.mixtureSumsRow.domain false) (Rows.mixtureSumsSpec.post enc Try.prog Try.f6 false true false false) := by
  refine returnsInHanded_of_change (C := Try.checked) own started (by kernel_rfl) Try.func6
    (ChangeSpec.witness6 (enc := enc) (C := Try.checked) false ⟨#[], #[.slice none 0 0, .agg #[.int .i64 0, .int .i64 0, .int .i64 0], .slice none 0 0, .int .i64 0, .int .i64 0], []⟩ 6 (by kernel_rfl) (by kernel_rfl) (by kernel_rfl) (by kernel_rfl)) ?_
  intro W base args ds gs before hval0 hW hcnd _
  have hval : ∀ (j : Nat) t v, Try.f6.params[j]? = some t → args[j]? = some v → Value.okWide Try.prog W .any base t v := hval0
  have hW' := hW
  obtain ⟨p, q, hA0, hV, rfl, hfz, hnd⟩ := hW
  have hA : DataW.TrodAll enc Try.prog W 0 (fun _ => true) true Try.f6.params.toList args.toList ds p := hA0
  rw [Try.params6] at hA hval
  obtain ⟨v0, vs0, d0, ds0, p0, q0, hargs, rfl, rfl, h0, r0⟩ := trodAll_cons hA
  obtain ⟨v1, vs1, d1, ds1, p1, q1, rfl, rfl, rfl, h1, r1⟩ := trodAll_cons r0
  obtain ⟨v2, vs2, d2, ds2, p2, q2, rfl, rfl, rfl, h2, r2⟩ := trodAll_cons r1
  obtain ⟨v3, vs3, d3, ds3, p3, q3, rfl, rfl, rfl, h3, r3⟩ := trodAll_cons r2
  obtain ⟨v4, vs4, d4, ds4, p4, q4, rfl, rfl, rfl, h4, r4⟩ := trodAll_cons r3
  obtain ⟨rfl, rfl, rfl⟩ := trodAll_nil r4
  obtain rfl : args = #[v0, v1, v2, v3, v4] := by cases args; simp_all
  obtain ⟨rfl, rfl⟩ := trodVars_none hV
  obtain ⟨ad0, len0, cap0, rfl⟩ := okWide_slice Try.underlying27 (hval 0 27 v0 rfl rfl)
  have k0 := h0
  have lt0 : ∀ x ∈ p0, x.block < W.heap.size := by obtain ⟨m, hm⟩ := k0; exact DataW.trod_lt m _ _ _ hm
  obtain ⟨x0, f0, e0⟩ := Vam.rv_cell (ℓ := Vam.ℓ0) 8 k0 rfl (s := .sl true Vam.shInp) (by kernel_rfl)
  obtain ⟨l0, rfl⟩ := Vam.fits_inps f0
  have n0 : l0.length ≤ 9223372036854775807 := by
    have n1 := Vam.rv_len e0
    have n2 := Vam.okWide_len Try.underlying27 (hval 0 27 _ rfl rfl)
    rw [Vam.LX_length] at n1
    omega
  obtain ⟨cs1, rfl, _⟩ := okWide_struct Try.underlying30 (hval 1 30 v1 rfl rfl)
  have k1 := h1
  have lt1 : ∀ x ∈ p1, x.block < W.heap.size := by obtain ⟨m, hm⟩ := k1; exact DataW.trod_lt m _ _ _ hm
  obtain ⟨x1, f1, e1⟩ := Vam.rv_struct (ℓ := Vam.ℓ0) 8 k1 (ss := [.int .i64, .int .i64, .int .i64]) (by kernel_rfl)
  obtain ⟨y1_0, z1_0, rfl, g1_0, f1_0⟩ := Vam.fitsL_cons f1
  obtain ⟨y1_1, z1_1, rfl, g1_1, f1_1⟩ := Vam.fitsL_cons f1_0
  obtain ⟨y1_2, z1_2, rfl, g1_2, f1_2⟩ := Vam.fitsL_cons f1_1
  obtain rfl := Vam.fitsL_nil f1_2
  obtain ⟨a1_0, rfl, w1_0⟩ := Vam.fits_int g1_0
  obtain ⟨a1_1, rfl, w1_1⟩ := Vam.fits_int g1_1
  obtain ⟨a1_2, rfl, w1_2⟩ := Vam.fits_int g1_2
  obtain ⟨ad2, len2, cap2, rfl⟩ := okWide_slice Try.underlying22 (hval 2 22 v2 rfl rfl)
  have k2 := h2
  have lt2 : ∀ x ∈ p2, x.block < W.heap.size := by obtain ⟨m, hm⟩ := k2; exact DataW.trod_lt m _ _ _ hm
  obtain ⟨x2, f2, e2⟩ := Vam.rv_cell (ℓ := Vam.ℓ0) 8 k2 rfl (s := .sl false [.int .u8]) (by kernel_rfl)
  obtain ⟨l2, rfl, w2⟩ := Vam.fits_ints f2
  obtain ⟨b2, g2⟩ := Vam.LI_LB l2 (fun x hx => Vam.wf_u8 (w2 x hx))
  rw [g2] at e2
  obtain ⟨a3, rfl, rfl, rfl, w3⟩ := open_int Try.underlying3 (hval 3 3 v3 rfl rfl) h3
  obtain ⟨a4, rfl, rfl, rfl, w4⟩ := open_int Try.underlying3 (hval 4 3 v4 rfl rfl) h4
  clear hA0 hval0
  refine (Vam.law_of_spec (Vam.spec_sums l0 a1_0 a1_1 a1_2 b2 a3 a4 n0) Try.func6 rfl (by decide) (Vam.rvs_cons e0 (Vam.rvs_cons e1 (Vam.rvs_cons e2 (Vam.rvs_cons Vam.rv_int (Vam.rvs_cons Vam.rv_int Vam.rvs_nil)))))).mono fun e W' ⟨he, hx⟩ => ?_
  have bel := Vam.below_of_ext hx
  subst he
  exact ⟨_, rfl, _, _, _, [], _, [], hW', trodAll_mk1 (shut_bool Try.underlying4 _), (trodAll_cons_mk (Below.trod laidOut (by kernel_rfl) (of_decide_eq_true (by kernel_rfl)) k0 bel lt0) (trodAll_cons_mk (Below.trod laidOut (by kernel_rfl) (of_decide_eq_true (by kernel_rfl)) k1 bel lt1) (trodAll_cons_mk (Below.trod laidOut (by kernel_rfl) (of_decide_eq_true (by kernel_rfl)) k2 bel lt2) (trodAll_cons_mk (shut_int Try.underlying3 w3) (trodAll_cons_mk (shut_int Try.underlying3 w4) trodAll_mk0))))), rfl, bel.frame _, fun h => by cases h⟩

theorem over : Rows.mixtureSumsRow.holds Try.pinned (OpenSpec.ofChange Rows.mixtureSumsSpec) :=
  OpenClaim.holds_of_wide 6 Try.f6 rfl rfl rfl rfl rfl rfl rfl ⟨rfl, rfl, rfl, rfl, rfl⟩ rfl rfl rfl rfl rfl (by kernel_rfl) Try.func6 (by kernel_rfl)
    (of_decide_eq_true (by kernel_rfl)) (by unfold Func.isWrapper; first | (rw [if_pos (by decide +kernel)]; kernel_rfl) | (rw [if_neg (by decide +kernel)]; exact ⟨rfl, rfl⟩))
    (fun os started H enc _ => lifted os started H enc)

/-- The statement. -/
theorem proved : Rows.MixtureSumsSaid := over
#print axioms proved
end Go.Proofs.Ytmliamkbpbdlbaa.mixtureSums
