/- 'StreamMoves': for every input the law returns true and leaves its arguments as they were. Conditions: none. The row's step follows the kit's program proof-skeleton.mjs. -/
import Derived.Test.YtdhhjfnmocimmaaGreatRows
import Derived.Test.YtdhhjfnmocimmaaGreatStT
import Derived.WalkKit
import Derived.ProofKit
import Derived.OpenShut
import Derived.ShutString
import Derived.ChangeOld
import Derived.Below
namespace Go.Proofs.YtdhhjfnmocimmaaGreat.streamMoves
open Go.ChangeShapes Go.WideShapes Go.ChangeAt Go.RowKit
open Go.ChangeMaps (open_string shut_string)
set_option linter.unusedVariables false

theorem own : ownKnob Tryz.prog.godebug = none := by kernel_rfl
theorem laidOut : laidOutB Tryz.prog = true := by kernel_rfl

set_option maxRecDepth 100000 in
theorem lifted (os : Os) (started : os.Started) (H : Type) (enc : TypeId × Value → H) :
    ReturnsInHanded {} Tryz.checked os 7 .any (Rows.streamMovesSpec.pre6 enc Tryz.prog Tryz.f7 Rows.streamMovesRow.domain false) (Rows.streamMovesSpec.post enc Tryz.prog Tryz.f7 false true false false) := by
  refine returnsInHanded_of_change (C := Tryz.checked) own started (by kernel_rfl) Tryz.func7
    (ChangeSpec.witness6 (enc := enc) (C := Tryz.checked) false ⟨#[], #[.agg #[.int .i64 0, .int .i64 0, .int .i64 0, .int .i64 0, .int .i64 0, .int .i64 0, .int .i64 0, .int .i64 0, .int .i64 0, .int .i64 0, .slice none 0 0, .int .i64 0, .int .i64 0, .int .i64 0, .int .i64 0, .slice none 0 0, .int .i64 0, .int .i64 0, .int .i64 0], .agg #[.int .i64 0, .slice none 0 0], .slice none 0 0, .int .i64 0], []⟩ 12 (by kernel_rfl) (by kernel_rfl) (by kernel_rfl) (by kernel_rfl)) ?_
  intro W base args ds gs before hval0 hW hcnd _
  have hval : ∀ (j : Nat) t v, Tryz.f7.params[j]? = some t → args[j]? = some v → Value.okWide Tryz.prog W .any base t v := hval0
  have hW' := hW
  obtain ⟨p, q, hA0, hV, rfl, hfz, hnd⟩ := hW
  have hA : DataW.TrodAll enc Tryz.prog W 0 (fun _ => true) true Tryz.f7.params.toList args.toList ds p := hA0
  rw [Tryz.params7] at hA hval
  obtain ⟨v0, vs0, d0, ds0, p0, q0, hargs, rfl, rfl, h0, r0⟩ := trodAll_cons hA
  obtain ⟨v1, vs1, d1, ds1, p1, q1, rfl, rfl, rfl, h1, r1⟩ := trodAll_cons r0
  obtain ⟨v2, vs2, d2, ds2, p2, q2, rfl, rfl, rfl, h2, r2⟩ := trodAll_cons r1
  obtain ⟨v3, vs3, d3, ds3, p3, q3, rfl, rfl, rfl, h3, r3⟩ := trodAll_cons r2
  obtain ⟨rfl, rfl, rfl⟩ := trodAll_nil r3
  obtain rfl : args = #[v0, v1, v2, v3] := by cases args; simp_all
  obtain ⟨rfl, rfl⟩ := trodVars_none hV
  obtain ⟨cs0, rfl, _⟩ := okWide_struct Tryz.underlying32 (hval 0 32 v0 rfl rfl)
  have k0 := h0
  have lt0 : ∀ x ∈ p0, x.block < W.heap.size := by obtain ⟨m, hm⟩ := k0; exact DataW.trod_lt m _ _ _ hm
  obtain ⟨x0, f0, e0⟩ := Vam.rv_struct (ℓ := Vam.ℓ0) 8 k0 (ss := [.int .i64, .int .i64, .int .i64, .int .i64, .int .i64, .int .i64, .int .i64, .int .i64, .int .i64, .int .i64, .sl false [.int .i32], .int .i64, .int .i64, .int .i64, .int .i64, .sl false [.int .i32], .int .i64, .int .i64, .int .i64]) (by kernel_rfl)
  obtain ⟨y0_0, z0_0, rfl, g0_0, f0_0⟩ := Vam.fitsL_cons f0
  obtain ⟨y0_1, z0_1, rfl, g0_1, f0_1⟩ := Vam.fitsL_cons f0_0
  obtain ⟨y0_2, z0_2, rfl, g0_2, f0_2⟩ := Vam.fitsL_cons f0_1
  obtain ⟨y0_3, z0_3, rfl, g0_3, f0_3⟩ := Vam.fitsL_cons f0_2
  obtain ⟨y0_4, z0_4, rfl, g0_4, f0_4⟩ := Vam.fitsL_cons f0_3
  obtain ⟨y0_5, z0_5, rfl, g0_5, f0_5⟩ := Vam.fitsL_cons f0_4
  obtain ⟨y0_6, z0_6, rfl, g0_6, f0_6⟩ := Vam.fitsL_cons f0_5
  obtain ⟨y0_7, z0_7, rfl, g0_7, f0_7⟩ := Vam.fitsL_cons f0_6
  obtain ⟨y0_8, z0_8, rfl, g0_8, f0_8⟩ := Vam.fitsL_cons f0_7
  obtain ⟨y0_9, z0_9, rfl, g0_9, f0_9⟩ := Vam.fitsL_cons f0_8
  obtain ⟨y0_10, z0_10, rfl, g0_10, f0_10⟩ := Vam.fitsL_cons f0_9
  obtain ⟨y0_11, z0_11, rfl, g0_11, f0_11⟩ := Vam.fitsL_cons f0_10
  obtain ⟨y0_12, z0_12, rfl, g0_12, f0_12⟩ := Vam.fitsL_cons f0_11
  obtain ⟨y0_13, z0_13, rfl, g0_13, f0_13⟩ := Vam.fitsL_cons f0_12
  obtain ⟨y0_14, z0_14, rfl, g0_14, f0_14⟩ := Vam.fitsL_cons f0_13
  obtain ⟨y0_15, z0_15, rfl, g0_15, f0_15⟩ := Vam.fitsL_cons f0_14
  obtain ⟨y0_16, z0_16, rfl, g0_16, f0_16⟩ := Vam.fitsL_cons f0_15
  obtain ⟨y0_17, z0_17, rfl, g0_17, f0_17⟩ := Vam.fitsL_cons f0_16
  obtain ⟨y0_18, z0_18, rfl, g0_18, f0_18⟩ := Vam.fitsL_cons f0_17
  obtain rfl := Vam.fitsL_nil f0_18
  obtain ⟨a0_0, rfl, w0_0⟩ := Vam.fits_int g0_0
  obtain ⟨a0_1, rfl, w0_1⟩ := Vam.fits_int g0_1
  obtain ⟨a0_2, rfl, w0_2⟩ := Vam.fits_int g0_2
  obtain ⟨a0_3, rfl, w0_3⟩ := Vam.fits_int g0_3
  obtain ⟨a0_4, rfl, w0_4⟩ := Vam.fits_int g0_4
  obtain ⟨a0_5, rfl, w0_5⟩ := Vam.fits_int g0_5
  obtain ⟨a0_6, rfl, w0_6⟩ := Vam.fits_int g0_6
  obtain ⟨a0_7, rfl, w0_7⟩ := Vam.fits_int g0_7
  obtain ⟨a0_8, rfl, w0_8⟩ := Vam.fits_int g0_8
  obtain ⟨a0_9, rfl, w0_9⟩ := Vam.fits_int g0_9
  obtain ⟨a0_10, rfl, w0_10⟩ := Vam.fits_ints g0_10
  obtain ⟨a0_11, rfl, w0_11⟩ := Vam.fits_int g0_11
  obtain ⟨a0_12, rfl, w0_12⟩ := Vam.fits_int g0_12
  obtain ⟨a0_13, rfl, w0_13⟩ := Vam.fits_int g0_13
  obtain ⟨a0_14, rfl, w0_14⟩ := Vam.fits_int g0_14
  obtain ⟨a0_15, rfl, w0_15⟩ := Vam.fits_ints g0_15
  obtain ⟨a0_16, rfl, w0_16⟩ := Vam.fits_int g0_16
  obtain ⟨a0_17, rfl, w0_17⟩ := Vam.fits_int g0_17
  obtain ⟨a0_18, rfl, w0_18⟩ := Vam.fits_int g0_18
  obtain ⟨cs1, rfl, _⟩ := okWide_struct Tryz.underlying52 (hval 1 52 v1 rfl rfl)
  have k1 := h1
  have lt1 : ∀ x ∈ p1, x.block < W.heap.size := by obtain ⟨m, hm⟩ := k1; exact DataW.trod_lt m _ _ _ hm
  obtain ⟨x1, f1, e1⟩ := Vam.rv_struct (ℓ := Vam.ℓ0) 8 k1 (ss := [.int .i64, .sl false [.int .i32]]) (by kernel_rfl)
  obtain ⟨y1_0, z1_0, rfl, g1_0, f1_0⟩ := Vam.fitsL_cons f1
  obtain ⟨y1_1, z1_1, rfl, g1_1, f1_1⟩ := Vam.fitsL_cons f1_0
  obtain rfl := Vam.fitsL_nil f1_1
  obtain ⟨a1_0, rfl, w1_0⟩ := Vam.fits_int g1_0
  obtain ⟨a1_1, rfl, w1_1⟩ := Vam.fits_ints g1_1
  obtain ⟨ad2, len2, cap2, rfl⟩ := okWide_slice Tryz.underlying33 (hval 2 33 v2 rfl rfl)
  have k2 := h2
  have lt2 : ∀ x ∈ p2, x.block < W.heap.size := by obtain ⟨m, hm⟩ := k2; exact DataW.trod_lt m _ _ _ hm
  obtain ⟨x2, f2, e2⟩ := Vam.rv_cell (ℓ := Vam.ℓ0) 8 k2 rfl (s := .sl false [.int .u8]) (by kernel_rfl)
  obtain ⟨l2, rfl, w2⟩ := Vam.fits_ints f2
  obtain ⟨b2, g2⟩ := Vam.LI_LB l2 (fun x hx => Vam.wf_u8 (w2 x hx))
  rw [g2] at e2
  obtain ⟨a3, rfl, rfl, rfl, w3⟩ := open_int Tryz.underlying3 (hval 3 3 v3 rfl rfl) h3
  clear hA0 hval0
  refine (Vam.law_of_spec (Vam.spec_moves a0_0 a0_1 a0_2 a0_3 a0_4 a0_5 a0_6 a0_7 a0_8 a0_9 a0_10 a0_11 a0_12 a0_13 a0_14 a0_15 a0_16 a0_17 a0_18 a1_0 a1_1 b2 a3 ) Tryz.func7 rfl (by decide) (Vam.rvs_cons e0 (Vam.rvs_cons e1 (Vam.rvs_cons e2 (Vam.rvs_cons Vam.rv_int Vam.rvs_nil))))).mono fun e W' ⟨he, hx⟩ => ?_
  have bel := Vam.below_of_ext hx
  subst he
  exact ⟨_, rfl, _, _, _, [], _, [], hW', trodAll_mk1 (shut_bool Tryz.underlying4 _), (trodAll_cons_mk (Below.trod laidOut (by kernel_rfl) (of_decide_eq_true (by kernel_rfl)) k0 bel lt0) (trodAll_cons_mk (Below.trod laidOut (by kernel_rfl) (of_decide_eq_true (by kernel_rfl)) k1 bel lt1) (trodAll_cons_mk (Below.trod laidOut (by kernel_rfl) (of_decide_eq_true (by kernel_rfl)) k2 bel lt2) (trodAll_cons_mk (shut_int Tryz.underlying3 w3) trodAll_mk0)))), rfl, bel.frame _, fun h => by cases h⟩

theorem over : Rows.streamMovesRow.holds Tryz.pinned (OpenSpec.ofChange Rows.streamMovesSpec) :=
  OpenClaim.holds_of_wide 7 Tryz.f7 rfl rfl rfl rfl rfl rfl rfl ⟨rfl, rfl, rfl, rfl, rfl⟩ rfl rfl rfl rfl rfl (by kernel_rfl) Tryz.func7 (by kernel_rfl)
    (of_decide_eq_true (by kernel_rfl)) (by unfold Func.isWrapper; first | (rw [if_pos (by decide +kernel)]; kernel_rfl) | (rw [if_neg (by decide +kernel)]; exact ⟨rfl, rfl⟩))
    (fun os started H enc _ => lifted os started H enc)

/-- The statement. -/
theorem proved : Rows.StreamMovesSaid := over
#print axioms proved
end Go.Proofs.YtdhhjfnmocimmaaGreat.streamMoves
