/- A part of the proof. Conditions: none. -/
import Derived.Test.YtmpbpijnbmpbhaaGreatDe
set_option linter.unusedVariables false
set_option linter.defProp false
set_option linter.unusedSimpArgs false
set_option maxRecDepth 40000
set_option maxHeartbeats 4000000
namespace Go.Vam
open Go.Proofs
def gE2 := And.intro (@fm_eta) (And.intro (@cv_eta) (And.intro (@cvtD_eq) (@cvtC_eq)))
theorem and32 {z : Int} (h : 0 ≤ z ∧ z ≤ 18446744073709551615) : ((BitVec.ofInt IntKind.u64.bits z &&& BitVec.ofInt IntKind.u64.bits 4294967295).toNat : Int) = z % 4294967296 := by
  show (((BitVec.ofInt 64 z &&& BitVec.ofInt 64 4294967295).toNat : Nat) : Int) = _
  rw [BitVec.toNat_and]
  have e : (BitVec.ofInt 64 4294967295).toNat = 2 ^ 32 - 1 := by decide
  rw [e, Nat.and_two_pow_sub_one_eq_mod]
  simp only [BitVec.toNat_ofInt]
  omega
theorem spec_mul64 (x y : Int) (hx : 0 ≤ x ∧ x ≤ 1099511627776) (hy : 0 ≤ y ∧ y ≤ 65536) : Spec Tryz.prog 0 240 [vI .u64 x, vI .u64 y] [] [] (.tup [.int .u64 0, .int .u64 (x * y)]) [] [] := by
  refine sE (md := fun _ => 0) (L := []) [] 16371 tabs_nil Tryz.func240 rfl rfl rfl ?_
  simp (maxSteps := 1000000) only [↓gPre, gPost, gCore, gDef, gSt, gS0, Nat.reduceShiftRight, Nat.reduceMod, ↓reduceIte, reduceCtorEq, Nat.reduceEqDiff, Nat.reduceLT, Nat.reduceLeDiff, Nat.reduceAdd, Nat.reduceMul, Int.reduceLE, Int.reduceLT, Int.reduceNeg, Int.reduceAdd, Int.reduceToNat, gE1, gE2, Tryz.ntmps240, Tryz.results240, gTT]
  have eb : Nat.min 32 IntKind.u64.bits = 32 := rfl
  have ey : y.fdiv (2 ^ 32) = 0 := by rw [Int.fdiv_eq_ediv_of_nonneg _ (by decide)]; omega
  have ex : x.fdiv (2 ^ 32) = x / 4294967296 := Int.fdiv_eq_ediv_of_nonneg _ (by decide)
  have hm : ∀ z : Int, 0 ≤ z → z ≤ 4294967296 → 0 ≤ z * y ∧ z * y ≤ 4294967296 * 65536 := fun z h1 h2 => ⟨Int.mul_nonneg h1 hy.1, Int.mul_le_mul h2 hy.2 hy.1 (by decide)⟩
  have h1 := hm (x % 4294967296) (by omega) (by omega)
  have h2 : 0 ≤ x / 4294967296 * y ∧ x / 4294967296 * y ≤ 256 * 65536 := ⟨Int.mul_nonneg (by omega) hy.1, Int.mul_le_mul (by omega) hy.2 hy.1 (by decide)⟩
  have h3 : 0 ≤ x * y ∧ x * y ≤ 1099511627776 * 65536 := ⟨Int.mul_nonneg hx.1 hy.1, Int.mul_le_mul hx.2 hy.2 hy.1 (by decide)⟩
  rw [eb, ey, ex, and32 (by omega), and32 (by omega)]
  have e4 : y % 4294967296 = y := by omega
  rw [e4, IntWalk.u64_in y (by omega), IntWalk.u64_in (x % 4294967296) (by omega), Int.mul_zero, Int.mul_zero, IntWalk.u64_in (x / 4294967296 * y) (by omega), IntWalk.u64_in (x % 4294967296 * y) (by omega), IntWalk.u64_in (x * y) (by omega)]
  generalize x % 4294967296 * y = p at *
  generalize x / 4294967296 * y = q at *
  have e5 : p.fdiv (2 ^ 32) = p / 4294967296 := Int.fdiv_eq_ediv_of_nonneg _ (by decide)
  rw [e5, IntWalk.u64_in (q + p / 4294967296) (by omega), and32 (by omega)]
  have e6 : (q + p / 4294967296).fdiv (2 ^ 32) = 0 := by rw [Int.fdiv_eq_ediv_of_nonneg _ (by decide)]; omega
  rw [e6]
  have e7 : (q + p / 4294967296) % 4294967296 = q + p / 4294967296 := by omega
  have w0 : IntKind.u64.wrap 0 = 0 := by decide
  simp only [e7, w0, Int.add_zero, Int.zero_add, IntWalk.u64_in (q + p / 4294967296) (by omega), e6]
def E_mul64 : List V → Boxes → Toks → Name → Option Ent
  | [.c (.d (.int .u64 x)), .c (.d (.int .u64 y))], [], [], _ => some ⟨(0 ≤ x ∧ x ≤ 1099511627776) ∧ (0 ≤ y ∧ y ≤ 65536), .tup [.int .u64 0, .int .u64 (x * y)], [], []⟩
  | _, _, _, _ => none
def E_mul64_eq := And.intro (@E_mul64.eq_1) (@E_mul64.eq_1)
theorem E_mul64_ok : Snd Tryz.prog 240 E_mul64 := by
  intro vs b k n e h hn hp
  unfold E_mul64 at h
  split at h
  · cases h; obtain ⟨hp0, hp1⟩ := hp; exact (spec_mul64 _ _ hp0 hp1).lift rfl _
  · cases h
theorem spec_div64 (x y : Int) (hx : 0 ≤ x ∧ x ≤ 1152921504606846976) (hy : 1 ≤ y ∧ y ≤ 68719476736) : Spec Tryz.prog 0 241 [vI .u64 0, vI .u64 x, vI .u64 y] [] [] (.tup [.int .u64 (x / y), .int .u64 (x % y)]) [] [] := by
  refine sE (md := fun _ => 0) (L := []) [(17, [0, 0, 0, 0, 0, 1339612589541271485227670990329741255, 0, 0, 0, 0, 0, 0]), (24, [0, 0, 0, 0, 0, 1349855206390817479407533205875064775, 0, 0, 0, 0, 0, 0]), (28, [0, 0, 0, 0, 0, 43493679634671988334798410452216850153415, 0, 0, 0, 0, 0, 38134232355667207535250260385166500822983, 0, 0, 0, 0])] 1339612589540973385843439843975626695 tabs_nil Tryz.func241 rfl rfl rfl ?_
  have h1 : (y == 0) = false := by simp; omega
  have h2 : decide (y ≤ 0) = false := by simp; omega
  simp (maxSteps := 1000000) only [↓gPre, gPost, gCore, gDef, gSt, gS0, Nat.reduceShiftRight, Nat.reduceMod, ↓reduceIte, reduceCtorEq, Nat.reduceEqDiff, Nat.reduceLT, Nat.reduceLeDiff, Nat.reduceAdd, Nat.reduceMul, Int.reduceLE, Int.reduceLT, Int.reduceNeg, Int.reduceAdd, Int.reduceToNat, gE1, gE2, h1, h2, Tryz.ntmps241, Tryz.results241, gTT]
  have e := Int.ediv_nonneg hx.1 (show 0 ≤ y by omega)
  have e2 := Int.ediv_le_self y hx.1
  refine ⟨by kernel_rfl, by omega, by omega, ?_⟩
  rw [Int.tdiv_eq_ediv_of_nonneg hx.1, Int.tmod_eq_emod_of_nonneg hx.1, IntWalk.u64_in (x / y) (by omega)]
def E_div64 : List V → Boxes → Toks → Name → Option Ent
  | [.c (.d (.int .u64 0)), .c (.d (.int .u64 x)), .c (.d (.int .u64 y))], [], [], _ => some ⟨(0 ≤ x ∧ x ≤ 1152921504606846976) ∧ (1 ≤ y ∧ y ≤ 68719476736), .tup [.int .u64 (x / y), .int .u64 (x % y)], [], []⟩
  | _, _, _, _ => none
def E_div64_eq := And.intro (@E_div64.eq_1) (@E_div64.eq_1)
theorem E_div64_ok : Snd Tryz.prog 241 E_div64 := by
  intro vs b k n e h hn hp
  unfold E_div64 at h
  split at h
  · cases h; obtain ⟨hp0, hp1⟩ := hp; exact (spec_div64 _ _ hp0 hp1).lift rfl _
  · cases h
theorem spec_ratcheck (n rn rd : Int) (hn : 0 ≤ n ∧ n ≤ 1099511627776) (hr : rtV rn rd = true) : Spec Tryz.prog 0 188 [vI .i64 n, .agg [.d (.int .i64 rn), .d (.int .i64 rd)]] [] [] (vI .i64 0) [] [] := by
  refine sE (md := fun _ => 0) (L := [(216, E_rtvalid)]) [] 571 (tabs_cons E_rtvalid_ok tabs_nil) Tryz.func188 rfl rfl rfl ?_
  have h1 : decide (n < -1125899906842624) = false := decide_eq_false (by omega)
  have h2 : decide (1125899906842624 < n) = false := decide_eq_false (by omega)
  simp (maxSteps := 1000000) only [↓gPre, gPost, gCore, gDef, gSt, gS0, Nat.reduceShiftRight, Nat.reduceMod, ↓reduceIte, reduceCtorEq, Nat.reduceEqDiff, Nat.reduceLT, Nat.reduceLeDiff, Nat.reduceAdd, Nat.reduceMul, Int.reduceLE, Int.reduceLT, Int.reduceNeg, Int.reduceAdd, Int.reduceToNat, E_rtvalid_eq, gE1, gE2, h1, h2, hr, Tryz.ntmps188, Tryz.results188, gTT]
def E_ratcheck : List V → Boxes → Toks → Name → Option Ent
  | [.c (.d (.int .i64 n)), .agg [.d (.int .i64 rn), .d (.int .i64 rd)]], [], [], _ => some ⟨(0 ≤ n ∧ n ≤ 1099511627776) ∧ rtV rn rd = true, vI .i64 0, [], []⟩
  | _, _, _, _ => none
def E_ratcheck_eq := And.intro (@E_ratcheck.eq_1) (@E_ratcheck.eq_1)
theorem E_ratcheck_ok : Snd Tryz.prog 188 E_ratcheck := by
  intro vs b k n e h hn hp
  unfold E_ratcheck at h
  split at h
  · cases h; obtain ⟨hp0, hp1⟩ := hp; exact (spec_ratcheck _ _ _ hp0 hp1).lift rfl _
  · cases h
theorem spec_divide (n rn rd : Int) (hn : 0 ≤ n ∧ n ≤ 1099511627776) (hr : 1 ≤ rn ∧ rn ≤ 65536) (hd : rd = 1) : Spec Tryz.prog 0 189 [vI .i64 n, .agg [.d (.int .i64 rn), .d (.int .i64 rd)]] [] [] (.tup [.int .i64 (n * rn), .int .i64 0, .bool true]) [] [] := by
  refine sE (md := fun _ => 0) (L := [(240, E_mul64), (241, E_div64)]) [] 2394737399074811 (tabs_cons E_mul64_ok (tabs_cons E_div64_ok tabs_nil)) Tryz.func189 rfl rfl rfl ?_
  subst hd
  have h1 : decide (n < 0) = false := decide_eq_false (by omega)
  have w1 := IntWalk.u64_in n (by omega)
  have w2 := IntWalk.u64_in rn (by omega)
  have w3 : IntKind.u64.wrap 1 = 1 := by decide
  simp (maxSteps := 1000000) only [↓gPre, gPost, gCore, gDef, gSt, gS0, Nat.reduceShiftRight, Nat.reduceMod, ↓reduceIte, reduceCtorEq, Nat.reduceEqDiff, Nat.reduceLT, Nat.reduceLeDiff, Nat.reduceAdd, Nat.reduceMul, Int.reduceLE, Int.reduceLT, Int.reduceNeg, Int.reduceAdd, Int.reduceToNat, E_mul64_eq, E_div64_eq, gE1, gE2, h1, w1, w2, w3, Int.ediv_one, Int.emod_one, Tryz.ntmps189, Tryz.results189, gTT]
  have h3 : 0 ≤ n * rn ∧ n * rn ≤ 1099511627776 * 65536 := ⟨Int.mul_nonneg hn.1 (by omega), Int.mul_le_mul hn.2 hr.2 (by omega) (by decide)⟩
  refine ⟨⟨hn, by omega, hr.2⟩, by omega, fun h => absurd (of_decide_eq_true h) (by omega), fun h => ?_⟩
  rw [IntWalk.i64_in (n * rn) (by omega), IntWalk.i64_in 0 (by decide)]
def E_divide : List V → Boxes → Toks → Name → Option Ent
  | [.c (.d (.int .i64 n)), .agg [.d (.int .i64 rn), .d (.int .i64 rd)]], [], [], _ => some ⟨(0 ≤ n ∧ n ≤ 1099511627776) ∧ (1 ≤ rn ∧ rn ≤ 65536) ∧ rd = 1, .tup [.int .i64 (n * rn), .int .i64 0, .bool true], [], []⟩
  | _, _, _, _ => none
def E_divide_eq := And.intro (@E_divide.eq_1) (@E_divide.eq_1)
theorem E_divide_ok : Snd Tryz.prog 189 E_divide := by
  intro vs b k n e h hn hp
  unfold E_divide at h
  split at h
  · cases h; obtain ⟨hp0, hp1, hp2⟩ := hp; exact (spec_divide _ _ _ hp0 hp1 hp2).lift rfl _
  · cases h
theorem spec_ratboth (n rn rd : Int) (hn : 0 ≤ n ∧ n ≤ 1099511627776) (hr : 1 ≤ rn ∧ rn ≤ 65536) (hd : rd = 1) (hv : rtV rn rd = true) : Spec Tryz.prog 0 266 [vI .i64 n, .agg [.d (.int .i64 rn), .d (.int .i64 rd)]] [] [] (.tup [.int .i64 (n * rn), .int .i64 0, .int .i64 0]) [] [] := by
  refine sE (md := fun _ => 0) (L := [(188, E_ratcheck), (189, E_divide)]) [] 67113211 (tabs_cons E_ratcheck_ok (tabs_cons E_divide_ok tabs_nil)) Tryz.func266 rfl rfl rfl ?_
  simp (maxSteps := 1000000) only [↓gPre, gPost, gCore, gDef, gSt, gS0, Nat.reduceShiftRight, Nat.reduceMod, ↓reduceIte, reduceCtorEq, Nat.reduceEqDiff, Nat.reduceLT, Nat.reduceLeDiff, Nat.reduceAdd, Nat.reduceMul, Int.reduceLE, Int.reduceLT, Int.reduceNeg, Int.reduceAdd, Int.reduceToNat, E_ratcheck_eq, E_divide_eq, gE1, gE2, Tryz.ntmps266, Tryz.results266, gTT]
  have h3 : 0 ≤ n * rn ∧ n * rn ≤ 1099511627776 * 65536 := ⟨Int.mul_nonneg hn.1 (by omega), Int.mul_le_mul hn.2 hr.2 (by omega) (by decide)⟩
  refine ⟨⟨hn, hv⟩, ⟨hn, hr, hd⟩, fun h => ?_⟩
  simp only [Bool.or_eq_true, decide_eq_true_eq] at h
  omega
def E_ratboth : List V → Boxes → Toks → Name → Option Ent
  | [.c (.d (.int .i64 n)), .agg [.d (.int .i64 rn), .d (.int .i64 rd)]], [], [], _ => some ⟨(0 ≤ n ∧ n ≤ 1099511627776) ∧ (1 ≤ rn ∧ rn ≤ 65536) ∧ rd = 1 ∧ rtV rn rd = true, .tup [.int .i64 (n * rn), .int .i64 0, .int .i64 0], [], []⟩
  | _, _, _, _ => none
def E_ratboth_eq := And.intro (@E_ratboth.eq_1) (@E_ratboth.eq_1)
theorem E_ratboth_ok : Snd Tryz.prog 266 E_ratboth := by
  intro vs b k n e h hn hp
  unfold E_ratboth at h
  split at h
  · cases h; obtain ⟨hp0, hp1, hp2, hp3⟩ := hp; exact (spec_ratboth _ _ _ hp0 hp1 hp2 hp3).lift rfl _
  · cases h
theorem spec_ratfloor (n rn rd : Int) (hn : 0 ≤ n ∧ n ≤ 1099511627776) (hr : 1 ≤ rn ∧ rn ≤ 65536) (hd : rd = 1) (hv : rtV rn rd = true) : Spec Tryz.prog 0 265 [vI .i64 n, .agg [.d (.int .i64 rn), .d (.int .i64 rd)]] [] [] (.tup [.int .i64 (n * rn), .int .i64 0]) [] [] := by
  refine sE (md := fun _ => 0) (L := [(266, E_ratboth)]) [] 379 (tabs_cons E_ratboth_ok tabs_nil) Tryz.func265 rfl rfl rfl ?_
  simp (maxSteps := 1000000) only [↓gPre, gPost, gCore, gDef, gSt, gS0, Nat.reduceShiftRight, Nat.reduceMod, ↓reduceIte, reduceCtorEq, Nat.reduceEqDiff, Nat.reduceLT, Nat.reduceLeDiff, Nat.reduceAdd, Nat.reduceMul, Int.reduceLE, Int.reduceLT, Int.reduceNeg, Int.reduceAdd, Int.reduceToNat, E_ratboth_eq, gE1, gE2, Tryz.ntmps265, Tryz.results265, gTT]
  exact ⟨hn, hr, hd, hv⟩
def E_ratfloor : List V → Boxes → Toks → Name → Option Ent
  | [.c (.d (.int .i64 n)), .agg [.d (.int .i64 rn), .d (.int .i64 rd)]], [], [], _ => some ⟨(0 ≤ n ∧ n ≤ 1099511627776) ∧ (1 ≤ rn ∧ rn ≤ 65536) ∧ rd = 1 ∧ rtV rn rd = true, .tup [.int .i64 (n * rn), .int .i64 0], [], []⟩
  | _, _, _, _ => none
def E_ratfloor_eq := And.intro (@E_ratfloor.eq_1) (@E_ratfloor.eq_1)
theorem E_ratfloor_ok : Snd Tryz.prog 265 E_ratfloor := by
  intro vs b k n e h hn hp
  unfold E_ratfloor at h
  split at h
  · cases h; obtain ⟨hp0, hp1, hp2, hp3⟩ := hp; exact (spec_ratfloor _ _ _ hp0 hp1 hp2 hp3).lift rfl _
  · cases h
theorem spec_ratceil (n rn rd : Int) (hn : 0 ≤ n ∧ n ≤ 1099511627776) (hr : 1 ≤ rn ∧ rn ≤ 65536) (hd : rd = 1) (hv : rtV rn rd = true) : Spec Tryz.prog 0 115 [vI .i64 n, .agg [.d (.int .i64 rn), .d (.int .i64 rd)]] [] [] (.tup [.int .i64 (n * rn), .int .i64 0]) [] [] := by
  refine sE (md := fun _ => 0) (L := [(188, E_ratcheck), (189, E_divide)]) [] 549890049019 (tabs_cons E_ratcheck_ok (tabs_cons E_divide_ok tabs_nil)) Tryz.func115 rfl rfl rfl ?_
  simp (maxSteps := 1000000) only [↓gPre, gPost, gCore, gDef, gSt, gS0, Nat.reduceShiftRight, Nat.reduceMod, ↓reduceIte, reduceCtorEq, Nat.reduceEqDiff, Nat.reduceLT, Nat.reduceLeDiff, Nat.reduceAdd, Nat.reduceMul, Int.reduceLE, Int.reduceLT, Int.reduceNeg, Int.reduceAdd, Int.reduceToNat, E_ratcheck_eq, E_divide_eq, gE1, gE2, Tryz.ntmps115, Tryz.results115, gTT]
  have h3 : 0 ≤ n * rn ∧ n * rn ≤ 1099511627776 * 65536 := ⟨Int.mul_nonneg hn.1 (by omega), Int.mul_le_mul hn.2 hr.2 (by omega) (by decide)⟩
  refine ⟨⟨hn, hv⟩, ⟨hn, hr, hd⟩, fun h => ?_⟩
  simp only [Bool.or_eq_true, decide_eq_true_eq] at h
  omega
def E_ratceil : List V → Boxes → Toks → Name → Option Ent
  | [.c (.d (.int .i64 n)), .agg [.d (.int .i64 rn), .d (.int .i64 rd)]], [], [], _ => some ⟨(0 ≤ n ∧ n ≤ 1099511627776) ∧ (1 ≤ rn ∧ rn ≤ 65536) ∧ rd = 1 ∧ rtV rn rd = true, .tup [.int .i64 (n * rn), .int .i64 0], [], []⟩
  | _, _, _, _ => none
def E_ratceil_eq := And.intro (@E_ratceil.eq_1) (@E_ratceil.eq_1)
theorem E_ratceil_ok : Snd Tryz.prog 115 E_ratceil := by
  intro vs b k n e h hn hp
  unfold E_ratceil at h
  split at h
  · cases h; obtain ⟨hp0, hp1, hp2, hp3⟩ := hp; exact (spec_ratceil _ _ _ hp0 hp1 hp2 hp3).lift rfl _
  · cases h
theorem spec_ratinv (rn rd : Int) (hr : rn = 1 ∧ rd = 1) : Spec Tryz.prog 0 195 [.agg [.d (.int .i64 rn), .d (.int .i64 rd)]] [] [] (.tup [.agg [.int .i64 1, .int .i64 1], .int .i64 0]) [] [] := by
  refine sE (md := fun _ => 0) (L := [(216, E_rtvalid)]) [] 79 (tabs_cons E_rtvalid_ok tabs_nil) Tryz.func195 rfl rfl rfl ?_
  obtain ⟨rfl, rfl⟩ := hr
  have hv : rtV 1 1 = true := by decide
  simp (maxSteps := 1000000) only [↓gPre, gPost, gCore, gDef, gSt, gS0, Nat.reduceShiftRight, Nat.reduceMod, ↓reduceIte, reduceCtorEq, Nat.reduceEqDiff, Nat.reduceLT, Nat.reduceLeDiff, Nat.reduceAdd, Nat.reduceMul, Int.reduceLE, Int.reduceLT, Int.reduceNeg, Int.reduceAdd, Int.reduceToNat, E_rtvalid_eq, gE1, gE2, hv, Tryz.ntmps195, Tryz.results195, gTT]
def E_ratinv : List V → Boxes → Toks → Name → Option Ent
  | [.agg [.d (.int .i64 rn), .d (.int .i64 rd)]], [], [], _ => some ⟨(rn = 1 ∧ rd = 1), .tup [.agg [.int .i64 1, .int .i64 1], .int .i64 0], [], []⟩
  | _, _, _, _ => none
def E_ratinv_eq := And.intro (@E_ratinv.eq_1) (@E_ratinv.eq_1)
theorem E_ratinv_ok : Snd Tryz.prog 195 E_ratinv := by
  intro vs b k n e h hn hp
  unfold E_ratinv at h
  split at h
  · cases h; have hp0 := hp; exact (spec_ratinv _ _ hp0).lift rfl _
  · cases h
theorem spec_ratmake (n d : Int) (hn : n = 48000 ∨ n = 768000) (hd : d = 48000) : Spec Tryz.prog 0 108 [vI .i64 n, vI .i64 d] [] [] (.tup [.agg [.int .i64 (n / 48000), .int .i64 1], .int .i64 0]) [] [] := by
  refine sE (md := fun _ => 0) (L := [(177, E_gcd)]) [] 268439667 (tabs_cons E_gcd_ok tabs_nil) Tryz.func108 rfl rfl rfl ?_
  simp (maxSteps := 1000000) only [↓gPre, gPost, gCore, gDef, gSt, gS0, Nat.reduceShiftRight, Nat.reduceMod, ↓reduceIte, reduceCtorEq, Nat.reduceEqDiff, Nat.reduceLT, Nat.reduceLeDiff, Nat.reduceAdd, Nat.reduceMul, Int.reduceLE, Int.reduceLT, Int.reduceNeg, Int.reduceAdd, Int.reduceToNat, E_gcd_eq, gE1, gE2, Tryz.ntmps108, Tryz.results108, gTT]
  subst hd
  rcases hn with rfl | rfl
  · have e : gcdI 48000 48000 = 48000 := by decide
    rw [e]
    exact ⟨fun h => absurd h (by decide), fun _ => ⟨by decide, by kernel_rfl, by decide, by decide, fun h => absurd h (by decide), fun _ => rfl⟩⟩
  · have e : gcdI 768000 48000 = 48000 := by decide
    rw [e]
    exact ⟨fun h => absurd h (by decide), fun _ => ⟨by decide, by kernel_rfl, by decide, by decide, fun h => absurd h (by decide), fun _ => rfl⟩⟩
def E_ratmake : List V → Boxes → Toks → Name → Option Ent
  | [.c (.d (.int .i64 n)), .c (.d (.int .i64 d))], [], [], _ => some ⟨(n = 48000 ∨ n = 768000) ∧ d = 48000, .tup [.agg [.int .i64 (n / 48000), .int .i64 1], .int .i64 0], [], []⟩
  | _, _, _, _ => none
def E_ratmake_eq := And.intro (@E_ratmake.eq_1) (@E_ratmake.eq_1)
theorem E_ratmake_ok : Snd Tryz.prog 108 E_ratmake := by
  intro vs b k n e h hn hp
  unfold E_ratmake at h
  split at h
  · cases h; obtain ⟨hp0, hp1⟩ := hp; exact (spec_ratmake _ _ hp0 hp1).lift rfl _
  · cases h
def dacS : ByteArray := ⟨#[100, 97, 99]⟩
def spanL : List D := [.agg [.int .i64 48000, .int .i64 48000]]
def boxD (m : List Int) : D := .agg [.int .i64 4, .list spanL, .list (LL .i64 [m]), .list spanL]
def boxL (m : List Int) : List D := [boxD m]
def boxOK (b : List D) : Prop := ∃ m, b = boxL m ∧ chV m = true
def segL : List D := [.agg [.int .i64 0, .int .i64 1, .int .i64 1]]
theorem spec_wname (s : ByteArray) (hs : s = dacS) : Spec Tryz.prog 0 178 [.c (.d (.str s))] [] [] (vB true) [] [] := by
  refine sE (md := fun _ => 0) (L := []) [(6, [0, 0, 0, 0, 0, 577586652143159165, 0, 0, 0, 0, 0, 577586647915300733, 0, 0, 0, 0, 0, 577586377332361085, 0, 0, 0, 0, 0, 577569060024223613, 0, 0, 0, 0, 0])] 576460752303425405 tabs_nil Tryz.func178 rfl rfl rfl ?_
  subst hs
  simp (maxSteps := 1000000) only [↓gPre, gPost, gCore, gDef, gSt, gS0, Nat.reduceShiftRight, Nat.reduceMod, ↓reduceIte, reduceCtorEq, Nat.reduceEqDiff, Nat.reduceLT, Nat.reduceLeDiff, Nat.reduceAdd, Nat.reduceMul, Int.reduceLE, Int.reduceLT, Int.reduceNeg, Int.reduceAdd, Int.reduceToNat, gE1, gE2, Tryz.ntmps178, Tryz.results178, gTT]
  refine ⟨Tryz.underlying9, ?_⟩
  refine ELoop_keep (fun g : Nat => ⟨[(9, vI .i64 (g : Nat))], [], []⟩) (fun g => g ≤ 3) (fun g => 3 - g) (· + 1) 0 (by decide) ?_ ?_
  · simp (maxSteps := 1000000) only [↓gPre, gPost, gCore, gDef, gSt, gS0, Nat.reduceShiftRight, Nat.reduceMod, ↓reduceIte, reduceCtorEq, Nat.reduceEqDiff, Nat.reduceLT, Nat.reduceLeDiff, Nat.reduceAdd, Nat.reduceMul, Int.reduceLE, Int.reduceLT, Int.reduceNeg, Int.reduceAdd, Int.reduceToNat, gE1, gE2, Tryz.ntmps178, Tryz.results178, gTT]
    rfl
  intro g hg
  simp (maxSteps := 1000000) only [↓gPre, gPost, gCore, gDef, gSt, gS0, Nat.reduceShiftRight, Nat.reduceMod, ↓reduceIte, reduceCtorEq, Nat.reduceEqDiff, Nat.reduceLT, Nat.reduceLeDiff, Nat.reduceAdd, Nat.reduceMul, Int.reduceLE, Int.reduceLT, Int.reduceNeg, Int.reduceAdd, Int.reduceToNat, gE1, gE2, Tryz.ntmps178, Tryz.results178, gTT]
  have U := Tryz.underlying9
  have e3 : dacS.size = 3 := rfl
  have hL : g < 3 → (decide (97 ≤ IntKind.u8.wrap ((BitVec.ofInt IntKind.u8.bits ((dacS.toList[g]?.getD 0).toNat : Int) ||| BitVec.ofInt IntKind.u8.bits 32).toNat : Int)) && decide (IntKind.u8.wrap ((BitVec.ofInt IntKind.u8.bits ((dacS.toList[g]?.getD 0).toNat : Int) ||| BitVec.ofInt IntKind.u8.bits 32).toNat : Int) ≤ 122)) = true := by
    intro h
    have et : dacS.toList = [100, 97, 99] := by decide +kernel
    rw [et]
    rcases (by omega : g = 0 ∨ g = 1 ∨ g = 2) with rfl | rfl | rfl <;> decide +kernel
  refine ⟨fun h => ?_, fun h => ⟨U, by decide +kernel⟩⟩
  have h3 : g < 3 := by have := of_decide_eq_true h; rw [e3] at this; omega
  have hr : 0 ≤ (g : Int) ∧ (g : Int) < (dacS.size : Nat) := by rw [e3]; omega
  rw [hL h3]
  refine ⟨U, hr, U, hr, U, fun _ => hr, U, fun _ => hr, U, fun _ => hr, U, fun _ => hr, fun h => absurd h (by decide), fun h => absurd h (by simp), fun _ => ⟨?_, by omega, by omega⟩⟩
  rw [IntWalk.i64_in _ (by omega)]
  omega
def E_wname : List V → Boxes → Toks → Name → Option Ent
  | [.c (.d (.str s))], [], [], _ => some ⟨s = dacS, vB true, [], []⟩
  | _, _, _, _ => none
def E_wname_eq := And.intro (@E_wname.eq_1) (@E_wname.eq_1)
theorem E_wname_ok : Snd Tryz.prog 178 E_wname := by
  intro vs b k n e h hn hp
  unfold E_wname at h
  split at h
  · cases h; have hp0 := hp; exact (spec_wname _ hp0).lift rfl _
  · cases h
theorem spec_isfine (x y : Int) : Spec Tryz.prog 0 262 [.agg [.d (.int .i64 x), .d (.int .i64 y)]] [] [] (vB (decide (0 ≤ x) && decide (x ≤ y) && decide (y ≤ 2147483647))) [] [] := by
  refine sE (md := fun _ => 0) (L := []) [(1, [0, 0, 0, 0, 0, 261959, 0, 0, 0, 0, 0, 253959, 0, 0, 0, 0])] 7 tabs_nil Tryz.func262 rfl rfl rfl ?_
  simp (maxSteps := 1000000) only [↓gPre, gPost, gCore, gDef, gSt, gS0, Nat.reduceShiftRight, Nat.reduceMod, ↓reduceIte, reduceCtorEq, Nat.reduceEqDiff, Nat.reduceLT, Nat.reduceLeDiff, Nat.reduceAdd, Nat.reduceMul, Int.reduceLE, Int.reduceLT, Int.reduceNeg, Int.reduceAdd, Int.reduceToNat, gE1, gE2, Tryz.ntmps262, Tryz.results262, gTT]
def E_isfine : List V → Boxes → Toks → Name → Option Ent
  | [.agg [.d (.int .i64 x), .d (.int .i64 y)]], [], [], _ => some ⟨True, vB (decide (0 ≤ x) && decide (x ≤ y) && decide (y ≤ 2147483647)), [], []⟩
  | _, _, _, _ => none
def E_isfine_eq := And.intro (@E_isfine.eq_1) (@E_isfine.eq_1)
theorem E_isfine_ok : Snd Tryz.prog 262 E_isfine := by
  intro vs b k n e h hn hp
  unfold E_isfine at h
  split at h
  · cases h; exact (spec_isfine _ _).lift rfl _
  · cases h
theorem spec_isvalid (q : List D) (hq : q = spanL) : Spec Tryz.prog 0 255 [.agg [.d (.list q)]] [] [] (vB true) [] [] := by
  refine sE (md := fun _ => 0) (L := [(262, E_isfine)]) [(4, [0, 0, 0, 0, 0, 8589738975, 0, 0, 0, 0, 0, 8584233951, 0, 0, 0, 0, 0, 7516783583, 0, 0])] 4294968287 (tabs_cons E_isfine_ok tabs_nil) Tryz.func255 rfl rfl rfl ?_
  subst hq
  unfold spanL
  have wm : (IntKind.i64.wrap (-1)).toNat = 0 := by decide
  simp (maxSteps := 1000000) only [↓gPre, gPost, gCore, gDef, gSt, gS0, Nat.reduceShiftRight, Nat.reduceMod, ↓reduceIte, reduceCtorEq, Nat.reduceEqDiff, Nat.reduceLT, Nat.reduceLeDiff, Nat.reduceAdd, Nat.reduceMul, Int.reduceLE, Int.reduceLT, Int.reduceNeg, Int.reduceAdd, Int.reduceToNat, E_isfine_eq, gE1, gE2, Int.natCast_zero, Int.natCast_one, Int.cast_ofNat_Int, Int.reduceSub, wm, List.getElem?_nil, Tryz.ntmps255, Tryz.results255, gTT]
  refine ELoop_keep (fun g : Nat => ⟨[(8, vI .i64 (g : Nat))], [], []⟩) (fun g => g ≤ 1) (fun g => 1 - g) (· + 1) 0 (by decide) ?_ ?_
  · simp (maxSteps := 1000000) only [↓gPre, gPost, gCore, gDef, gSt, gS0, Nat.reduceShiftRight, Nat.reduceMod, ↓reduceIte, reduceCtorEq, Nat.reduceEqDiff, Nat.reduceLT, Nat.reduceLeDiff, Nat.reduceAdd, Nat.reduceMul, Int.reduceLE, Int.reduceLT, Int.reduceNeg, Int.reduceAdd, Int.reduceToNat, E_isfine_eq, gE1, gE2, Int.natCast_zero, Int.natCast_one, Int.cast_ofNat_Int, Int.reduceSub, wm, List.getElem?_nil, Tryz.ntmps255, Tryz.results255, gTT]
    all_goals rfl
  intro g hg
  rcases (by omega : g = 0 ∨ g = 1) with rfl | rfl
  · simp (maxSteps := 1000000) only [↓gPre, gPost, gCore, gDef, gSt, gS0, Nat.reduceShiftRight, Nat.reduceMod, ↓reduceIte, reduceCtorEq, Nat.reduceEqDiff, Nat.reduceLT, Nat.reduceLeDiff, Nat.reduceAdd, Nat.reduceMul, Int.reduceLE, Int.reduceLT, Int.reduceNeg, Int.reduceAdd, Int.reduceToNat, E_isfine_eq, gE1, gE2, Int.natCast_zero, Int.natCast_one, Int.cast_ofNat_Int, Int.reduceSub, wm, List.getElem?_nil, Tryz.ntmps255, Tryz.results255, gTT]
    all_goals exact ⟨by kernel_rfl, by decide, by decide⟩
  · simp (maxSteps := 1000000) only [↓gPre, gPost, gCore, gDef, gSt, gS0, Nat.reduceShiftRight, Nat.reduceMod, ↓reduceIte, reduceCtorEq, Nat.reduceEqDiff, Nat.reduceLT, Nat.reduceLeDiff, Nat.reduceAdd, Nat.reduceMul, Int.reduceLE, Int.reduceLT, Int.reduceNeg, Int.reduceAdd, Int.reduceToNat, E_isfine_eq, gE1, gE2, Int.natCast_zero, Int.natCast_one, Int.cast_ofNat_Int, Int.reduceSub, wm, List.getElem?_nil, Tryz.ntmps255, Tryz.results255, gTT]
def E_isvalid : List V → Boxes → Toks → Name → Option Ent
  | [.agg [.d (.list q)]], [], [], _ => some ⟨q = spanL, vB true, [], []⟩
  | _, _, _, _ => none
def E_isvalid_eq := And.intro (@E_isvalid.eq_1) (@E_isvalid.eq_1)
theorem E_isvalid_ok : Snd Tryz.prog 255 E_isvalid := by
  intro vs b k n e h hn hp
  unfold E_isvalid at h
  split at h
  · cases h; have hp0 := hp; exact (spec_isvalid _ hp0).lift rfl _
  · cases h
theorem spec_isspans (q : List D) (hq : q = spanL) : Spec Tryz.prog 0 235 [.agg [.d (.list q)]] [] [] (vL q) [] [] := by
  refine sE (md := fun _ => 0) (L := [(255, E_isvalid)]) [] 39 (tabs_cons E_isvalid_ok tabs_nil) Tryz.func235 rfl rfl rfl ?_
  simp (maxSteps := 1000000) only [↓gPre, gPost, gCore, gDef, gSt, gS0, Nat.reduceShiftRight, Nat.reduceMod, ↓reduceIte, reduceCtorEq, Nat.reduceEqDiff, Nat.reduceLT, Nat.reduceLeDiff, Nat.reduceAdd, Nat.reduceMul, Int.reduceLE, Int.reduceLT, Int.reduceNeg, Int.reduceAdd, Int.reduceToNat, E_isvalid_eq, gE1, gE2, Tryz.ntmps235, Tryz.results235, gTT]
  exact hq
def E_isspans : List V → Boxes → Toks → Name → Option Ent
  | [.agg [.d (.list q)]], [], [], _ => some ⟨q = spanL, vL q, [], []⟩
  | _, _, _, _ => none
def E_isspans_eq := And.intro (@E_isspans.eq_1) (@E_isspans.eq_1)
theorem E_isspans_ok : Snd Tryz.prog 235 E_isspans := by
  intro vs b k n e h hn hp
  unfold E_isspans at h
  split at h
  · cases h; have hp0 := hp; exact (spec_isspans _ hp0).lift rfl _
  · cases h
theorem spec_ishas1 (x y z : Int) : Spec Tryz.prog 0 236 [.agg [.d (.int .i64 x), .d (.int .i64 y)], .c (.lp ⟨0, 0⟩ 0)] [(⟨0, 0⟩, [.d (.int .i64 z)])] [] (vB (decide (x ≤ z) && decide (z ≤ y))) [(⟨0, 0⟩, [.d (.int .i64 z)])] [] := by
  refine spec_of_E (X := ⟨Tryz.prog, tt, Tryz.f236.ntmps, 1, fun _ => 0, (tab [])⟩) (M := []) (m := 15) rfl rfl ⟨tt_ok, tab_ok tabs_nil _ rfl rfl⟩ tt_mixed Tryz.func236 rfl (by decide) (by show (2 : Nat) ≤ _; exact Nat.le_of_ble_eq_true rfl) ⟨by simp [V.has, C.has, cvtC_eq], by simp [C.has], by simp⟩ ?_
  simp (maxSteps := 1000000) only [↓gPre, gPost, gCore, gDef, gSt, gS0, Nat.reduceShiftRight, Nat.reduceMod, ↓reduceIte, reduceCtorEq, Nat.reduceEqDiff, Nat.reduceLT, Nat.reduceLeDiff, Nat.reduceAdd, Nat.reduceMul, Int.reduceLE, Int.reduceLT, Int.reduceNeg, Int.reduceAdd, Int.reduceToNat, gE1, gE2, Tryz.ntmps236, Tryz.results236, gTT]
def E_ishas1 : List V → Boxes → Toks → Name → Option Ent
  | [.agg [.d (.int .i64 x), .d (.int .i64 y)], .c (.lp n0 0)], [(m0, [.d (.int .i64 z)])], [], _ => some ⟨n0.lv ≤ 1 ∧ m0 = n0, vB (decide (x ≤ z) && decide (z ≤ y)), [(n0, [.d (.int .i64 z)])], []⟩
  | _, _, _, _ => none
def E_ishas1_eq := And.intro (@E_ishas1.eq_1) (@E_ishas1.eq_1)
theorem E_ishas1_ok : Snd Tryz.prog 236 E_ishas1 := by
  intro vs b k n e h hn hp
  unfold E_ishas1 at h
  split at h
  · cases h; obtain ⟨hl0, rfl⟩ := hp; exact Spec.ren1 (spec_ishas1 _ _ _) 0 (by simp [supOK, V.names, C.names, namesB, namesK, cvtC_eq]) hl0 
  · cases h
end Go.Vam
