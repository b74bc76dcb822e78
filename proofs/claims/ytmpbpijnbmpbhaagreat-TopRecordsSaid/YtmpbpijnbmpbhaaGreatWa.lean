/- A part of the proof. Conditions: none. -/
import Derived.Test.YtmpbpijnbmpbhaaGreatTab
set_option linter.unusedVariables false
set_option linter.defProp false
set_option linter.unusedSimpArgs false
set_option maxRecDepth 40000
set_option maxHeartbeats 4000000
namespace Go.Vam
open Go.Proofs
theorem tdivN (n : Nat) {s : Int} (hs : 0 < s) : (n : Int).tdiv s = ((n / s.toNat : Nat) : Int) := by
  have e : s = (s.toNat : Int) := by omega
  rw [Int.tdiv_eq_ediv_of_nonneg (by omega), e]
  exact (Int.natCast_ediv ..).symm
theorem tmodN (n : Nat) {s : Int} (hs : 0 < s) : (n : Int).tmod s = ((n % s.toNat : Nat) : Int) := by
  have e : s = (s.toNat : Int) := by omega
  rw [Int.tmod_eq_emod_of_nonneg (by omega), e]
  exact (Int.natCast_emod ..).symm
structure Ph where
  n : Int
  d : Int
  a : Int
  p : Int
  f : Int
def gcdI (a b : Int) : Int := ((Nat.gcd a.toNat b.toNat : Nat) : Int)
theorem gcdI_zero {a : Int} (h : 0 ≤ a) : gcdI a 0 = a := by unfold gcdI; simp; omega
theorem gcdI_step {a b : Int} (ha : 0 ≤ a) (hb : 0 < b) : gcdI a b = gcdI b (a.tmod b) := by
  unfold gcdI
  rw [Int.tmod_eq_emod_of_nonneg ha]
  have e : (a % b).toNat = a.toNat % b.toNat := by
    have h1 : a = (a.toNat : Int) := by omega
    have h2 : b = (b.toNat : Int) := by omega
    rw [h1, h2, ← Int.natCast_emod, Int.toNat_natCast, Int.toNat_natCast, Int.toNat_natCast]
  rw [e, Nat.gcd_comm, Nat.gcd_rec, Nat.gcd_comm]
def rtV (n d : Int) : Bool := decide (1 ≤ n) && decide (1 ≤ d) && decide (n ≤ 68719476736) && decide (d ≤ 68719476736) && gcdI n d == 1
def prt (p : Ph) : Int := IntKind.i64.wrap (p.d * 65536)
def stp (p : Ph) : Int := IntKind.i64.wrap (p.n * IntKind.i64.wrap (65536 + p.a))
def tuX (a : Int) : Bool := decide (-4096 ≤ a) && decide (a ≤ 4096)
def phV (p : Ph) : Bool := rtV p.n p.d && decide (p.n ≤ 768000) && decide (p.d ≤ 768000) && tuX p.a && decide (0 ≤ p.p) && decide (p.p ≤ 1125899906842624) && decide (0 ≤ p.f) && decide (p.f < prt p)
theorem phV_in {p : Ph} (h : phV p = true) : (1 ≤ p.n ∧ p.n ≤ 768000) ∧ (1 ≤ p.d ∧ p.d ≤ 768000) ∧ (-4096 ≤ p.a ∧ p.a ≤ 4096) ∧ (0 ≤ p.p ∧ p.p ≤ 1125899906842624) ∧ (0 ≤ p.f ∧ p.f < p.d * 65536) ∧ prt p = p.d * 65536 := by
  simp only [phV, rtV, tuX, Bool.and_eq_true, decide_eq_true_eq] at h
  obtain ⟨⟨⟨⟨⟨⟨⟨⟨⟨⟨⟨h1, h2⟩, h3⟩, h4⟩, h5⟩, h6⟩, h7⟩, h8, h9⟩, h10⟩, h11⟩, h12⟩, h13⟩ := h
  have hp : prt p = p.d * 65536 := IntWalk.i64_in _ (by omega)
  rw [hp] at h13
  exact ⟨⟨h1, h6⟩, ⟨h2, h7⟩, ⟨h8, h9⟩, ⟨h10, h11⟩, ⟨h12, h13⟩, hp⟩
theorem prt_in {p : Ph} (h : phV p = true) : 65536 ≤ prt p ∧ prt p ≤ 50331648000 := by
  obtain ⟨_, h2, _, _, _, h6⟩ := phV_in h
  omega
theorem mulb {x y A B : Int} (h1 : 0 ≤ x) (h2 : x ≤ A) (h3 : 0 ≤ y) (h4 : y ≤ B) : 0 ≤ x * y ∧ x * y ≤ A * B :=
  ⟨Int.mul_nonneg h1 h3, Int.le_trans (Int.mul_le_mul_of_nonneg_right h2 h3) (Int.mul_le_mul_of_nonneg_left h4 (by omega))⟩
theorem stp_in {p : Ph} (h : phV p = true) : stp p = p.n * (65536 + p.a) ∧ 61440 ≤ stp p ∧ stp p ≤ 53477376000 := by
  obtain ⟨h1, h2, h3, _⟩ := phV_in h
  have hb := mulb (x := p.n) (y := 65536 + p.a) (A := 768000) (B := 69632) (by omega) (by omega) (by omega) (by omega)
  have hl : 1 * 61440 ≤ p.n * (65536 + p.a) := Int.mul_le_mul h1.1 (by omega) (by decide) (by omega)
  unfold stp
  rw [IntWalk.i64_in (65536 + p.a) (by omega), IntWalk.i64_in _ (by omega)]
  omega
def ahd (p : Ph) (n : Int) : Int := p.f + n * stp p
theorem ahd_in {p : Ph} (h : phV p = true) {n : Int} (hn : 0 ≤ n ∧ n ≤ 65536) : 0 ≤ ahd p n ∧ ahd p n ≤ 4000000000000000 := by
  obtain ⟨_, h2, _, _, h5, _⟩ := phV_in h
  obtain ⟨_, s1, s2⟩ := stp_in h
  have hb := mulb (x := n) (y := stp p) (A := 65536) (B := 53477376000) hn.1 hn.2 (by omega) s2
  unfold ahd
  omega
theorem ahd_go {p : Ph} (h : phV p = true) {n : Int} (hn : 0 ≤ n ∧ n ≤ 65536) : IntKind.i64.wrap (p.f + IntKind.i64.wrap (IntKind.i64.wrap (n * p.n) * IntKind.i64.wrap (65536 + p.a))) = ahd p n := by
  obtain ⟨h1, h2, h3, _, h5, _⟩ := phV_in h
  obtain ⟨s0, s1, s2⟩ := stp_in h
  have hb := mulb (x := n) (y := p.n) (A := 65536) (B := 768000) hn.1 hn.2 (by omega) h1.2
  have hb2 := mulb (x := n) (y := stp p) (A := 65536) (B := 53477376000) hn.1 hn.2 (by omega) s2
  have e : n * p.n * (65536 + p.a) = n * stp p := by rw [s0, Int.mul_assoc]
  rw [IntWalk.i64_in (n * p.n) (by omega), IntWalk.i64_in (65536 + p.a) (by omega), e, IntWalk.i64_in (n * stp p) (by omega), IntWalk.i64_in _ (by omega)]
  rfl
theorem qAt_go {p : Ph} (h : phV p = true) {n : Int} (hn : 0 ≤ n ∧ n ≤ 65536) : (ahd p n).tdiv (prt p) = ahd p n / prt p ∧ (ahd p n).tmod (prt p) = ahd p n % prt p :=
  ⟨Int.tdiv_eq_ediv_of_nonneg (ahd_in h hn).1, Int.tmod_eq_emod_of_nonneg (ahd_in h hn).1⟩
def phC (p : Ph) (n : Int) : Int := if phV p = false then 1 else if (decide (n < 0) || decide (65536 < n)) = true then 2 else 0
theorem phC_ok {p : Ph} {n : Int} (h : phC p n = 0) : phV p = true ∧ 0 ≤ n ∧ n ≤ 65536 := by
  unfold phC at h
  split at h
  · cases h
  · split at h
    · cases h
    · rename_i h1 h2
      simp only [Bool.or_eq_true, decide_eq_true_eq, not_or] at h2
      exact ⟨by simpa using h1, by omega, by omega⟩
theorem phC_of {p : Ph} {n : Int} (h : phV p = true) (hn : 0 ≤ n ∧ n ≤ 65536) : phC p n = 0 := by
  unfold phC
  rw [if_neg (by rw [h]; decide), if_neg (by simp only [Bool.or_eq_true, decide_eq_true_eq]; omega)]
def qAt (p : Ph) (n : Int) : Int := ahd p n / prt p
def fAt (p : Ph) (n : Int) : Int := ahd p n % prt p
theorem qAt_in {p : Ph} (h : phV p = true) {n : Int} (hn : 0 ≤ n ∧ n ≤ 65536) : (0 ≤ qAt p n ∧ qAt p n ≤ 62000000000) ∧ 0 ≤ fAt p n ∧ fAt p n < prt p ∧ ahd p n = qAt p n * prt p + fAt p n := by
  obtain ⟨_, h2, _, _, h5, h6⟩ := phV_in h
  obtain ⟨a1, a2⟩ := ahd_in h hn
  have hp : 65536 ≤ prt p := by omega
  have h7 : ahd p n = qAt p n * prt p + fAt p n := by
    unfold qAt fAt
    have := Int.mul_ediv_add_emod (ahd p n) (prt p)
    rw [Int.mul_comm] at this
    exact this.symm
  have h8 : 0 ≤ qAt p n := Int.ediv_nonneg a1 (by omega)
  have h9 : 0 ≤ fAt p n := Int.emod_nonneg _ (by omega)
  have h10 : fAt p n < prt p := Int.emod_lt_of_pos _ (by omega)
  refine ⟨⟨h8, ?_⟩, h9, h10, h7⟩
  have := Int.mul_le_mul_of_nonneg_left hp h8
  omega
def atP (p : Ph) (n : Int) : Int := if phC p n = 0 then p.p + qAt p n else 0
def atF (p : Ph) (n : Int) : Int := if phC p n = 0 then fAt p n else 0
def adE (p : Ph) (n : Int) : Int := if phC p n = 0 then (if 1125899906842624 < atP p n then 2 else 0) else phC p n
def adP (p : Ph) (n : Int) : Ph := if adE p n = 0 then ⟨p.n, p.d, p.a, atP p n, atF p n⟩ else ⟨0, 0, 0, 0, 0⟩
def ned (p : Ph) (n : Int) : Int := if n = 0 then 0 else max (qAt p (n - 1) + 2) (qAt p n)
def neE (p : Ph) (n : Int) : Int := if phC p n = 0 then ned p n else 0
theorem qAt_mono {p : Ph} (h : phV p = true) {n m : Int} (hm : n ≤ m) : qAt p n ≤ qAt p m := by
  obtain ⟨_, h2, _, _, h5, h6⟩ := phV_in h
  obtain ⟨_, s1, _⟩ := stp_in h
  unfold qAt ahd
  refine Int.ediv_le_ediv (by omega) ?_
  have := Int.mul_le_mul_of_nonneg_right hm (show 0 ≤ stp p by omega)
  omega
theorem ned_in {p : Ph} (h : phV p = true) {n : Int} (hn : 0 ≤ n ∧ n ≤ 65536) : 0 ≤ ned p n ∧ ned p n ≤ 70000000000 := by
  unfold ned
  split
  · omega
  · have h1 := qAt_in h (n := n - 1) (by omega)
    have h2 := qAt_in h (n := n) (by omega)
    omega
theorem ned_mono {p : Ph} (h : phV p = true) {n m : Int} (h0 : 0 ≤ n) (hm : n ≤ m) (hb : m ≤ 65536) : ned p n ≤ ned p m := by
  by_cases hz : n = 0
  · have := (ned_in h (n := m) (by omega)).1
    unfold ned at this ⊢
    rw [if_pos hz]
    exact this
  · unfold ned
    rw [if_neg hz, if_neg (by omega)]
    have h1 := qAt_mono h (show n - 1 ≤ m - 1 by omega)
    have h2 := qAt_mono h hm
    omega
def bsN (p : Ph) (n : Int) : Nat → Nat → Nat → Nat
  | 0, lo, _ => lo
  | f + 1, lo, hi => if lo < hi then (if ned p (((lo + hi + 1) / 2 : Nat) : Int) ≤ n then bsN p n f ((lo + hi + 1) / 2) hi else bsN p n f lo ((lo + hi + 1) / 2 - 1)) else lo
def mkN (p : Ph) (n : Int) : Nat := bsN p n 17 0 65536
theorem bsN_spec {p : Ph} (h : phV p = true) {n : Int} : ∀ (f lo hi : Nat), lo ≤ hi → hi ≤ 65536 → hi - lo < 2 ^ f → (∀ k : Nat, k ≤ lo → ned p k ≤ n) → (∀ k : Nat, k ≤ 65536 → ned p k ≤ n → k ≤ hi) →
    bsN p n f lo hi ≤ 65536 ∧ ∀ k : Nat, k ≤ 65536 → (k ≤ bsN p n f lo hi ↔ ned p k ≤ n)
  | 0, lo, hi, h1, h2, h3, h4, h5 => by
    have : lo = hi := by simp at h3; omega
    subst this
    exact ⟨h2, fun k hk => ⟨h4 k, h5 k hk⟩⟩
  | f + 1, lo, hi, h1, h2, h3, h4, h5 => by
    unfold bsN
    rw [Nat.pow_succ] at h3
    split
    · rename_i hlt
      generalize hm : (lo + hi + 1) / 2 = m
      split
      · rename_i hle
        exact bsN_spec h f m hi (by omega) h2 (by omega) (fun k hk => Int.le_trans (ned_mono h (by omega) (by omega) (by omega)) hle) h5
      · rename_i hle
        exact bsN_spec h f lo (m - 1) (by omega) (by omega) (by omega) h4 (fun k hk hn => by
          have : ¬ (m ≤ k) := fun hmk => hle (Int.le_trans (ned_mono h (by omega) (by omega) (by omega)) hn)
          omega)
    · rename_i hlt
      have : lo = hi := by omega
      subst this
      exact ⟨h2, fun k hk => ⟨h4 k, h5 k hk⟩⟩
theorem mkN_spec {p : Ph} (h : phV p = true) {n : Int} (h0 : 0 ≤ n) : mkN p n ≤ 65536 ∧ ∀ k : Nat, k ≤ 65536 → (k ≤ mkN p n ↔ ned p k ≤ n) :=
  bsN_spec h 17 0 65536 (by decide) (by decide) (by decide) (fun k hk => by
    have : k = 0 := by omega
    subst this
    simp [ned, h0]) (fun k hk _ => hk)
theorem mkN_le {p : Ph} (h : phV p = true) {n : Int} (h0 : 0 ≤ n) : mkN p n ≤ 65536 := (mkN_spec h h0).1
theorem mkN_iff {p : Ph} (h : phV p = true) {n : Int} (h0 : 0 ≤ n) {k : Nat} (hk : k ≤ 65536) : k ≤ mkN p n ↔ ned p k ≤ n := (mkN_spec h h0).2 k hk
def maE (p : Ph) (n : Int) : Int := if phV p = false then 1 else if (decide (n < 0) || decide (1099511627776 < n)) = true then 2 else 0
def maN (p : Ph) (n : Int) : Int := if maE p n = 0 then ((mkN p n : Nat) : Int) else 0
theorem spec_gcd (a b : Int) (ha : 0 ≤ a) (hb : 0 ≤ b) : Spec Tryz.prog 0 177 [vI .i64 a, vI .i64 b] [] [] (vI .i64 (gcdI a b)) [] [] := by
  refine sE (md := fun _ => 0) (L := []) [] 83 tabs_nil Tryz.func177 rfl rfl rfl ?_
  simp (maxSteps := 1000000) only [↓gPre, gPost, gCore, gDef, gSt, gS0, Nat.reduceShiftRight, Nat.reduceMod, ↓reduceIte, reduceCtorEq, Nat.reduceEqDiff, Nat.reduceLT, Nat.reduceLeDiff, Nat.reduceAdd, Nat.reduceMul, Int.reduceLE, Int.reduceLT, Int.reduceNeg, Int.reduceAdd, Int.reduceToNat, Tryz.ntmps177, Tryz.results177, gTT]
  refine ELoop_keep (fun g : Nat × Nat => ⟨[(0, vI .i64 (g.1 : Nat)), (1, vI .i64 (g.2 : Nat))], [], []⟩) (fun g => gcdI (g.1 : Nat) (g.2 : Nat) = gcdI a b) (fun g => g.2) (fun g => (g.2, g.1 % g.2)) (a.toNat, b.toNat) (by rw [show ((a.toNat : Nat) : Int) = a by omega, show ((b.toNat : Nat) : Int) = b by omega]) ?_ ?_
  · simp (maxSteps := 1000000) only [↓gPre, gPost, gCore, gDef, gSt, gS0, Nat.reduceShiftRight, Nat.reduceMod, ↓reduceIte, reduceCtorEq, Nat.reduceEqDiff, Nat.reduceLT, Nat.reduceLeDiff, Nat.reduceAdd, Nat.reduceMul, Int.reduceLE, Int.reduceLT, Int.reduceNeg, Int.reduceAdd, Int.reduceToNat, Tryz.ntmps177, Tryz.results177, gTT]
    exact ⟨by omega, by omega⟩
  rintro ⟨x, y⟩ hg
  replace hg : gcdI (x : Int) (y : Int) = gcdI a b := hg
  simp (maxSteps := 1000000) only [↓gPre, gPost, gCore, gDef, gSt, gS0, Nat.reduceShiftRight, Nat.reduceMod, ↓reduceIte, reduceCtorEq, Nat.reduceEqDiff, Nat.reduceLT, Nat.reduceLeDiff, Nat.reduceAdd, Nat.reduceMul, Int.reduceLE, Int.reduceLT, Int.reduceNeg, Int.reduceAdd, Int.reduceToNat, Tryz.ntmps177, Tryz.results177, gTT]
  refine ⟨fun h => ⟨by kernel_rfl, ?_⟩, fun h => ?_⟩
  · have hy : 0 < y := by simp at h; omega
    refine ⟨by omega, (tmodN x (s := (y : Int)) (by omega)).symm, ?_, Nat.mod_lt _ hy⟩
    have h1 := gcdI_step (a := (x : Int)) (b := (y : Int)) (by omega) (by omega)
    rw [tmodN x (by omega)] at h1
    rw [← hg, h1]
    rfl
  · have hy : y = 0 := by simp at h; exact h
    subst hy
    rw [← hg]
    exact gcdI_zero (by omega)
def E_gcd : List V → Boxes → Toks → Name → Option Ent
  | [.c (.d (.int .i64 a)), .c (.d (.int .i64 b))], [], [], _ => some ⟨0 ≤ a ∧ 0 ≤ b, vI .i64 (gcdI a b), [], []⟩
  | _, _, _, _ => none
def E_gcd_eq := And.intro (@E_gcd.eq_1) (@E_gcd.eq_1)
theorem E_gcd_ok : Snd Tryz.prog 177 E_gcd := by
  intro vs b k n e h hn hp
  unfold E_gcd at h
  split at h
  · cases h; obtain ⟨hp0, hp1⟩ := hp; exact (spec_gcd _ _ hp0 hp1).lift rfl _
  · cases h
theorem spec_rtvalid (n d : Int) : Spec Tryz.prog 0 216 [.agg [.d (.int .i64 n), .d (.int .i64 d)]] [] [] (vB (rtV n d)) [] [] := by
  refine sE (md := fun _ => 0) (L := [(177, E_gcd)]) [(1, [0, 0, 0, 0, 0, 536870727, 0, 0, 0, 0, 0, 536856583, 0, 0, 0, 0, 0, 535822343, 0, 0, 0, 0, 0, 471859207, 0, 0, 0])] 7 (tabs_cons E_gcd_ok tabs_nil) Tryz.func216 rfl rfl rfl ?_
  simp (maxSteps := 1000000) only [↓gPre, gPost, gCore, gDef, gSt, gS0, Nat.reduceShiftRight, Nat.reduceMod, ↓reduceIte, reduceCtorEq, Nat.reduceEqDiff, Nat.reduceLT, Nat.reduceLeDiff, Nat.reduceAdd, Nat.reduceMul, Int.reduceLE, Int.reduceLT, Int.reduceNeg, Int.reduceAdd, Int.reduceToNat, E_gcd_eq, Tryz.ntmps216, Tryz.results216, gTT]
  refine ⟨fun h => ?_, rfl⟩
  simp only [Bool.and_eq_true, decide_eq_true_eq] at h
  omega
def E_rtvalid : List V → Boxes → Toks → Name → Option Ent
  | [.agg [.d (.int .i64 n), .d (.int .i64 d)]], [], [], _ => some ⟨True, vB (rtV n d), [], []⟩
  | _, _, _, _ => none
def E_rtvalid_eq := And.intro (@E_rtvalid.eq_1) (@E_rtvalid.eq_1)
theorem E_rtvalid_ok : Snd Tryz.prog 216 E_rtvalid := by
  intro vs b k n e h hn hp
  unfold E_rtvalid at h
  split at h
  · cases h; exact (spec_rtvalid _ _).lift rfl _
  · cases h
theorem spec_parts (n d a p f : Int) : Spec Tryz.prog 0 215 [.agg [.d (.int .i64 n), .d (.int .i64 d), .d (.int .i64 a), .d (.int .i64 p), .d (.int .i64 f)]] [] [] (vI .i64 (prt ⟨n, d, a, p, f⟩)) [] [] := by
  refine sE (md := fun _ => 0) (L := []) [] 7 tabs_nil Tryz.func215 rfl rfl rfl ?_
  simp (maxSteps := 1000000) only [↓gPre, gPost, gCore, gDef, gSt, gS0, Nat.reduceShiftRight, Nat.reduceMod, ↓reduceIte, reduceCtorEq, Nat.reduceEqDiff, Nat.reduceLT, Nat.reduceLeDiff, Nat.reduceAdd, Nat.reduceMul, Int.reduceLE, Int.reduceLT, Int.reduceNeg, Int.reduceAdd, Int.reduceToNat, Tryz.ntmps215, Tryz.results215, gTT]
  rfl
def E_parts : List V → Boxes → Toks → Name → Option Ent
  | [.agg [.d (.int .i64 n), .d (.int .i64 d), .d (.int .i64 a), .d (.int .i64 p), .d (.int .i64 f)]], [], [], _ => some ⟨True, vI .i64 (prt ⟨n, d, a, p, f⟩), [], []⟩
  | _, _, _, _ => none
def E_parts_eq := And.intro (@E_parts.eq_1) (@E_parts.eq_1)
theorem E_parts_ok : Snd Tryz.prog 215 E_parts := by
  intro vs b k n e h hn hp
  unfold E_parts at h
  split at h
  · cases h; exact (spec_parts _ _ _ _ _).lift rfl _
  · cases h
theorem spec_ahead (n d a p f : Int) (i : Int) (hv : phV ⟨n, d, a, p, f⟩ = true) (hi : 0 ≤ i ∧ i ≤ 65536) : Spec Tryz.prog 0 214 [.agg [.d (.int .i64 n), .d (.int .i64 d), .d (.int .i64 a), .d (.int .i64 p), .d (.int .i64 f)], vI .i64 i] [] [] (vI .i64 (ahd ⟨n, d, a, p, f⟩ i)) [] [] := by
  refine sE (md := fun _ => 0) (L := []) [(1, [0, 0, 0, 0, 0, 130263, 0, 0, 0, 0, 0, 65559, 0])] 23 tabs_nil Tryz.func214 rfl rfl rfl ?_
  simp (maxSteps := 1000000) only [↓gPre, gPost, gCore, gDef, gSt, gS0, Nat.reduceShiftRight, Nat.reduceMod, ↓reduceIte, reduceCtorEq, Nat.reduceEqDiff, Nat.reduceLT, Nat.reduceLeDiff, Nat.reduceAdd, Nat.reduceMul, Int.reduceLE, Int.reduceLT, Int.reduceNeg, Int.reduceAdd, Int.reduceToNat, Tryz.ntmps214, Tryz.results214, gTT]
  exact (ahd_go hv hi).symm
def E_ahead : List V → Boxes → Toks → Name → Option Ent
  | [.agg [.d (.int .i64 n), .d (.int .i64 d), .d (.int .i64 a), .d (.int .i64 p), .d (.int .i64 f)], .c (.d (.int .i64 i))], [], [], _ => some ⟨phV ⟨n, d, a, p, f⟩ = true ∧ (0 ≤ i ∧ i ≤ 65536), vI .i64 (ahd ⟨n, d, a, p, f⟩ i), [], []⟩
  | _, _, _, _ => none
def E_ahead_eq := And.intro (@E_ahead.eq_1) (@E_ahead.eq_1)
theorem E_ahead_ok : Snd Tryz.prog 214 E_ahead := by
  intro vs b k n e h hn hp
  unfold E_ahead at h
  split at h
  · cases h; obtain ⟨hp0, hp1⟩ := hp; exact (spec_ahead _ _ _ _ _ _ hp0 hp1).lift rfl _
  · cases h
theorem spec_tuned (a : Int) : Spec Tryz.prog 0 217 [vI .i64 a] [] [] (vB (tuX a)) [] [] := by
  refine sE (md := fun _ => 0) (L := []) [] 5 tabs_nil Tryz.func217 rfl rfl rfl ?_
  simp (maxSteps := 1000000) only [↓gPre, gPost, gCore, gDef, gSt, gS0, Nat.reduceShiftRight, Nat.reduceMod, ↓reduceIte, reduceCtorEq, Nat.reduceEqDiff, Nat.reduceLT, Nat.reduceLeDiff, Nat.reduceAdd, Nat.reduceMul, Int.reduceLE, Int.reduceLT, Int.reduceNeg, Int.reduceAdd, Int.reduceToNat, Tryz.ntmps217, Tryz.results217, gTT]
  rfl
def E_tuned : List V → Boxes → Toks → Name → Option Ent
  | [.c (.d (.int .i64 a))], [], [], _ => some ⟨True, vB (tuX a), [], []⟩
  | _, _, _, _ => none
def E_tuned_eq := And.intro (@E_tuned.eq_1) (@E_tuned.eq_1)
theorem E_tuned_ok : Snd Tryz.prog 217 E_tuned := by
  intro vs b k n e h hn hp
  unfold E_tuned at h
  split at h
  · cases h; exact (spec_tuned _).lift rfl _
  · cases h
theorem spec_phvalid (n d a p f : Int) : Spec Tryz.prog 0 160 [.agg [.d (.int .i64 n), .d (.int .i64 d), .d (.int .i64 a), .d (.int .i64 p), .d (.int .i64 f)]] [] [] (vB (phV ⟨n, d, a, p, f⟩)) [] [] := by
  refine sE (md := fun _ => 0) (L := [(216, E_rtvalid), (217, E_tuned), (215, E_parts)]) [(1, [0, 0, 0, 0, 0, 35184372088647, 0, 0, 0, 0, 0, 35184372076551, 0, 0, 0, 0, 0, 35184371302407, 0, 0, 0, 0, 0, 35184313368583, 0, 0, 0, 0, 0, 35180077121543, 0, 0, 0, 0, 0, 34909494181895, 0, 0, 0, 0, 0, 17592186044423, 0])] 7 (tabs_cons E_rtvalid_ok (tabs_cons E_tuned_ok (tabs_cons E_parts_ok tabs_nil))) Tryz.func160 rfl rfl rfl ?_
  simp (maxSteps := 1000000) only [↓gPre, gPost, gCore, gDef, gSt, gS0, Nat.reduceShiftRight, Nat.reduceMod, ↓reduceIte, reduceCtorEq, Nat.reduceEqDiff, Nat.reduceLT, Nat.reduceLeDiff, Nat.reduceAdd, Nat.reduceMul, Int.reduceLE, Int.reduceLT, Int.reduceNeg, Int.reduceAdd, Int.reduceToNat, E_rtvalid_eq, E_tuned_eq, E_parts_eq, Tryz.ntmps160, Tryz.results160, gTT]
  exact ⟨by kernel_rfl, rfl⟩
def E_phvalid : List V → Boxes → Toks → Name → Option Ent
  | [.agg [.d (.int .i64 n), .d (.int .i64 d), .d (.int .i64 a), .d (.int .i64 p), .d (.int .i64 f)]], [], [], _ => some ⟨True, vB (phV ⟨n, d, a, p, f⟩), [], []⟩
  | _, _, _, _ => none
def E_phvalid_eq := And.intro (@E_phvalid.eq_1) (@E_phvalid.eq_1)
theorem E_phvalid_ok : Snd Tryz.prog 160 E_phvalid := by
  intro vs b k n e h hn hp
  unfold E_phvalid at h
  split at h
  · cases h; exact (spec_phvalid _ _ _ _ _).lift rfl _
  · cases h
theorem spec_pcheck (n d a p f : Int) (i : Int) : Spec Tryz.prog 0 158 [.agg [.d (.int .i64 n), .d (.int .i64 d), .d (.int .i64 a), .d (.int .i64 p), .d (.int .i64 f)], vI .i64 i] [] [] (vI .i64 (phC ⟨n, d, a, p, f⟩ i)) [] [] := by
  refine sE (md := fun _ => 0) (L := [(160, E_phvalid)]) [] 567 (tabs_cons E_phvalid_ok tabs_nil) Tryz.func158 rfl rfl rfl ?_
  simp (maxSteps := 1000000) only [↓gPre, gPost, gCore, gDef, gSt, gS0, Nat.reduceShiftRight, Nat.reduceMod, ↓reduceIte, reduceCtorEq, Nat.reduceEqDiff, Nat.reduceLT, Nat.reduceLeDiff, Nat.reduceAdd, Nat.reduceMul, Int.reduceLE, Int.reduceLT, Int.reduceNeg, Int.reduceAdd, Int.reduceToNat, E_phvalid_eq, Tryz.ntmps158, Tryz.results158, gTT]
  refine ⟨fun h => by unfold phC; rw [if_pos h], fun h => ?_⟩
  have hv : phV ⟨n, d, a, p, f⟩ = true := by simpa using h
  exact ⟨fun h2 => by unfold phC; rw [if_neg (by rw [hv]; decide), if_pos h2], fun h2 => by unfold phC; rw [if_neg (by rw [hv]; decide), if_neg (by rw [h2]; decide)]⟩
def E_pcheck : List V → Boxes → Toks → Name → Option Ent
  | [.agg [.d (.int .i64 n), .d (.int .i64 d), .d (.int .i64 a), .d (.int .i64 p), .d (.int .i64 f)], .c (.d (.int .i64 i))], [], [], _ => some ⟨True, vI .i64 (phC ⟨n, d, a, p, f⟩ i), [], []⟩
  | _, _, _, _ => none
def E_pcheck_eq := And.intro (@E_pcheck.eq_1) (@E_pcheck.eq_1)
theorem E_pcheck_ok : Snd Tryz.prog 158 E_pcheck := by
  intro vs b k n e h hn hp
  unfold E_pcheck at h
  split at h
  · cases h; exact (spec_pcheck _ _ _ _ _ _).lift rfl _
  · cases h
theorem spec_pat (n d a p f : Int) (i : Int) : Spec Tryz.prog 0 219 [.agg [.d (.int .i64 n), .d (.int .i64 d), .d (.int .i64 a), .d (.int .i64 p), .d (.int .i64 f)], vI .i64 i] [] [] (.tup [.int .i64 (atP ⟨n, d, a, p, f⟩ i), .int .i64 (atF ⟨n, d, a, p, f⟩ i), .int .i64 (phC ⟨n, d, a, p, f⟩ i)]) [] [] := by
  refine sE (md := fun _ => 0) (L := [(158, E_pcheck), (214, E_ahead), (215, E_parts)]) [(5, [0, 0, 0, 0, 0, 529015287, 0, 0, 0, 0, 0, 268444151, 0, 0])] 8695 (tabs_cons E_pcheck_ok (tabs_cons E_ahead_ok (tabs_cons E_parts_ok tabs_nil))) Tryz.func219 rfl rfl rfl ?_
  simp (maxSteps := 1000000) only [↓gPre, gPost, gCore, gDef, gSt, gS0, Nat.reduceShiftRight, Nat.reduceMod, ↓reduceIte, reduceCtorEq, Nat.reduceEqDiff, Nat.reduceLT, Nat.reduceLeDiff, Nat.reduceAdd, Nat.reduceMul, Int.reduceLE, Int.reduceLT, Int.reduceNeg, Int.reduceAdd, Int.reduceToNat, E_pcheck_eq, E_ahead_eq, E_parts_eq, Tryz.ntmps219, Tryz.results219, gTT]
  refine ⟨fun h => ?_, fun h => ?_⟩
  · have hne : phC ⟨n, d, a, p, f⟩ i ≠ 0 := by simpa using h
    simp [atP, atF, hne]
  have he : phC ⟨n, d, a, p, f⟩ i = 0 := by simpa using h
  obtain ⟨hv, hi⟩ := phC_ok he
  have hp := prt_in hv
  have hq := qAt_in hv hi
  have hb := phV_in hv
  obtain ⟨e1, e2⟩ := qAt_go hv hi
  refine ⟨⟨hv, hi⟩, by kernel_rfl, by omega, by omega, ?_⟩
  rw [e1, e2]
  have e3 : ahd ⟨n, d, a, p, f⟩ i / prt ⟨n, d, a, p, f⟩ = qAt ⟨n, d, a, p, f⟩ i := rfl
  have e4 : ahd ⟨n, d, a, p, f⟩ i % prt ⟨n, d, a, p, f⟩ = fAt ⟨n, d, a, p, f⟩ i := rfl
  rw [e3, e4, IntWalk.i64_in (qAt ⟨n, d, a, p, f⟩ i) (by omega), IntWalk.i64_in (p + qAt ⟨n, d, a, p, f⟩ i) (by have := hb.2.2.2.1; simp only at this; omega)]
  simp [atP, atF, he]
def E_pat : List V → Boxes → Toks → Name → Option Ent
  | [.agg [.d (.int .i64 n), .d (.int .i64 d), .d (.int .i64 a), .d (.int .i64 p), .d (.int .i64 f)], .c (.d (.int .i64 i))], [], [], _ => some ⟨True, .tup [.int .i64 (atP ⟨n, d, a, p, f⟩ i), .int .i64 (atF ⟨n, d, a, p, f⟩ i), .int .i64 (phC ⟨n, d, a, p, f⟩ i)], [], []⟩
  | _, _, _, _ => none
def E_pat_eq := And.intro (@E_pat.eq_1) (@E_pat.eq_1)
theorem E_pat_ok : Snd Tryz.prog 219 E_pat := by
  intro vs b k n e h hn hp
  unfold E_pat at h
  split at h
  · cases h; exact (spec_pat _ _ _ _ _ _).lift rfl _
  · cases h
theorem spec_padv (n d a p f : Int) (i : Int) : Spec Tryz.prog 0 218 [.agg [.d (.int .i64 n), .d (.int .i64 d), .d (.int .i64 a), .d (.int .i64 p), .d (.int .i64 f)], vI .i64 i] [] [] (.tup [.agg [.int .i64 (adP ⟨n, d, a, p, f⟩ i).n, .int .i64 (adP ⟨n, d, a, p, f⟩ i).d, .int .i64 (adP ⟨n, d, a, p, f⟩ i).a, .int .i64 (adP ⟨n, d, a, p, f⟩ i).p, .int .i64 (adP ⟨n, d, a, p, f⟩ i).f], .int .i64 (adE ⟨n, d, a, p, f⟩ i)]) [] [] := by
  refine sE (md := fun _ => 0) (L := [(219, E_pat)]) [] 10486263 (tabs_cons E_pat_ok tabs_nil) Tryz.func218 rfl rfl rfl ?_
  simp (maxSteps := 1000000) only [↓gPre, gPost, gCore, gDef, gSt, gS0, Nat.reduceShiftRight, Nat.reduceMod, ↓reduceIte, reduceCtorEq, Nat.reduceEqDiff, Nat.reduceLT, Nat.reduceLeDiff, Nat.reduceAdd, Nat.reduceMul, Int.reduceLE, Int.reduceLT, Int.reduceNeg, Int.reduceAdd, Int.reduceToNat, E_pat_eq, Tryz.ntmps218, Tryz.results218, gTT]
  refine ⟨fun h => ⟨fun _ => ?_, fun h2 => absurd h2 (by decide)⟩, fun h => ⟨fun h2 => ?_, fun h2 => ?_⟩⟩
  · simp only [Bool.and_eq_true, beq_iff_eq, decide_eq_true_eq] at h
    have e : adE ⟨n, d, a, p, f⟩ i = 2 := by unfold adE; rw [if_pos h.1, if_pos h.2]
    simp [adP, e]
  · have hne : phC ⟨n, d, a, p, f⟩ i ≠ 0 := by simpa using h2
    have e : adE ⟨n, d, a, p, f⟩ i = phC ⟨n, d, a, p, f⟩ i := by unfold adE; rw [if_neg hne]
    simp [adP, e, hne]
  · have he : phC ⟨n, d, a, p, f⟩ i = 0 := by simpa using h2
    rw [he] at h
    have e : adE ⟨n, d, a, p, f⟩ i = 0 := by unfold adE; rw [if_pos he, if_neg (by simpa using h)]
    simp [adP, e]
def E_padv : List V → Boxes → Toks → Name → Option Ent
  | [.agg [.d (.int .i64 n), .d (.int .i64 d), .d (.int .i64 a), .d (.int .i64 p), .d (.int .i64 f)], .c (.d (.int .i64 i))], [], [], _ => some ⟨True, .tup [.agg [.int .i64 (adP ⟨n, d, a, p, f⟩ i).n, .int .i64 (adP ⟨n, d, a, p, f⟩ i).d, .int .i64 (adP ⟨n, d, a, p, f⟩ i).a, .int .i64 (adP ⟨n, d, a, p, f⟩ i).p, .int .i64 (adP ⟨n, d, a, p, f⟩ i).f], .int .i64 (adE ⟨n, d, a, p, f⟩ i)], [], []⟩
  | _, _, _, _ => none
def E_padv_eq := And.intro (@E_padv.eq_1) (@E_padv.eq_1)
theorem E_padv_ok : Snd Tryz.prog 218 E_padv := by
  intro vs b k n e h hn hp
  unfold E_padv at h
  split at h
  · cases h; exact (spec_padv _ _ _ _ _ _).lift rfl _
  · cases h
end Go.Vam
