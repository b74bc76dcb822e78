/- Controls; Retune; what Take returns in a buffer of its own. Conditions: none. -/
import Derived.Test.YtmlmgpnkemdilaaBdgG
set_option linter.unusedVariables false
set_option linter.unusedSimpArgs false
set_option maxRecDepth 40000
set_option maxHeartbeats 4000000
namespace Go.Vam
open Go.Proofs

theorem ph_eta (x : Ph) : (⟨x.n, x.d, x.a, x.p, x.f⟩ : Ph) = x := rfl
theorem rs_eta (x : Rs) : (⟨x.c, x.p, x.l⟩ : Rs) = x := rfl
/-- A control; a bridge. -/
structure Ct where
  t : Int
  d : Int
  g : Int
  m : Int
def ctV (x : Ct) : Bool := decide (0 ≤ x.t) && decide (x.t ≤ 65536) && decide (0 ≤ x.d) && decide (x.d ≤ 65536) && decide (1 ≤ x.g) && decide (x.g ≤ 4096) && decide (0 ≤ x.m) && decide (x.m ≤ 4096)
theorem ctV_in {x : Ct} (h : ctV x = true) : (0 ≤ x.t ∧ x.t ≤ 65536) ∧ (0 ≤ x.d ∧ x.d ≤ 65536) ∧ (1 ≤ x.g ∧ x.g ≤ 4096) ∧ (0 ≤ x.m ∧ x.m ≤ 4096) := by
  simp only [ctV, Bool.and_eq_true, decide_eq_true_eq] at h
  omega
/-- The size of an adjustment; the adjustment. -/
def szX (x : Ct) (d : Int) : Int := min x.m (max 0 (d - x.d) * x.g)
def ajX (x : Ct) (f : Int) : Int := if ctV x = false then 0 else if (decide (f < 0) || decide (2147483647 < f)) = true then 0 else if f < x.t then -(szX x (x.t - f)) else szX x (f - x.t)
theorem szX_in {x : Ct} (h : ctV x = true) {d : Int} (hd : -2147483648 ≤ d ∧ d ≤ 2147483648) : (0 ≤ szX x d ∧ szX x d ≤ 4096) ∧ (0 ≤ max 0 (d - x.d) ∧ max 0 (d - x.d) ≤ 2147483648) ∧ (0 ≤ max 0 (d - x.d) * x.g ∧ max 0 (d - x.d) * x.g ≤ 2147483648 * 4096) := by
  obtain ⟨h1, h2, h3, h4⟩ := ctV_in h
  have hm : 0 ≤ max 0 (d - x.d) ∧ max 0 (d - x.d) ≤ 2147483648 := by omega
  have hb := mulb (x := max 0 (d - x.d)) (y := x.g) (A := 2147483648) (B := 4096) hm.1 hm.2 (by omega) h3.2
  refine ⟨?_, hm, hb⟩
  unfold szX
  omega
theorem ajX_in (x : Ct) (f : Int) : -4096 ≤ ajX x f ∧ ajX x f ≤ 4096 := by
  unfold ajX
  split
  · omega
  · split
    · omega
    · rename_i h1 h2
      have hv : ctV x = true := by simpa using h1
      have hc := ctV_in hv
      simp only [Bool.or_eq_true, decide_eq_true_eq, not_or] at h2
      split
      · have := (szX_in hv (d := x.t - f) (by omega)).1
        omega
      · have := (szX_in hv (d := f - x.t) (by omega)).1
        omega
def rtE (p : Ph) (a : Int) : Int := if phV p = false then 1 else if tuX a = false then 2 else 0
def rtP (p : Ph) (a : Int) : Ph := if rtE p a = 0 then ⟨p.n, p.d, a, p.p, p.f⟩ else ⟨0, 0, 0, 0, 0⟩
def siE (c k : Int) : Int := if (decide (c < 1) || decide (8 < c)) = true then 2 else if (decide (k < 0) || decide (65536 < k)) = true then 2 else 0
structure Br where
  q : Int
  c : Ct
  r : Rs
  lo : Int
  mi : Int
def br0 : Br := ⟨0, ⟨0, 0, 0, 0⟩, rs0, 0, 0⟩
def brV (x : Br) : Bool := rsV x.r && ctV x.c && decide (1 ≤ x.q) && decide (x.q ≤ 65536) && decide (waN x.r ≤ x.q) && decide (0 ≤ x.lo) && decide (0 ≤ x.mi)
theorem brV_in {x : Br} (h : brV x = true) : rsV x.r = true ∧ ctV x.c = true ∧ (1 ≤ x.q ∧ x.q ≤ 65536) ∧ waN x.r ≤ x.q ∧ 0 ≤ x.lo ∧ 0 ≤ x.mi := by
  simp only [brV, Bool.and_eq_true, decide_eq_true_eq] at h
  obtain ⟨⟨⟨⟨⟨⟨h1, h2⟩, h3⟩, h4⟩, h5⟩, h6⟩, h7⟩ := h
  exact ⟨h1, h2, ⟨h3, h4⟩, h5, h6, h7⟩
def biN (x : Br) : Int := if brV x = true then waN x.r else 0
def bnE (ch n d : Int) (x : Ct) (q fi : Int) : Int := if (decide (q < 1) || decide (65536 < q) || decide (fi < 0) || decide (q < fi)) = true then 2 else if (nwE ch n d != 0 || !ctV x) = true then 1 else 0
def bnR (ch n d : Int) (x : Ct) (q fi : Int) : Br := if bnE ch n d x q fi = 0 then ⟨q, x, ⟨ch, ⟨n, d, 0, 0, 0⟩, List.replicate (ch * fi).toNat 0⟩, 0, 0⟩ else br0
/-- Frames for which there is room; a bridge after a push. -/
def puE (x : Br) (k : Int) (y : List Int) : Int := if (!brV x || !blkV k y) = true then 1 else if k ≠ x.r.c then 11 else 0
def puN (x : Br) (k : Int) (y : List Int) : Int := min ((y.length / k.toNat : Nat) : Int) (x.q - waN x.r)
def puL (x : Br) (k : Int) (y : List Int) : Int := if puE x k y = 0 then ((y.length / k.toNat : Nat) : Int) - puN x k y else 0
def puR (x : Br) (k : Int) (y : List Int) : Br := if puE x k y = 0 then ⟨x.q, x.c, feR x.r k (y.take ((puN x k y).toNat * k.toNat)), IntKind.i64.wrap (x.lo + (((y.length / k.toNat : Nat) : Int) - puN x k y)), x.mi⟩ else br0
/-- The resampler with the control's adjustment; how many frames are taken; a bridge after a pull. -/
def plA (x : Br) : Rs := ⟨x.r.c, ⟨x.r.p.n, x.r.p.d, ajX x.c (waN x.r), x.r.p.p, x.r.p.f⟩, x.r.l⟩
def plK (x : Br) (i : Int) : Int := min ((mkN (plA x).p (waN x.r) : Nat) : Int) i
def plE (x : Br) (i : Int) : Int := if brV x = false then 1 else if (decide (i < 0) || decide (65536 < i)) = true then 2 else tkE (plA x) (plK x i)
def plC (x : Br) (i : Int) : Int := if plE x i = 0 then x.r.c else 0
def plO (x : Br) (i : Int) : List Int := if plE x i = 0 then outO (plA x) (plK x i).toNat ++ List.replicate ((i.toNat - (plK x i).toNat) * x.r.c.toNat) 0 else []
def plM (x : Br) (i : Int) : Int := if plE x i = 0 then i - plK x i else 0
def plR (x : Br) (i : Int) : Br := if plE x i = 0 then ⟨x.q, x.c, poR (plA x) (plK x i), x.lo, IntKind.i64.wrap (x.mi + (i - plK x i))⟩ else br0
theorem puE_ok {x : Br} {k : Int} {y : List Int} (h : puE x k y = 0) : brV x = true ∧ blkV k y = true ∧ k = x.r.c := by
  unfold puE at h
  split at h
  · cases h
  · split at h
    · cases h
    · rename_i h1 h2
      simp only [Bool.or_eq_true, Bool.not_eq_true', not_or, Bool.not_eq_false] at h1
      exact ⟨h1.1, h1.2, by simpa using h2⟩
theorem plE_ok {x : Br} {i : Int} (h : plE x i = 0) : brV x = true ∧ (0 ≤ i ∧ i ≤ 65536) ∧ tkE (plA x) (plK x i) = 0 := by
  unfold plE at h
  split at h
  · cases h
  · split at h
    · cases h
    · rename_i h1 h2
      simp only [Bool.or_eq_true, decide_eq_true_eq, not_or] at h2
      exact ⟨by simpa using h1, by omega, h⟩
theorem plA_V {x : Br} (h : brV x = true) : rsV (plA x) = true := by
  have h1 := (brV_in h).1
  unfold rsV at h1 ⊢
  rw [Bool.and_eq_true] at h1
  have h2 := phV_adj h1.1 (ajX_in x.c (waN x.r))
  rw [Bool.and_eq_true]
  exact ⟨h2, h1.2⟩
theorem waN_V {x : Rs} (h : rsV x = true) (hl : x.l.length ≤ 1000000) : waN x = ((x.l.length / x.c.toNat : Nat) : Int) ∧ 0 ≤ waN x ∧ waN x ≤ 65536 := by
  obtain ⟨⟨k1, k2⟩, k3, k4, k5⟩ := blk_in (rsV_in h).2 hl
  have e : waN x = ((x.l.length / x.c.toNat : Nat) : Int) := if_pos h
  rw [e]
  exact ⟨rfl, Int.natCast_nonneg _, Int.ofNat_le.2 k4⟩
theorem plK_in {x : Br} (h : brV x = true) (hl : x.r.l.length ≤ 1000000) {i : Int} (hi : 0 ≤ i ∧ i ≤ 65536) : 0 ≤ plK x i ∧ plK x i ≤ i := by
  unfold plK
  have := Int.natCast_nonneg (mkN (plA x).p (waN x.r))
  omega


theorem spec_ctvalid (ct cd cg cm : Int) : Spec Try.prog 0 57 [.agg [.d (.int .i64 ct), .d (.int .i64 cd), .d (.int .i64 cg), .d (.int .i64 cm)]] [] [] (vB (ctV ⟨ct, cd, cg, cm⟩)) [] [] := by
  refine spec_of_E (X := ⟨Try.prog, tt, Try.f57.ntmps, 1, fun _ => 0, (tab [])⟩) (M := [(1, [0, 0, 0, 0, 0, 2199023255367, 0, 0, 0, 0, 0, 2199023241223, 0, 0, 0, 0, 0, 2199022206983, 0, 0, 0, 0, 0, 2198956146695, 0, 0, 0, 0, 0, 2196875771911, 0, 0, 0, 0, 0, 1992864825351, 0, 0, 0])]) (m := 7) rfl rfl ⟨tt_ok, tab_ok tabs_nil _ rfl rfl⟩ tt_mixed Try.func57 rfl (by decide) (by show (1 : Nat) ≤ _; exact Nat.le_of_ble_eq_true rfl) ⟨fun m hm => (V.bare_has rfl m hm).elim, by simp, by simp⟩ ?_
  simp only [↓gPre, gPost, gCore, handV, V.bufs, buildArr, toCs, Nat.reduceShiftRight, Nat.reduceMod, addB, addK, zeroOp, callSem, resName, keepsB, newB, V.pure, C.pure, V.ptrs, C.ptrs, C.bufs, appendSem, appendTo, appendZ, dstOk, lk, V.cells, Op.eff, partV, partD, cut, lay, zeroD, C.toDs, C.toD, V.toD, toDs, buildCells, if_true, if_false, ↓reduceIte, reduceCtorEq, Nat.reduceEqDiff, Nat.reduceLT, Nat.reduceLeDiff, implies_true, forall_const, eq_self, ne_eq, not_true_eq_false, not_false_eq_true, imp_self, Nat.reduceAdd, Nat.reduceMul, Int.reduceLE, Int.reduceLT, Int.reduceNeg, Int.reduceAdd, Int.reduceToNat, Try.ntmps57, Try.results57, gTT]
  rfl
def E_ctvalid : List V → Boxes → Toks → Name → Option Ent
  | [.agg [.d (.int .i64 ct), .d (.int .i64 cd), .d (.int .i64 cg), .d (.int .i64 cm)]], [], [], _ => some ⟨True, vB (ctV ⟨ct, cd, cg, cm⟩), [], []⟩
  | _, _, _, _ => none
theorem E_ctvalid_eq {ct cd cg cm : Int}  {nF : Name} : E_ctvalid [.agg [.d (.int .i64 ct), .d (.int .i64 cd), .d (.int .i64 cg), .d (.int .i64 cm)]] [] [] nF = some ⟨True, vB (ctV ⟨ct, cd, cg, cm⟩), [], []⟩ := Eq.trans rfl rfl
theorem E_ctvalid_ok : Snd Try.prog 57 E_ctvalid := by
  intro vs b k n e h hn hp
  unfold E_ctvalid at h
  split at h
  · cases h; exact (spec_ctvalid _ _ _ _).lift rfl _
  · cases h

theorem spec_rctvalid (ct cd cg cm : Int) : Spec Try.prog 0 59 [.agg [.d (.int .i64 ct), .d (.int .i64 cd), .d (.int .i64 cg), .d (.int .i64 cm)]] [] [] (vB (ctV ⟨ct, cd, cg, cm⟩)) [] [] := by
  refine spec_of_E (X := ⟨Try.prog, tt, Try.f59.ntmps, 1, fun _ => 0, (tab [])⟩) (M := [(1, [0, 0, 0, 0, 0, 2199023255367, 0, 0, 0, 0, 0, 2199023241223, 0, 0, 0, 0, 0, 2199022206983, 0, 0, 0, 0, 0, 2198956146695, 0, 0, 0, 0, 0, 2196875771911, 0, 0, 0, 0, 0, 1992864825351, 0, 0, 0])]) (m := 7) rfl rfl ⟨tt_ok, tab_ok tabs_nil _ rfl rfl⟩ tt_mixed Try.func59 rfl (by decide) (by show (1 : Nat) ≤ _; exact Nat.le_of_ble_eq_true rfl) ⟨fun m hm => (V.bare_has rfl m hm).elim, by simp, by simp⟩ ?_
  simp only [↓gPre, gPost, gCore, handV, V.bufs, buildArr, toCs, Nat.reduceShiftRight, Nat.reduceMod, addB, addK, zeroOp, callSem, resName, keepsB, newB, V.pure, C.pure, V.ptrs, C.ptrs, C.bufs, appendSem, appendTo, appendZ, dstOk, lk, V.cells, Op.eff, partV, partD, cut, lay, zeroD, C.toDs, C.toD, V.toD, toDs, buildCells, if_true, if_false, ↓reduceIte, reduceCtorEq, Nat.reduceEqDiff, Nat.reduceLT, Nat.reduceLeDiff, implies_true, forall_const, eq_self, ne_eq, not_true_eq_false, not_false_eq_true, imp_self, Nat.reduceAdd, Nat.reduceMul, Int.reduceLE, Int.reduceLT, Int.reduceNeg, Int.reduceAdd, Int.reduceToNat, Try.ntmps59, Try.results59, gTT]
  rfl
def E_rctvalid : List V → Boxes → Toks → Name → Option Ent
  | [.agg [.d (.int .i64 ct), .d (.int .i64 cd), .d (.int .i64 cg), .d (.int .i64 cm)]], [], [], _ => some ⟨True, vB (ctV ⟨ct, cd, cg, cm⟩), [], []⟩
  | _, _, _, _ => none
theorem E_rctvalid_eq {ct cd cg cm : Int}  {nF : Name} : E_rctvalid [.agg [.d (.int .i64 ct), .d (.int .i64 cd), .d (.int .i64 cg), .d (.int .i64 cm)]] [] [] nF = some ⟨True, vB (ctV ⟨ct, cd, cg, cm⟩), [], []⟩ := Eq.trans rfl rfl
theorem E_rctvalid_ok : Snd Try.prog 59 E_rctvalid := by
  intro vs b k n e h hn hp
  unfold E_rctvalid at h
  split at h
  · cases h; exact (spec_rctvalid _ _ _ _).lift rfl _
  · cases h

theorem spec_retune (n d a p f b : Int) : Spec Try.prog 0 46 [.agg [.d (.int .i64 n), .d (.int .i64 d), .d (.int .i64 a), .d (.int .i64 p), .d (.int .i64 f)], vI .i64 b] [] [] (.tup [.agg [.int .i64 (rtP ⟨n, d, a, p, f⟩ b).n, .int .i64 (rtP ⟨n, d, a, p, f⟩ b).d, .int .i64 (rtP ⟨n, d, a, p, f⟩ b).a, .int .i64 (rtP ⟨n, d, a, p, f⟩ b).p, .int .i64 (rtP ⟨n, d, a, p, f⟩ b).f], .int .i64 (rtE ⟨n, d, a, p, f⟩ b)]) [] [] := by
  refine spec_of_E (X := ⟨Try.prog, tt, Try.f46.ntmps, 1, fun _ => 0, (tab [(78, E_phvalid), (79, E_tuned)])⟩) (M := []) (m := 4407) rfl rfl ⟨tt_ok, tab_ok (tabs_cons E_phvalid_ok (tabs_cons E_tuned_ok tabs_nil)) _ rfl rfl⟩ tt_mixed Try.func46 rfl (by decide) (by show (2 : Nat) ≤ _; exact Nat.le_of_ble_eq_true rfl) ⟨fun m hm => (V.bare_has rfl m hm).elim, by simp, by simp⟩ ?_
  simp only [↓gPre, gPost, gCore, handV, V.bufs, buildArr, toCs, Nat.reduceShiftRight, Nat.reduceMod, addB, addK, zeroOp, callSem, resName, keepsB, newB, V.pure, C.pure, V.ptrs, C.ptrs, C.bufs, appendSem, appendTo, appendZ, dstOk, lk, V.cells, Op.eff, partV, partD, cut, lay, zeroD, C.toDs, C.toD, V.toD, toDs, buildCells, if_true, if_false, ↓reduceIte, reduceCtorEq, Nat.reduceEqDiff, Nat.reduceLT, Nat.reduceLeDiff, implies_true, forall_const, eq_self, ne_eq, not_true_eq_false, not_false_eq_true, imp_self, Nat.reduceAdd, Nat.reduceMul, Int.reduceLE, Int.reduceLT, Int.reduceNeg, Int.reduceAdd, Int.reduceToNat, E_phvalid_eq, E_tuned_eq, Try.ntmps46, Try.results46, gTT]
  refine ⟨fun h => by simp [rtP, rtE, h], fun h => ?_⟩
  have hv : phV ⟨n, d, a, p, f⟩ = true := by simpa using h
  refine ⟨fun h2 => by simp [rtP, rtE, hv, h2], fun h2 => ?_⟩
  have h3 : tuX b = true := by simpa using h2
  simp [rtP, rtE, hv, h3]
def E_retune : List V → Boxes → Toks → Name → Option Ent
  | [.agg [.d (.int .i64 n), .d (.int .i64 d), .d (.int .i64 a), .d (.int .i64 p), .d (.int .i64 f)], .c (.d (.int .i64 b))], [], [], _ => some ⟨True, .tup [.agg [.int .i64 (rtP ⟨n, d, a, p, f⟩ b).n, .int .i64 (rtP ⟨n, d, a, p, f⟩ b).d, .int .i64 (rtP ⟨n, d, a, p, f⟩ b).a, .int .i64 (rtP ⟨n, d, a, p, f⟩ b).p, .int .i64 (rtP ⟨n, d, a, p, f⟩ b).f], .int .i64 (rtE ⟨n, d, a, p, f⟩ b)], [], []⟩
  | _, _, _, _ => none
theorem E_retune_eq {n d a p f b : Int}  {nF : Name} : E_retune [.agg [.d (.int .i64 n), .d (.int .i64 d), .d (.int .i64 a), .d (.int .i64 p), .d (.int .i64 f)], .c (.d (.int .i64 b))] [] [] nF = some ⟨True, .tup [.agg [.int .i64 (rtP ⟨n, d, a, p, f⟩ b).n, .int .i64 (rtP ⟨n, d, a, p, f⟩ b).d, .int .i64 (rtP ⟨n, d, a, p, f⟩ b).a, .int .i64 (rtP ⟨n, d, a, p, f⟩ b).p, .int .i64 (rtP ⟨n, d, a, p, f⟩ b).f], .int .i64 (rtE ⟨n, d, a, p, f⟩ b)], [], []⟩ := Eq.trans rfl rfl
theorem E_retune_ok : Snd Try.prog 46 E_retune := by
  intro vs b k n e h hn hp
  unfold E_retune at h
  split at h
  · cases h; exact (spec_retune _ _ _ _ _ _).lift rfl _
  · cases h

theorem spec_rretune (n d a p f b : Int) : Spec Try.prog 0 50 [.agg [.d (.int .i64 n), .d (.int .i64 d), .d (.int .i64 a), .d (.int .i64 p), .d (.int .i64 f)], vI .i64 b] [] [] (.tup [.agg [.int .i64 (rtP ⟨n, d, a, p, f⟩ b).n, .int .i64 (rtP ⟨n, d, a, p, f⟩ b).d, .int .i64 (rtP ⟨n, d, a, p, f⟩ b).a, .int .i64 (rtP ⟨n, d, a, p, f⟩ b).p, .int .i64 (rtP ⟨n, d, a, p, f⟩ b).f], .int .i64 (rtE ⟨n, d, a, p, f⟩ b)]) [] [] := by
  refine spec_of_E (X := ⟨Try.prog, tt, Try.f50.ntmps, 1, fun _ => 0, (tab [(87, E_rphvalid)])⟩) (M := []) (m := 33079) rfl rfl ⟨tt_ok, tab_ok (tabs_cons E_rphvalid_ok tabs_nil) _ rfl rfl⟩ tt_mixed Try.func50 rfl (by decide) (by show (2 : Nat) ≤ _; exact Nat.le_of_ble_eq_true rfl) ⟨fun m hm => (V.bare_has rfl m hm).elim, by simp, by simp⟩ ?_
  simp only [↓gPre, gPost, gCore, handV, V.bufs, buildArr, toCs, Nat.reduceShiftRight, Nat.reduceMod, addB, addK, zeroOp, callSem, resName, keepsB, newB, V.pure, C.pure, V.ptrs, C.ptrs, C.bufs, appendSem, appendTo, appendZ, dstOk, lk, V.cells, Op.eff, partV, partD, cut, lay, zeroD, C.toDs, C.toD, V.toD, toDs, buildCells, if_true, if_false, ↓reduceIte, reduceCtorEq, Nat.reduceEqDiff, Nat.reduceLT, Nat.reduceLeDiff, implies_true, forall_const, eq_self, ne_eq, not_true_eq_false, not_false_eq_true, imp_self, Nat.reduceAdd, Nat.reduceMul, Int.reduceLE, Int.reduceLT, Int.reduceNeg, Int.reduceAdd, Int.reduceToNat, E_rphvalid_eq, Try.ntmps50, Try.results50, gTT]
  refine ⟨fun h => by simp [rtP, rtE, h], fun h => ?_⟩
  have hv : phV ⟨n, d, a, p, f⟩ = true := by simpa using h
  have ht : tuX b = !(decide (b < -4096) || decide (4096 < b)) := by
    unfold tuX
    by_cases h1 : b < -4096 <;> by_cases h2 : 4096 < b <;> simp [h1, h2] <;> omega
  refine ⟨fun h2 => ?_, fun h2 => ?_⟩
  · rw [h2] at ht
    have h3 : tuX b = false := ht
    simp [rtP, rtE, hv, h3]
  · rw [h2] at ht
    have h3 : tuX b = true := ht
    simp [rtP, rtE, hv, h3]
def E_rretune : List V → Boxes → Toks → Name → Option Ent
  | [.agg [.d (.int .i64 n), .d (.int .i64 d), .d (.int .i64 a), .d (.int .i64 p), .d (.int .i64 f)], .c (.d (.int .i64 b))], [], [], _ => some ⟨True, .tup [.agg [.int .i64 (rtP ⟨n, d, a, p, f⟩ b).n, .int .i64 (rtP ⟨n, d, a, p, f⟩ b).d, .int .i64 (rtP ⟨n, d, a, p, f⟩ b).a, .int .i64 (rtP ⟨n, d, a, p, f⟩ b).p, .int .i64 (rtP ⟨n, d, a, p, f⟩ b).f], .int .i64 (rtE ⟨n, d, a, p, f⟩ b)], [], []⟩
  | _, _, _, _ => none
theorem E_rretune_eq {n d a p f b : Int}  {nF : Name} : E_rretune [.agg [.d (.int .i64 n), .d (.int .i64 d), .d (.int .i64 a), .d (.int .i64 p), .d (.int .i64 f)], .c (.d (.int .i64 b))] [] [] nF = some ⟨True, .tup [.agg [.int .i64 (rtP ⟨n, d, a, p, f⟩ b).n, .int .i64 (rtP ⟨n, d, a, p, f⟩ b).d, .int .i64 (rtP ⟨n, d, a, p, f⟩ b).a, .int .i64 (rtP ⟨n, d, a, p, f⟩ b).p, .int .i64 (rtP ⟨n, d, a, p, f⟩ b).f], .int .i64 (rtE ⟨n, d, a, p, f⟩ b)], [], []⟩ := Eq.trans rfl rfl
theorem E_rretune_ok : Snd Try.prog 50 E_rretune := by
  intro vs b k n e h hn hp
  unfold E_rretune at h
  split at h
  · cases h; exact (spec_rretune _ _ _ _ _ _).lift rfl _
  · cases h

theorem spec_ctsize (ct cd cg cm : Int) (x : Int) (hv : ctV ⟨ct, cd, cg, cm⟩ = true) (hx : -2147483648 ≤ x ∧ x ≤ 2147483648) : Spec Try.prog 0 80 [vI .i64 x, .c (.lp ⟨0, 0⟩ 0)] [(⟨0, 0⟩, [.d (.int .i64 ct), .d (.int .i64 cd), .d (.int .i64 cg), .d (.int .i64 cm)])] [] (vI .i64 (szX ⟨ct, cd, cg, cm⟩ x)) [(⟨0, 0⟩, [.d (.int .i64 ct), .d (.int .i64 cd), .d (.int .i64 cg), .d (.int .i64 cm)])] [] := by
  refine spec_of_E (X := ⟨Try.prog, tt, Try.f80.ntmps, 1, fun _ => 0, (tab [])⟩) (M := [(1, [0, 0, 0, 0, 0, 32299, 0, 0, 0, 0, 0, 0])]) (m := 11) rfl rfl ⟨tt_ok, tab_ok tabs_nil _ rfl rfl⟩ tt_mixed Try.func80 rfl (by decide) (by show (2 : Nat) ≤ _; exact Nat.le_of_ble_eq_true rfl) ⟨by simp [V.has, C.has], by simp [C.has], by simp⟩ ?_
  simp only [↓gPre, gPost, gCore, handV, V.bufs, buildArr, toCs, Nat.reduceShiftRight, Nat.reduceMod, addB, addK, zeroOp, callSem, resName, keepsB, newB, V.pure, C.pure, V.ptrs, C.ptrs, C.bufs, appendSem, appendTo, appendZ, dstOk, lk, V.cells, Op.eff, partV, partD, cut, lay, zeroD, C.toDs, C.toD, V.toD, toDs, buildCells, if_true, if_false, ↓reduceIte, reduceCtorEq, Nat.reduceEqDiff, Nat.reduceLT, Nat.reduceLeDiff, implies_true, forall_const, eq_self, ne_eq, not_true_eq_false, not_false_eq_true, imp_self, Nat.reduceAdd, Nat.reduceMul, Int.reduceLE, Int.reduceLT, Int.reduceNeg, Int.reduceAdd, Int.reduceToNat, Try.ntmps80, Try.results80, gTT]
  obtain ⟨h1, h2, h3⟩ := szX_in hv hx
  have hc := ctV_in hv
  simp only at h2 h3 hc
  rw [IntWalk.i64_in (x - cd) (by omega)]
  have e : (if 0 < x - cd then x - cd else 0) = max 0 (x - cd) := by split <;> omega
  rw [e, IntWalk.i64_in (max 0 (x - cd) * cg) (by omega)]
  unfold szX
  simp only
  split <;> omega
def E_ctsize : List V → Boxes → Toks → Name → Option Ent
  | [.c (.d (.int .i64 x)), .c (.lp n0 0)], [(m0, [.d (.int .i64 ct), .d (.int .i64 cd), .d (.int .i64 cg), .d (.int .i64 cm)])], [], _ => some ⟨ctV ⟨ct, cd, cg, cm⟩ = true ∧ (-2147483648 ≤ x ∧ x ≤ 2147483648) ∧ n0.lv ≤ 1 ∧ m0 = n0, vI .i64 (szX ⟨ct, cd, cg, cm⟩ x), [(n0, [.d (.int .i64 ct), .d (.int .i64 cd), .d (.int .i64 cg), .d (.int .i64 cm)])], []⟩
  | _, _, _, _ => none
theorem E_ctsize_eq {ct cd cg cm : Int} {x : Int}  {n0 : Name} {m0 : Name} {nF : Name} : E_ctsize [.c (.d (.int .i64 x)), .c (.lp n0 0)] [(m0, [.d (.int .i64 ct), .d (.int .i64 cd), .d (.int .i64 cg), .d (.int .i64 cm)])] [] nF = some ⟨ctV ⟨ct, cd, cg, cm⟩ = true ∧ (-2147483648 ≤ x ∧ x ≤ 2147483648) ∧ n0.lv ≤ 1 ∧ m0 = n0, vI .i64 (szX ⟨ct, cd, cg, cm⟩ x), [(n0, [.d (.int .i64 ct), .d (.int .i64 cd), .d (.int .i64 cg), .d (.int .i64 cm)])], []⟩ := Eq.trans rfl rfl
theorem E_ctsize_ok : Snd Try.prog 80 E_ctsize := by
  intro vs b k n e h hn hp
  unfold E_ctsize at h
  split at h
  · cases h; obtain ⟨hp0, hp1, hl0, rfl⟩ := hp; exact Spec.ren1 (spec_ctsize _ _ _ _ _ hp0 hp1) 0 (by simp [supOK, V.names, C.names, namesB, namesK]) hl0 
  · cases h

theorem spec_adjust (ct cd cg cm : Int) (x : Int) : Spec Try.prog 0 47 [.agg [.d (.int .i64 ct), .d (.int .i64 cd), .d (.int .i64 cg), .d (.int .i64 cm)], vI .i64 x] [] [] (vI .i64 (ajX ⟨ct, cd, cg, cm⟩ x)) [] [] := by
  refine spec_of_E (X := ⟨Try.prog, tt, Try.f47.ntmps, 1, fun _ => 0, (tab [(57, E_ctvalid), (80, E_ctsize)])⟩) (M := []) (m := 2162743) rfl rfl ⟨tt_ok, tab_ok (tabs_cons E_ctvalid_ok (tabs_cons E_ctsize_ok tabs_nil)) _ rfl rfl⟩ tt_mixed Try.func47 rfl (by decide) (by show (2 : Nat) ≤ _; exact Nat.le_of_ble_eq_true rfl) ⟨fun m hm => (V.bare_has rfl m hm).elim, by simp, by simp⟩ ?_
  simp only [↓gPre, gPost, gCore, handV, V.bufs, buildArr, toCs, Nat.reduceShiftRight, Nat.reduceMod, addB, addK, zeroOp, callSem, resName, keepsB, newB, V.pure, C.pure, V.ptrs, C.ptrs, C.bufs, appendSem, appendTo, appendZ, dstOk, lk, V.cells, Op.eff, partV, partD, cut, lay, zeroD, C.toDs, C.toD, V.toD, toDs, buildCells, if_true, if_false, ↓reduceIte, reduceCtorEq, Nat.reduceEqDiff, Nat.reduceLT, Nat.reduceLeDiff, implies_true, forall_const, eq_self, ne_eq, not_true_eq_false, not_false_eq_true, imp_self, Nat.reduceAdd, Nat.reduceMul, Int.reduceLE, Int.reduceLT, Int.reduceNeg, Int.reduceAdd, Int.reduceToNat, E_ctvalid_eq, E_ctsize_eq, Try.ntmps47, Try.results47, gTT]
  refine ⟨fun h => ?_, fun h => ?_⟩
  · unfold ajX
    by_cases hv : ctV ⟨ct, cd, cg, cm⟩ = true
    · have h2 : (decide (x < 0) || decide (2147483647 < x)) = true := by rw [hv] at h; simpa using h
      rw [if_neg (by rw [hv]; decide), if_pos h2]
    · rw [if_pos (by simpa using hv)]
  have hv : ctV ⟨ct, cd, cg, cm⟩ = true := by
    cases hq : ctV ⟨ct, cd, cg, cm⟩ with
    | true => rfl
    | false => rw [hq] at h; simp at h
  have h2 : (decide (x < 0) || decide (2147483647 < x)) = false := by rw [hv] at h; simpa using h
  have h3 : 0 ≤ x ∧ x ≤ 2147483647 := by simp only [Bool.or_eq_false_iff, decide_eq_false_iff_not] at h2; omega
  have hc := ctV_in hv
  simp only at hc
  have e : ajX ⟨ct, cd, cg, cm⟩ x = if x < ct then -(szX ⟨ct, cd, cg, cm⟩ (ct - x)) else szX ⟨ct, cd, cg, cm⟩ (x - ct) := by unfold ajX; rw [if_neg (by rw [hv]; decide), if_neg (by rw [h2]; decide)]
  rw [IntWalk.i64_in (ct - x) (by omega), IntWalk.i64_in (x - ct) (by omega)]
  refine ⟨fun h4 => ⟨⟨hv, by omega, by omega⟩, ?_⟩, fun h4 => ⟨⟨hv, by omega, by omega⟩, ?_⟩⟩
  · have h5 := (szX_in hv (d := ct - x) (by omega)).1
    rw [e, if_pos (of_decide_eq_true h4), IntWalk.i64_in (0 - _) (by omega)]
    omega
  · rw [e, if_neg (of_decide_eq_false h4)]
def E_adjust : List V → Boxes → Toks → Name → Option Ent
  | [.agg [.d (.int .i64 ct), .d (.int .i64 cd), .d (.int .i64 cg), .d (.int .i64 cm)], .c (.d (.int .i64 x))], [], [], _ => some ⟨True, vI .i64 (ajX ⟨ct, cd, cg, cm⟩ x), [], []⟩
  | _, _, _, _ => none
theorem E_adjust_eq {ct cd cg cm : Int} {x : Int}  {nF : Name} : E_adjust [.agg [.d (.int .i64 ct), .d (.int .i64 cd), .d (.int .i64 cg), .d (.int .i64 cm)], .c (.d (.int .i64 x))] [] [] nF = some ⟨True, vI .i64 (ajX ⟨ct, cd, cg, cm⟩ x), [], []⟩ := Eq.trans rfl rfl
theorem E_adjust_ok : Snd Try.prog 47 E_adjust := by
  intro vs b k n e h hn hp
  unfold E_adjust at h
  split at h
  · cases h; exact (spec_adjust _ _ _ _ _).lift rfl _
  · cases h

theorem spec_radjust (ct cd cg cm : Int) (x : Int) : Spec Try.prog 0 51 [.agg [.d (.int .i64 ct), .d (.int .i64 cd), .d (.int .i64 cg), .d (.int .i64 cm)], vI .i64 x] [] [] (vI .i64 (ajX ⟨ct, cd, cg, cm⟩ x)) [] [] := by
  refine spec_of_E (X := ⟨Try.prog, tt, Try.f51.ntmps, 1, fun _ => 0, (tab [(59, E_rctvalid)])⟩) (M := [(7, [0, 0, 0, 0, 0, 17917710207877175, 0, 0, 0, 0, 0, 9007267976380471, 0])]) (m := 68721639479) rfl rfl ⟨tt_ok, tab_ok (tabs_cons E_rctvalid_ok tabs_nil) _ rfl rfl⟩ tt_mixed Try.func51 rfl (by decide) (by show (2 : Nat) ≤ _; exact Nat.le_of_ble_eq_true rfl) ⟨fun m hm => (V.bare_has rfl m hm).elim, by simp, by simp⟩ ?_
  simp only [↓gPre, gPost, gCore, handV, V.bufs, buildArr, toCs, Nat.reduceShiftRight, Nat.reduceMod, addB, addK, zeroOp, callSem, resName, keepsB, newB, V.pure, C.pure, V.ptrs, C.ptrs, C.bufs, appendSem, appendTo, appendZ, dstOk, lk, V.cells, Op.eff, partV, partD, cut, lay, zeroD, C.toDs, C.toD, V.toD, toDs, buildCells, if_true, if_false, ↓reduceIte, reduceCtorEq, Nat.reduceEqDiff, Nat.reduceLT, Nat.reduceLeDiff, implies_true, forall_const, eq_self, ne_eq, not_true_eq_false, not_false_eq_true, imp_self, Nat.reduceAdd, Nat.reduceMul, Int.reduceLE, Int.reduceLT, Int.reduceNeg, Int.reduceAdd, Int.reduceToNat, E_rctvalid_eq, Try.ntmps51, Try.results51, gTT]
  refine ⟨fun h => ?_, fun h => ?_⟩
  · unfold ajX
    by_cases hv : ctV ⟨ct, cd, cg, cm⟩ = true
    · have h2 : (decide (x < 0) || decide (2147483647 < x)) = true := by rw [hv] at h; simpa using h
      rw [if_neg (by rw [hv]; decide), if_pos h2]
    · rw [if_pos (by simpa using hv)]
  have hv : ctV ⟨ct, cd, cg, cm⟩ = true := by
    cases hq : ctV ⟨ct, cd, cg, cm⟩ with
    | true => rfl
    | false => rw [hq] at h; simp at h
  have h2 : (decide (x < 0) || decide (2147483647 < x)) = false := by rw [hv] at h; simpa using h
  have h3 : 0 ≤ x ∧ x ≤ 2147483647 := by simp only [Bool.or_eq_false_iff, decide_eq_false_iff_not] at h2; omega
  have hc := ctV_in hv
  simp only at hc
  have e : ajX ⟨ct, cd, cg, cm⟩ x = if x < ct then -(szX ⟨ct, cd, cg, cm⟩ (ct - x)) else szX ⟨ct, cd, cg, cm⟩ (x - ct) := by unfold ajX; rw [if_neg (by rw [hv]; decide), if_neg (by rw [h2]; decide)]
  rw [IntWalk.i64_in (x - ct) (by omega), IntWalk.i64_in (0 - cd) (by omega), IntWalk.i64_in (0 - (x - ct)) (by omega), IntWalk.i64_in (x - ct - cd) (by omega), IntWalk.i64_in (0 - (x - ct) - cd) (by omega)]
  have key : ∀ z : Int, 0 ≤ z → z ≤ 2147483648 → (0 ≤ z * cg ∧ z * cg ≤ 2147483648 * 4096) := fun z h1 h2 => mulb h1 h2 (by omega) hc.2.2.1.2
  refine ⟨fun h4 => ?_, fun h4 => ⟨fun h5 => ?_, fun h5 => ?_⟩⟩
  · have h5 := of_decide_eq_true h4
    have hk := key (x - ct - cd) (by omega) (by omega)
    rw [e, if_neg (by omega), IntWalk.i64_in ((x - ct - cd) * cg) (by omega)]
    unfold szX
    simp only
    rw [show max 0 (x - ct - cd) = x - ct - cd by omega]
    split <;> omega
  · have h6 := of_decide_eq_true h5
    have hk := key (0 - (x - ct) - cd) (by omega) (by omega)
    have e2 : max 0 (ct - x - cd) = 0 - (x - ct) - cd := by omega
    rw [e, if_pos (by omega), IntWalk.i64_in ((0 - (x - ct) - cd) * cg) (by omega)]
    unfold szX
    simp only
    rw [e2]
    generalize (0 - (x - ct) - cd) * cg = w at *
    rw [IntWalk.i64_in (0 - _) (by split <;> omega)]
    split <;> omega
  · have h6 := of_decide_eq_false h4
    have h7 := of_decide_eq_false h5
    rw [e]
    have e3 : ∀ z : Int, z ≤ 0 → szX ⟨ct, cd, cg, cm⟩ (z + cd) = 0 := fun z hz => by
      unfold szX
      simp only
      rw [show max 0 (z + cd - cd) = 0 by omega]
      omega
    split
    · have := e3 (ct - x - cd) (by omega)
      rw [show ct - x - cd + cd = ct - x by omega] at this
      omega
    · have := e3 (x - ct - cd) (by omega)
      rw [show x - ct - cd + cd = x - ct by omega] at this
      omega
def E_radjust : List V → Boxes → Toks → Name → Option Ent
  | [.agg [.d (.int .i64 ct), .d (.int .i64 cd), .d (.int .i64 cg), .d (.int .i64 cm)], .c (.d (.int .i64 x))], [], [], _ => some ⟨True, vI .i64 (ajX ⟨ct, cd, cg, cm⟩ x), [], []⟩
  | _, _, _, _ => none
theorem E_radjust_eq {ct cd cg cm : Int} {x : Int}  {nF : Name} : E_radjust [.agg [.d (.int .i64 ct), .d (.int .i64 cd), .d (.int .i64 cg), .d (.int .i64 cm)], .c (.d (.int .i64 x))] [] [] nF = some ⟨True, vI .i64 (ajX ⟨ct, cd, cg, cm⟩ x), [], []⟩ := Eq.trans rfl rfl
theorem E_radjust_ok : Snd Try.prog 51 E_radjust := by
  intro vs b k n e h hn hp
  unfold E_radjust at h
  split at h
  · cases h; exact (spec_radjust _ _ _ _ _).lift rfl _
  · cases h

theorem spec_produceO (c n d a p f : Int) (l : List Int) (i : Int) (hl : l.length ≤ 1000000) (hv : rsV ⟨c, ⟨n, d, a, p, f⟩, l⟩ = true) (hi : 0 ≤ i ∧ i ≤ 65536) (hne : 0 < i → 0 < l.length) (he0 : poE ⟨c, ⟨n, d, a, p, f⟩, l⟩ i = 0) : Spec Try.prog 0 86 [.agg [.d (.int .i64 c), .d (.int .i64 n), .d (.int .i64 d), .d (.int .i64 a), .d (.int .i64 p), .d (.int .i64 f), .d (.list (LI .i32 l))], vI .i64 i] [] [] (.ts [some 2, some 7, none] [.d (.int .i64 (poC ⟨c, ⟨n, d, a, p, f⟩, l⟩ i)), .own ⟨0, 9⟩ (LI .i32 (poO ⟨c, ⟨n, d, a, p, f⟩, l⟩ i)), .d (.int .i64 (poR ⟨c, ⟨n, d, a, p, f⟩, l⟩ i).c), .d (.int .i64 (poR ⟨c, ⟨n, d, a, p, f⟩, l⟩ i).p.n), .d (.int .i64 (poR ⟨c, ⟨n, d, a, p, f⟩, l⟩ i).p.d), .d (.int .i64 (poR ⟨c, ⟨n, d, a, p, f⟩, l⟩ i).p.a), .d (.int .i64 (poR ⟨c, ⟨n, d, a, p, f⟩, l⟩ i).p.p), .d (.int .i64 (poR ⟨c, ⟨n, d, a, p, f⟩, l⟩ i).p.f), .d (.list (LI .i32 (poR ⟨c, ⟨n, d, a, p, f⟩, l⟩ i).l)), .d (.int .i64 (poE ⟨c, ⟨n, d, a, p, f⟩, l⟩ i))]) [] [(⟨0, 9⟩, ⟨false, 1, LI .i32 (poO ⟨c, ⟨n, d, a, p, f⟩, l⟩ i)⟩)] := by
  refine spec_of_E_new (X := ⟨Try.prog, tt, Try.f86.ntmps, 1, fun s => if s = 45 then 1 else 0, (tab [(103, E_padv), (104, E_pat), (105, E_frame), (106, E_clone)])⟩) (M := [(15, [0, 0, 0, 0, 0, 5149829387557928694202194968567, 0, 0, 0, 0, 0, 5149695196791951470363802583031, 0, 0, 0, 0, 0, 5144878836326606787731773177847, 0, 0, 0]), (22, [0, 0, 0, 0, 0, 169891958281861993975001811129907265527, 0, 0, 0, 0, 0, 127688969415690915010305936966006325239, 0, 0])]) (m := 5070602433969483971237825724407) (r0 := .ts [some 2, some 7, none] [.d (.int .i64 (poC ⟨c, ⟨n, d, a, p, f⟩, l⟩ i)), .own ⟨1, 45⟩ (LI .i32 (poO ⟨c, ⟨n, d, a, p, f⟩, l⟩ i)), .d (.int .i64 (poR ⟨c, ⟨n, d, a, p, f⟩, l⟩ i).c), .d (.int .i64 (poR ⟨c, ⟨n, d, a, p, f⟩, l⟩ i).p.n), .d (.int .i64 (poR ⟨c, ⟨n, d, a, p, f⟩, l⟩ i).p.d), .d (.int .i64 (poR ⟨c, ⟨n, d, a, p, f⟩, l⟩ i).p.a), .d (.int .i64 (poR ⟨c, ⟨n, d, a, p, f⟩, l⟩ i).p.p), .d (.int .i64 (poR ⟨c, ⟨n, d, a, p, f⟩, l⟩ i).p.f), .d (.list (LI .i32 (poR ⟨c, ⟨n, d, a, p, f⟩, l⟩ i).l)), .d (.int .i64 (poE ⟨c, ⟨n, d, a, p, f⟩, l⟩ i))]) (b0 := []) (k0 := [(⟨1, 45⟩, ⟨false, 1, LI .i32 (poO ⟨c, ⟨n, d, a, p, f⟩, l⟩ i)⟩)]) ⟨1, 45⟩ ⟨0, 9⟩ rfl rfl ⟨tt_ok, tab_ok (tabs_cons E_padv_ok (tabs_cons E_pat_ok (tabs_cons E_frame_ok (tabs_cons E_clone_ok tabs_nil)))) _ rfl rfl⟩ tt_mixed Try.func86 rfl (by decide) (by show (2 : Nat) ≤ _; exact Nat.le_of_ble_eq_true rfl) rfl rfl rfl ⟨by simp [V.has, C.has], by simp [C.has], by simp⟩ (by decide) (by simp [V.names, C.names, namesB, namesK]) (by simp [lk]) (by simp [lk]) (by simp [lk]) ?_
  simp only [↓gPre, gPost, gCore, handV, V.bufs, buildArr, toCs, Nat.reduceShiftRight, Nat.reduceMod, addB, addK, zeroOp, callSem, resName, keepsB, newB, V.pure, C.pure, V.ptrs, C.ptrs, C.bufs, appendSem, appendTo, appendZ, dstOk, lk, V.cells, Op.eff, partV, partD, cut, lay, zeroD, C.toDs, C.toD, V.toD, toDs, buildCells, if_true, if_false, ↓reduceIte, reduceCtorEq, Nat.reduceEqDiff, Nat.reduceLT, Nat.reduceLeDiff, implies_true, forall_const, eq_self, ne_eq, not_true_eq_false, not_false_eq_true, imp_self, Nat.reduceAdd, Nat.reduceMul, Int.reduceLE, Int.reduceLT, Int.reduceNeg, Int.reduceAdd, Int.reduceToNat, E_padv_eq, E_pat_eq, E_frame_eq, E_clone_eq, Try.ntmps86, Try.results86, gTT]
  obtain ⟨⟨k1, k2⟩, k3, k4, k5⟩ := blk_in (rsV_in hv).2 hl
  have hp := (rsV_in hv).1
  simp only at k1 k2 hp k3
  have hc : (c.toNat : Int) = c := by omega
  have hi2 : (i.toNat : Int) = i := by omega
  have hm : i * c = ((i.toNat * c.toNat : Nat) : Int) := by rw [Int.natCast_mul, hc, hi2]
  have hmb := Nat.mul_le_mul (show i.toNat ≤ 65536 by omega) (show c.toNat ≤ 8 by omega)
  have hd := phV_in hp
  simp only at hd
  have hpr := prt_in hp
  have hP : IntKind.i64.wrap (d * 65536) = prt ⟨n, d, a, p, f⟩ := rfl
  rw [hP]
  refine ⟨fun h => ?_, fun h => ⟨by kernel_rfl, ?_⟩⟩
  · have hne : adE ⟨n, d, a, p, f⟩ i ≠ 0 := by simpa using h
    exact absurd he0 hne
  have he : adE ⟨n, d, a, p, f⟩ i = 0 := by simpa using h
  obtain ⟨he0, hadP⟩ := adE_ok he
  rw [hm, IntWalk.i64_in ((i.toNat * c.toNat : Nat) : Int) (by omega)]
  refine ⟨⟨by omega, by omega, by omega⟩, ?_⟩
  refine ELoop_keep (fun g => ⟨[(48, vI .i64 (g : Nat))], [(⟨1, 10⟩, [.d (.int .i64 c), .own ⟨1, 45⟩ (LI .i32 (outO ⟨c, ⟨n, d, a, p, f⟩, l⟩ g))])], [(⟨1, 45⟩, ⟨false, 1, LI .i32 (outO ⟨c, ⟨n, d, a, p, f⟩, l⟩ g)⟩)]⟩) (fun g => g ≤ i.toNat) (fun g => i.toNat - g) (· + 1) 0 (Nat.zero_le _) ?_ ?_
  · simp only [↓gPre, gPost, gCore, handV, V.bufs, buildArr, toCs, Nat.reduceShiftRight, Nat.reduceMod, addB, addK, zeroOp, callSem, resName, keepsB, newB, V.pure, C.pure, V.ptrs, C.ptrs, C.bufs, appendSem, appendTo, appendZ, dstOk, lk, V.cells, Op.eff, partV, partD, cut, lay, zeroD, C.toDs, C.toD, V.toD, toDs, buildCells, if_true, if_false, ↓reduceIte, reduceCtorEq, Nat.reduceEqDiff, Nat.reduceLT, Nat.reduceLeDiff, implies_true, forall_const, eq_self, ne_eq, not_true_eq_false, not_false_eq_true, imp_self, Nat.reduceAdd, Nat.reduceMul, Int.reduceLE, Int.reduceLT, Int.reduceNeg, Int.reduceAdd, Int.reduceToNat, E_padv_eq, E_pat_eq, E_frame_eq, E_clone_eq, Try.ntmps86, Try.results86, gTT]
    exact ⟨rfl, rfl, rfl⟩
  intro g hg
  simp only [↓gPre, gPost, gCore, handV, V.bufs, buildArr, toCs, Nat.reduceShiftRight, Nat.reduceMod, addB, addK, zeroOp, callSem, resName, keepsB, newB, V.pure, C.pure, V.ptrs, C.ptrs, C.bufs, appendSem, appendTo, appendZ, dstOk, lk, V.cells, Op.eff, partV, partD, cut, lay, zeroD, C.toDs, C.toD, V.toD, toDs, buildCells, if_true, if_false, ↓reduceIte, reduceCtorEq, Nat.reduceEqDiff, Nat.reduceLT, Nat.reduceLeDiff, implies_true, forall_const, eq_self, ne_eq, not_true_eq_false, not_false_eq_true, imp_self, Nat.reduceAdd, Nat.reduceMul, Int.reduceLE, Int.reduceLT, Int.reduceNeg, Int.reduceAdd, Int.reduceToNat, E_padv_eq, E_pat_eq, E_frame_eq, E_clone_eq, Try.ntmps86, Try.results86, gTT]
  refine ⟨fun h1 => ?_, fun h1 => ?_⟩
  · have hgi : (g : Int) < i := of_decide_eq_true h1
    have hg6 : g ≤ 65536 := by omega
    obtain ⟨q1, q2, q3⟩ := at_eq hp hg6
    have q4 := (qN_eq hp hg6).2
    simp only at q3
    rw [q3]
    have q5 : IntKind.i64.wrap (((qN ⟨n, d, a, p, f⟩ g : Nat) : Int) + 1) = ((qN ⟨n, d, a, p, f⟩ g + 1 : Nat) : Int) := by rw [IntWalk.i64_in _ (by omega)]; rfl
    rw [q5]
    have hl0 : 0 < l.length := hne (by omega)
    have hfa := frA_in hv hl hl0 (qN ⟨n, d, a, p, f⟩ g)
    have hfb := frA_in hv hl hl0 (qN ⟨n, d, a, p, f⟩ g + 1)
    simp only at hfa hfb
    have hfr0 := (qAt_in hp (n := (g : Int)) (by omega)).2
    have hfr : 0 ≤ fAt ⟨n, d, a, p, f⟩ g ∧ fAt ⟨n, d, a, p, f⟩ g < prt ⟨n, d, a, p, f⟩ := ⟨hfr0.1, hfr0.2.1⟩
    refine ⟨by kernel_rfl, ⟨hl, hv, hl0, by omega, by omega⟩, ⟨hl, hv, hl0, by omega, by omega⟩, ?_⟩
    rw [Int.toNat_natCast, Int.toNat_natCast]
    have hA : ∀ j, j < c.toNat → (List.take c.toNat (List.drop (frA ⟨c, ⟨n, d, a, p, f⟩, l⟩ (qN ⟨n, d, a, p, f⟩ g)) l))[j]?.getD 0 = gx ⟨c, ⟨n, d, a, p, f⟩, l⟩ (qN ⟨n, d, a, p, f⟩ g) j := fun j hj => by
      rw [List.getElem?_take_of_lt hj, List.getElem?_drop]; rfl
    have hB : ∀ j, j < c.toNat → (List.take c.toNat (List.drop (frA ⟨c, ⟨n, d, a, p, f⟩, l⟩ (qN ⟨n, d, a, p, f⟩ g + 1)) l))[j]?.getD 0 = gx ⟨c, ⟨n, d, a, p, f⟩, l⟩ (qN ⟨n, d, a, p, f⟩ g + 1) j := fun j hj => by
      rw [List.getElem?_take_of_lt hj, List.getElem?_drop]; rfl
    have hlA : (List.take c.toNat (List.drop (frA ⟨c, ⟨n, d, a, p, f⟩, l⟩ (qN ⟨n, d, a, p, f⟩ g)) l)).length = c.toNat := by rw [List.length_take, List.length_drop]; omega
    have hlB : (List.take c.toNat (List.drop (frA ⟨c, ⟨n, d, a, p, f⟩, l⟩ (qN ⟨n, d, a, p, f⟩ g + 1)) l)).length = c.toNat := by rw [List.length_take, List.length_drop]; omega
    generalize List.take c.toNat (List.drop (frA ⟨c, ⟨n, d, a, p, f⟩, l⟩ (qN ⟨n, d, a, p, f⟩ g)) l) = FA at *
    generalize List.take c.toNat (List.drop (frA ⟨c, ⟨n, d, a, p, f⟩, l⟩ (qN ⟨n, d, a, p, f⟩ g + 1)) l) = FB at *
    have hol := outO_len ⟨c, ⟨n, d, a, p, f⟩, l⟩ g
    simp only at hol
    have hgc := Nat.mul_le_mul (show g ≤ 65536 by omega) (show c.toNat ≤ 8 by omega)
    refine ELoop_keep (fun j => ⟨[(73, vI .i64 (j : Nat))], [(⟨1, 10⟩, [.d (.int .i64 c), .own ⟨1, 45⟩ (LI .i32 (outO ⟨c, ⟨n, d, a, p, f⟩, l⟩ g ++ outF ⟨c, ⟨n, d, a, p, f⟩, l⟩ g j))])], [(⟨1, 45⟩, ⟨false, 1, LI .i32 (outO ⟨c, ⟨n, d, a, p, f⟩, l⟩ g ++ outF ⟨c, ⟨n, d, a, p, f⟩, l⟩ g j)⟩)]⟩) (fun j => j ≤ c.toNat) (fun j => c.toNat - j) (· + 1) 0 (Nat.zero_le _) ?_ ?_
    · simp only [↓gPre, gPost, gCore, handV, V.bufs, buildArr, toCs, Nat.reduceShiftRight, Nat.reduceMod, addB, addK, zeroOp, callSem, resName, keepsB, newB, V.pure, C.pure, V.ptrs, C.ptrs, C.bufs, appendSem, appendTo, appendZ, dstOk, lk, V.cells, Op.eff, partV, partD, cut, lay, zeroD, C.toDs, C.toD, V.toD, toDs, buildCells, if_true, if_false, ↓reduceIte, reduceCtorEq, Nat.reduceEqDiff, Nat.reduceLT, Nat.reduceLeDiff, implies_true, forall_const, eq_self, ne_eq, not_true_eq_false, not_false_eq_true, imp_self, Nat.reduceAdd, Nat.reduceMul, Int.reduceLE, Int.reduceLT, Int.reduceNeg, Int.reduceAdd, Int.reduceToNat, E_padv_eq, E_pat_eq, E_frame_eq, E_clone_eq, Try.ntmps86, Try.results86, gTT]
      simp [outF]
    intro j hj
    simp only [↓gPre, gPost, gCore, handV, V.bufs, buildArr, toCs, Nat.reduceShiftRight, Nat.reduceMod, addB, addK, zeroOp, callSem, resName, keepsB, newB, V.pure, C.pure, V.ptrs, C.ptrs, C.bufs, appendSem, appendTo, appendZ, dstOk, lk, V.cells, Op.eff, partV, partD, cut, lay, zeroD, C.toDs, C.toD, V.toD, toDs, buildCells, if_true, if_false, ↓reduceIte, reduceCtorEq, Nat.reduceEqDiff, Nat.reduceLT, Nat.reduceLeDiff, implies_true, forall_const, eq_self, ne_eq, not_true_eq_false, not_false_eq_true, imp_self, Nat.reduceAdd, Nat.reduceMul, Int.reduceLE, Int.reduceLT, Int.reduceNeg, Int.reduceAdd, Int.reduceToNat, E_padv_eq, E_pat_eq, E_frame_eq, E_clone_eq, Try.ntmps86, Try.results86, gTT]
    have hfl := outF_len ⟨c, ⟨n, d, a, p, f⟩, l⟩ g j
    refine ⟨fun h2 => ?_, fun h2 => ?_⟩
    · have hjc : j < c.toNat := by have := of_decide_eq_true h2; omega
      have sA := smp_get k5 (frA ⟨c, ⟨n, d, a, p, f⟩, l⟩ (qN ⟨n, d, a, p, f⟩ g) + j)
      have sB := smp_get k5 (frA ⟨c, ⟨n, d, a, p, f⟩, l⟩ (qN ⟨n, d, a, p, f⟩ g + 1) + j)
      have hq := sumG_q (a := gx ⟨c, ⟨n, d, a, p, f⟩, l⟩ (qN ⟨n, d, a, p, f⟩ g) j) (b := gx ⟨c, ⟨n, d, a, p, f⟩, l⟩ (qN ⟨n, d, a, p, f⟩ g + 1) j) hpr hfr sA sB
      refine ⟨by kernel_rfl, ?_⟩
      rw [hA j hjc, hB j hjc, q2]
      have hs : outO ⟨c, ⟨n, d, a, p, f⟩, l⟩ g ++ outF ⟨c, ⟨n, d, a, p, f⟩, l⟩ g (j + 1) = outO ⟨c, ⟨n, d, a, p, f⟩, l⟩ g ++ outF ⟨c, ⟨n, d, a, p, f⟩, l⟩ g j ++ [btw (gx ⟨c, ⟨n, d, a, p, f⟩, l⟩ (qN ⟨n, d, a, p, f⟩ g) j) (gx ⟨c, ⟨n, d, a, p, f⟩, l⟩ (qN ⟨n, d, a, p, f⟩ g + 1) j) (fAt ⟨n, d, a, p, f⟩ g) (prt ⟨n, d, a, p, f⟩)] := by
        rw [outF_succ, List.append_assoc]; rfl
      rw [hs]
      unfold sumG at hq
      refine ⟨by omega, by omega, by decide, by omega, by omega, fun h3 => ?_, fun h3 => ?_⟩
      · rw [hq.1 h3]
        exact ⟨by unfold roomOK; rw [List.length_append]; omega, ⟨(wrapN _ (by omega)).symm, rfl, rfl⟩, by omega, by omega⟩
      · rw [hq.2 h3]
        exact ⟨by unfold roomOK; rw [List.length_append]; omega, ⟨(wrapN _ (by omega)).symm, rfl, rfl⟩, by omega, by omega⟩
    · have hjc : j = c.toNat := by have := of_decide_eq_false h2; omega
      subst hjc
      exact ⟨⟨(wrapN _ (by omega)).symm, rfl, rfl⟩, by omega, by omega⟩
  · have hgi : g = i.toNat := by have := of_decide_eq_false h1; omega
    have hq := qN_eq hp (g := i.toNat) (by omega)
    rw [hi2] at hq
    refine ⟨by kernel_rfl, ?_⟩
    have hpp : (adP ⟨n, d, a, p, f⟩ i).p - p = ((qN ⟨n, d, a, p, f⟩ i.toNat : Nat) : Int) := by rw [hadP, hq.1]; show p + _ - p = _; omega
    rw [hpp]
    have hgone : (if IntKind.i64.wrap (IntKind.i64.wrap ((qN ⟨n, d, a, p, f⟩ i.toNat : Nat) : Int) * c) < (l.length : Int) then IntKind.i64.wrap (IntKind.i64.wrap ((qN ⟨n, d, a, p, f⟩ i.toNat : Nat) : Int) * c) else (l.length : Int)) = ((min l.length (qN ⟨n, d, a, p, f⟩ i.toNat * c.toNat) : Nat) : Int) := by
      have hqc := Nat.mul_le_mul hq.2 (show c.toNat ≤ 8 by omega)
      rw [IntWalk.i64_in ((qN ⟨n, d, a, p, f⟩ i.toNat : Nat) : Int) (by omega)]
      have e : ((qN ⟨n, d, a, p, f⟩ i.toNat : Nat) : Int) * c = ((qN ⟨n, d, a, p, f⟩ i.toNat * c.toNat : Nat) : Int) := by rw [Int.natCast_mul, hc]
      rw [e, IntWalk.i64_in _ (by omega)]
      split <;> omega
    rw [hgone, Int.toNat_natCast]
    have htk : ∀ m, List.take (l.length - m) (List.drop m l) = List.drop m l := fun m => List.take_of_length_le (by rw [List.length_drop]; omega)
    rw [htk]
    refine ⟨⟨by omega, by omega, by omega⟩, by rw [List.length_drop]; omega, by kernel_rfl, ?_⟩
    simp [poC, poO, poR, poE, he, hgi]
def E_produceO : List V → Boxes → Toks → Name → Option Ent
  | [.agg [.d (.int .i64 c), .d (.int .i64 n), .d (.int .i64 d), .d (.int .i64 a), .d (.int .i64 p), .d (.int .i64 f), .d (.list q_l)], .c (.d (.int .i64 i))], [], [], nF => some ⟨(ints q_l).length ≤ 1000000 ∧ rsV ⟨c, ⟨n, d, a, p, f⟩, (ints q_l)⟩ = true ∧ (0 ≤ i ∧ i ≤ 65536) ∧ (0 < i → 0 < (ints q_l).length) ∧ poE ⟨c, ⟨n, d, a, p, f⟩, (ints q_l)⟩ i = 0 ∧ q_l = LI .i32 (ints q_l), .ts [some 2, some 7, none] [.d (.int .i64 (poC ⟨c, ⟨n, d, a, p, f⟩, (ints q_l)⟩ i)), .own nF (LI .i32 (poO ⟨c, ⟨n, d, a, p, f⟩, (ints q_l)⟩ i)), .d (.int .i64 (poR ⟨c, ⟨n, d, a, p, f⟩, (ints q_l)⟩ i).c), .d (.int .i64 (poR ⟨c, ⟨n, d, a, p, f⟩, (ints q_l)⟩ i).p.n), .d (.int .i64 (poR ⟨c, ⟨n, d, a, p, f⟩, (ints q_l)⟩ i).p.d), .d (.int .i64 (poR ⟨c, ⟨n, d, a, p, f⟩, (ints q_l)⟩ i).p.a), .d (.int .i64 (poR ⟨c, ⟨n, d, a, p, f⟩, (ints q_l)⟩ i).p.p), .d (.int .i64 (poR ⟨c, ⟨n, d, a, p, f⟩, (ints q_l)⟩ i).p.f), .d (.list (LI .i32 (poR ⟨c, ⟨n, d, a, p, f⟩, (ints q_l)⟩ i).l)), .d (.int .i64 (poE ⟨c, ⟨n, d, a, p, f⟩, (ints q_l)⟩ i))], [], [(nF, ⟨false, 1, LI .i32 (poO ⟨c, ⟨n, d, a, p, f⟩, (ints q_l)⟩ i)⟩)]⟩
  | _, _, _, _ => none
theorem E_produceO_eq {c n d a p f : Int} {i : Int}  {q_l : List D} {nF : Name} : E_produceO [.agg [.d (.int .i64 c), .d (.int .i64 n), .d (.int .i64 d), .d (.int .i64 a), .d (.int .i64 p), .d (.int .i64 f), .d (.list q_l)], .c (.d (.int .i64 i))] [] [] nF = some ⟨(ints q_l).length ≤ 1000000 ∧ rsV ⟨c, ⟨n, d, a, p, f⟩, (ints q_l)⟩ = true ∧ (0 ≤ i ∧ i ≤ 65536) ∧ (0 < i → 0 < (ints q_l).length) ∧ poE ⟨c, ⟨n, d, a, p, f⟩, (ints q_l)⟩ i = 0 ∧ q_l = LI .i32 (ints q_l), .ts [some 2, some 7, none] [.d (.int .i64 (poC ⟨c, ⟨n, d, a, p, f⟩, (ints q_l)⟩ i)), .own nF (LI .i32 (poO ⟨c, ⟨n, d, a, p, f⟩, (ints q_l)⟩ i)), .d (.int .i64 (poR ⟨c, ⟨n, d, a, p, f⟩, (ints q_l)⟩ i).c), .d (.int .i64 (poR ⟨c, ⟨n, d, a, p, f⟩, (ints q_l)⟩ i).p.n), .d (.int .i64 (poR ⟨c, ⟨n, d, a, p, f⟩, (ints q_l)⟩ i).p.d), .d (.int .i64 (poR ⟨c, ⟨n, d, a, p, f⟩, (ints q_l)⟩ i).p.a), .d (.int .i64 (poR ⟨c, ⟨n, d, a, p, f⟩, (ints q_l)⟩ i).p.p), .d (.int .i64 (poR ⟨c, ⟨n, d, a, p, f⟩, (ints q_l)⟩ i).p.f), .d (.list (LI .i32 (poR ⟨c, ⟨n, d, a, p, f⟩, (ints q_l)⟩ i).l)), .d (.int .i64 (poE ⟨c, ⟨n, d, a, p, f⟩, (ints q_l)⟩ i))], [], [(nF, ⟨false, 1, LI .i32 (poO ⟨c, ⟨n, d, a, p, f⟩, (ints q_l)⟩ i)⟩)]⟩ := Eq.trans rfl rfl
theorem E_produceO_ok : Snd Try.prog 86 E_produceO := by
  intro vs b k n e h hn hp
  unfold E_produceO at h
  split at h
  · cases h; obtain ⟨hp0, hp1, hp2, hp3, hp4, hq0⟩ := hp; obtain ⟨_, rfl⟩ := LI_ex hq0; simp only [ints_LI, bys_LB, blks_LK, lls_LL] at hp0 hp1 hp2 hp3 hp4 ⊢; exact Spec.ren1 (spec_produceO _ _ _ _ _ _ _ _ hp0 hp1 hp2 hp3 hp4) 9 (by simp [supOK, V.names, C.names, namesB, namesK]) (Nat.le_of_eq hn) 
  · cases h

theorem spec_takeO (c n d a p f : Int) (l : List Int) (i : Int) (hl : l.length ≤ 1000000) (ht : tkE ⟨c, ⟨n, d, a, p, f⟩, l⟩ i = 0) : Spec Try.prog 0 49 [.agg [.d (.int .i64 c), .d (.int .i64 n), .d (.int .i64 d), .d (.int .i64 a), .d (.int .i64 p), .d (.int .i64 f), .d (.list (LI .i32 l))], vI .i64 i] [] [] (.ts [some 2, some 7, none] [.d (.int .i64 (tkC ⟨c, ⟨n, d, a, p, f⟩, l⟩ i)), .own ⟨0, 9⟩ (LI .i32 (tkO ⟨c, ⟨n, d, a, p, f⟩, l⟩ i)), .d (.int .i64 (tkR ⟨c, ⟨n, d, a, p, f⟩, l⟩ i).c), .d (.int .i64 (tkR ⟨c, ⟨n, d, a, p, f⟩, l⟩ i).p.n), .d (.int .i64 (tkR ⟨c, ⟨n, d, a, p, f⟩, l⟩ i).p.d), .d (.int .i64 (tkR ⟨c, ⟨n, d, a, p, f⟩, l⟩ i).p.a), .d (.int .i64 (tkR ⟨c, ⟨n, d, a, p, f⟩, l⟩ i).p.p), .d (.int .i64 (tkR ⟨c, ⟨n, d, a, p, f⟩, l⟩ i).p.f), .d (.list (LI .i32 (tkR ⟨c, ⟨n, d, a, p, f⟩, l⟩ i).l)), .d (.int .i64 (tkE ⟨c, ⟨n, d, a, p, f⟩, l⟩ i))]) [] [(⟨0, 9⟩, ⟨false, 1, LI .i32 (tkO ⟨c, ⟨n, d, a, p, f⟩, l⟩ i)⟩)] := by
  refine spec_of_E_new (X := ⟨Try.prog, tt, Try.f49.ntmps, 1, fun _ => 0, (tab [(84, E_rscheck), (85, E_pneed), (86, E_produceO)])⟩) (M := []) (m := 4294984183) (r0 := .ts [some 2, some 7, none] [.d (.int .i64 (tkC ⟨c, ⟨n, d, a, p, f⟩, l⟩ i)), .own ⟨1, 37⟩ (LI .i32 (tkO ⟨c, ⟨n, d, a, p, f⟩, l⟩ i)), .d (.int .i64 (tkR ⟨c, ⟨n, d, a, p, f⟩, l⟩ i).c), .d (.int .i64 (tkR ⟨c, ⟨n, d, a, p, f⟩, l⟩ i).p.n), .d (.int .i64 (tkR ⟨c, ⟨n, d, a, p, f⟩, l⟩ i).p.d), .d (.int .i64 (tkR ⟨c, ⟨n, d, a, p, f⟩, l⟩ i).p.a), .d (.int .i64 (tkR ⟨c, ⟨n, d, a, p, f⟩, l⟩ i).p.p), .d (.int .i64 (tkR ⟨c, ⟨n, d, a, p, f⟩, l⟩ i).p.f), .d (.list (LI .i32 (tkR ⟨c, ⟨n, d, a, p, f⟩, l⟩ i).l)), .d (.int .i64 (tkE ⟨c, ⟨n, d, a, p, f⟩, l⟩ i))]) (b0 := []) (k0 := [(⟨1, 37⟩, ⟨false, 1, LI .i32 (tkO ⟨c, ⟨n, d, a, p, f⟩, l⟩ i)⟩)]) ⟨1, 37⟩ ⟨0, 9⟩ rfl rfl ⟨tt_ok, tab_ok (tabs_cons E_rscheck_ok (tabs_cons E_pneed_ok (tabs_cons E_produceO_ok tabs_nil))) _ rfl rfl⟩ tt_mixed Try.func49 rfl (by decide) (by show (2 : Nat) ≤ _; exact Nat.le_of_ble_eq_true rfl) rfl rfl rfl ⟨by simp [V.has, C.has], by simp [C.has], by simp⟩ (by decide) (by simp [V.names, C.names, namesB, namesK]) (by simp [lk]) (by simp [lk]) (by simp [lk]) ?_
  simp only [↓gPre, gPost, gCore, handV, V.bufs, buildArr, toCs, Nat.reduceShiftRight, Nat.reduceMod, addB, addK, zeroOp, callSem, resName, keepsB, newB, V.pure, C.pure, V.ptrs, C.ptrs, C.bufs, appendSem, appendTo, appendZ, dstOk, lk, V.cells, Op.eff, partV, partD, cut, lay, zeroD, C.toDs, C.toD, V.toD, toDs, buildCells, if_true, if_false, ↓reduceIte, reduceCtorEq, Nat.reduceEqDiff, Nat.reduceLT, Nat.reduceLeDiff, implies_true, forall_const, eq_self, ne_eq, not_true_eq_false, not_false_eq_true, imp_self, Nat.reduceAdd, Nat.reduceMul, Int.reduceLE, Int.reduceLT, Int.reduceNeg, Int.reduceAdd, Int.reduceToNat, E_rscheck_eq, E_pneed_eq, E_produceO_eq, Try.ntmps49, Try.results49, gTT]
  refine ⟨hl, fun h => ?_, fun h => ?_⟩
  · have hne : rcE ⟨c, ⟨n, d, a, p, f⟩, l⟩ i ≠ 0 := by simpa using h
    exact absurd (tkE_po ht).1 hne
  have he : rcE ⟨c, ⟨n, d, a, p, f⟩, l⟩ i = 0 := by simpa using h
  obtain ⟨hv, hi⟩ := rcE_ok he
  obtain ⟨⟨k1, k2⟩, k3, k4, k5⟩ := blk_in (rsV_in hv).2 hl
  have hp := (rsV_in hv).1
  simp only at k1 k2 hp k3
  have hN : neE ⟨n, d, a, p, f⟩ i = ned ⟨n, d, a, p, f⟩ i := by unfold neE; rw [if_pos (phC_of hp hi)]
  have hpo := tkE_po ht
  simp only at hpo
  rw [len_div k1 (by omega), hN]
  refine ⟨by omega, fun h2 => ?_, fun h2 => ?_⟩
  · have := of_decide_eq_true h2
    omega
  have hne : 0 < i → 0 < l.length := fun h0 => by
    have h3 := ned_two hp (n := i) (by omega)
    have h4 := of_decide_eq_false h2
    rcases Nat.eq_zero_or_pos l.length with h5 | h5
    · rw [h5, Nat.zero_div] at h4; simp at h4; omega
    · exact h5
  refine ⟨⟨hl, hv, hi, hne, hpo.2.1⟩, ?_⟩
  simp [tkC, tkO, tkR, ht, hpo.2.1, poC, poO]
def E_takeO : List V → Boxes → Toks → Name → Option Ent
  | [.agg [.d (.int .i64 c), .d (.int .i64 n), .d (.int .i64 d), .d (.int .i64 a), .d (.int .i64 p), .d (.int .i64 f), .d (.list q_l)], .c (.d (.int .i64 i))], [], [], nF => some ⟨(ints q_l).length ≤ 1000000 ∧ tkE ⟨c, ⟨n, d, a, p, f⟩, (ints q_l)⟩ i = 0 ∧ q_l = LI .i32 (ints q_l), .ts [some 2, some 7, none] [.d (.int .i64 (tkC ⟨c, ⟨n, d, a, p, f⟩, (ints q_l)⟩ i)), .own nF (LI .i32 (tkO ⟨c, ⟨n, d, a, p, f⟩, (ints q_l)⟩ i)), .d (.int .i64 (tkR ⟨c, ⟨n, d, a, p, f⟩, (ints q_l)⟩ i).c), .d (.int .i64 (tkR ⟨c, ⟨n, d, a, p, f⟩, (ints q_l)⟩ i).p.n), .d (.int .i64 (tkR ⟨c, ⟨n, d, a, p, f⟩, (ints q_l)⟩ i).p.d), .d (.int .i64 (tkR ⟨c, ⟨n, d, a, p, f⟩, (ints q_l)⟩ i).p.a), .d (.int .i64 (tkR ⟨c, ⟨n, d, a, p, f⟩, (ints q_l)⟩ i).p.p), .d (.int .i64 (tkR ⟨c, ⟨n, d, a, p, f⟩, (ints q_l)⟩ i).p.f), .d (.list (LI .i32 (tkR ⟨c, ⟨n, d, a, p, f⟩, (ints q_l)⟩ i).l)), .d (.int .i64 (tkE ⟨c, ⟨n, d, a, p, f⟩, (ints q_l)⟩ i))], [], [(nF, ⟨false, 1, LI .i32 (tkO ⟨c, ⟨n, d, a, p, f⟩, (ints q_l)⟩ i)⟩)]⟩
  | _, _, _, _ => none
theorem E_takeO_eq {c n d a p f : Int} {i : Int}  {q_l : List D} {nF : Name} : E_takeO [.agg [.d (.int .i64 c), .d (.int .i64 n), .d (.int .i64 d), .d (.int .i64 a), .d (.int .i64 p), .d (.int .i64 f), .d (.list q_l)], .c (.d (.int .i64 i))] [] [] nF = some ⟨(ints q_l).length ≤ 1000000 ∧ tkE ⟨c, ⟨n, d, a, p, f⟩, (ints q_l)⟩ i = 0 ∧ q_l = LI .i32 (ints q_l), .ts [some 2, some 7, none] [.d (.int .i64 (tkC ⟨c, ⟨n, d, a, p, f⟩, (ints q_l)⟩ i)), .own nF (LI .i32 (tkO ⟨c, ⟨n, d, a, p, f⟩, (ints q_l)⟩ i)), .d (.int .i64 (tkR ⟨c, ⟨n, d, a, p, f⟩, (ints q_l)⟩ i).c), .d (.int .i64 (tkR ⟨c, ⟨n, d, a, p, f⟩, (ints q_l)⟩ i).p.n), .d (.int .i64 (tkR ⟨c, ⟨n, d, a, p, f⟩, (ints q_l)⟩ i).p.d), .d (.int .i64 (tkR ⟨c, ⟨n, d, a, p, f⟩, (ints q_l)⟩ i).p.a), .d (.int .i64 (tkR ⟨c, ⟨n, d, a, p, f⟩, (ints q_l)⟩ i).p.p), .d (.int .i64 (tkR ⟨c, ⟨n, d, a, p, f⟩, (ints q_l)⟩ i).p.f), .d (.list (LI .i32 (tkR ⟨c, ⟨n, d, a, p, f⟩, (ints q_l)⟩ i).l)), .d (.int .i64 (tkE ⟨c, ⟨n, d, a, p, f⟩, (ints q_l)⟩ i))], [], [(nF, ⟨false, 1, LI .i32 (tkO ⟨c, ⟨n, d, a, p, f⟩, (ints q_l)⟩ i)⟩)]⟩ := Eq.trans rfl rfl
theorem E_takeO_ok : Snd Try.prog 49 E_takeO := by
  intro vs b k n e h hn hp
  unfold E_takeO at h
  split at h
  · cases h; obtain ⟨hp0, hp1, hq0⟩ := hp; obtain ⟨_, rfl⟩ := LI_ex hq0; simp only [ints_LI, bys_LB, blks_LK, lls_LL] at hp0 hp1 ⊢; exact Spec.ren1 (spec_takeO _ _ _ _ _ _ _ _ hp0 hp1) 9 (by simp [supOK, V.names, C.names, namesB, namesK]) (Nat.le_of_eq hn) 
  · cases h

end Go.Vam
