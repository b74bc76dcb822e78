/- The law BridgeCounts gives true. Conditions: none. -/
import Derived.Test.YtmlmgpnkemdilaaBdgL
set_option linter.unusedVariables false
set_option linter.unusedSimpArgs false
set_option maxRecDepth 40000
set_option maxHeartbeats 4000000
namespace Go.Vam
open Go.Proofs

/-- What an operation asks for; the state behind some operations. -/
def ctN (o : UInt8) : Int := ((o.toNat / 2 % 24 : Nat) : Int)
def ctO (s : List UInt8) (k : Nat) : UInt8 := s[k]?.getD 0
def ctW (k : Nat) (ch : Int) (o : UInt8) : List Int := waO k ch 0 (ctN o).toNat
def ctB (x0 : Br) (s : List UInt8) : Nat → Br
  | 0 => x0
  | k + 1 => if (ctO s k).toNat % 2 = 0 then puR (ctB x0 s k) (ctB x0 s k).r.c (ctW k (ctB x0 s k).r.c (ctO s k)) else plR (ctB x0 s k) (ctN (ctO s k))
def ctP (s : List UInt8) : Nat → Int
  | 0 => 0
  | k + 1 => if (ctO s k).toNat % 2 = 0 then ctP s k + ctN (ctO s k) else ctP s k
def ctL (x0 : Br) (s : List UInt8) : Nat → Int
  | 0 => 0
  | k + 1 => if (ctO s k).toNat % 2 = 0 then ctL x0 s k + puL (ctB x0 s k) (ctB x0 s k).r.c (ctW k (ctB x0 s k).r.c (ctO s k)) else ctL x0 s k
def ctM (x0 : Br) (s : List UInt8) : Nat → Int
  | 0 => 0
  | k + 1 => if (ctO s k).toNat % 2 = 0 then ctM x0 s k else ctM x0 s k + plM (ctB x0 s k) (ctN (ctO s k))
theorem ctN_in (o : UInt8) : 0 ≤ ctN o ∧ ctN o < 24 := by
  unfold ctN
  omega
structure okC (x0 : Br) (ch : Int) (s : List UInt8) (k : Nat) : Prop where
  ok : okB (ctB x0 s k) ch (1000 + 24 * (k : Int))
  p : 0 ≤ ctP s k ∧ ctP s k ≤ 24 * (k : Int)
  l : 0 ≤ ctL x0 s k ∧ ctL x0 s k ≤ 24 * (k : Int)
  m : 0 ≤ ctM x0 s k ∧ ctM x0 s k ≤ 24 * (k : Int)
  lo : (ctB x0 s k).lo = x0.lo + ctL x0 s k
  mi : (ctB x0 s k).mi = x0.mi + ctM x0 s k
  w : waN (ctB x0 s k).r + (ctB x0 s k).r.p.p = waN x0.r + x0.r.p.p + ctP s k - ctL x0 s k
theorem ct_mach (o : UInt8) : (IntKind.i64.wrap (((o.toNat : Nat) : Int).fdiv (2 ^ Nat.min 1 IntKind.u8.bits))).tmod 24 = ctN o := by
  have h : o.toNat < 256 := o.toNat_lt
  have e : (2 : Int) ^ Nat.min 1 IntKind.u8.bits = 2 := rfl
  have e2 : ((o.toNat : Nat) : Int).fdiv 2 = ((o.toNat / 2 : Nat) : Int) := by
    rw [Int.fdiv_eq_ediv_of_nonneg _ (by decide)]
    omega
  rw [e, e2, IntWalk.i64_in _ (by omega), Int.tmod_eq_emod_of_nonneg (Int.natCast_nonneg _)]
  unfold ctN
  omega
theorem ct_even {o : UInt8} : (((o.toNat : Nat) : Int).tmod 2 == 0) = true ↔ o.toNat % 2 = 0 := by
  rw [Int.tmod_eq_emod_of_nonneg (Int.natCast_nonneg _), beq_iff_eq]
  omega
theorem outO_all {x : Rs} (h : phV x.p = true) (ha : x.l.all smpX = true) : ∀ n : Nat, n ≤ 65536 → (outO x n).all smpX = true
  | 0, _ => rfl
  | n + 1, hn => by
    have e : outO x (n + 1) = outO x n ++ outF x n x.c.toNat := rfl
    rw [e, List.all_append, outO_all h ha n (by omega), Bool.true_and, List.all_eq_true]
    intro z hz
    unfold outF at hz
    rw [List.mem_map] at hz
    obtain ⟨j, _, rfl⟩ := hz
    have hp := prt_in h
    have hq := qAt_in h (n := (n : Int)) (by omega)
    have := btw_in (a := gx x (qN x.p n) j) (b := gx x (qN x.p n + 1) j) (f := fAt x.p n) (P := prt x.p) (by omega) ⟨hq.2.1, hq.2.2.1⟩ (smp_get ha _) (smp_get ha _)
    simp only [smpX, Bool.and_eq_true, decide_eq_true_eq]
    exact this
theorem plO_all {x : Br} (hv : brV x = true) (hl : x.r.l.length ≤ 1000000) (i : Int) : (plO x i).all smpX = true := by
  unfold plO
  split
  · rename_i h
    rw [List.all_append, Bool.and_eq_true]
    refine ⟨outO_all (rsV_in (plA_V hv)).1 (blk_in (rsV_in (brV_in hv).1).2 hl).2.2.2 _ ?_, ?_⟩
    · have := plK_in hv hl (plE_ok h).2.1
      have := (plE_ok h).2.1
      omega
    · rw [List.all_eq_true]
      intro z hz
      rw [List.eq_of_mem_replicate hz]
      decide
  · rfl
theorem ctW_ok {ch : Int} (hc : 1 ≤ ch ∧ ch ≤ 8) (k : Nat) (o : UInt8) : (ctW k ch o).length = (ctN o).toNat * ch.toNat ∧ (ctW k ch o).all smpX = true ∧ (ctN o).toNat ≤ 23 ∧ (((ctN o).toNat : Nat) : Int) = ctN o := by
  have h := ctN_in o
  exact ⟨waO_len _ _ _ _, waO_all _ _ _ _, by omega, by omega⟩
theorem ct_push {x0 : Br} {ch : Int} {s : List UInt8} {k : Nat} (hc : 1 ≤ ch ∧ ch ≤ 8) (hk : k ≤ 20) (h : okC x0 ch s k) :
    puE (ctB x0 s k) (ctB x0 s k).r.c (ctW k (ctB x0 s k).r.c (ctO s k)) = 0 ∧ 0 ≤ puL (ctB x0 s k) (ctB x0 s k).r.c (ctW k (ctB x0 s k).r.c (ctO s k)) ∧ puL (ctB x0 s k) (ctB x0 s k).r.c (ctW k (ctB x0 s k).r.c (ctO s k)) ≤ ctN (ctO s k) ∧ ((ctO s k).toNat % 2 = 0 → okC x0 ch s (k + 1)) := by
  have ok := h.ok
  rw [ok.c]
  obtain ⟨w1, w2, w3, w4⟩ := ctW_ok hc k (ctO s k)
  have hp := push_ok ok hc w1 (by omega) w2 (by omega)
  obtain ⟨p1, p2, p3, p4, p5, p6, p7, p8, p9, p10, p11, p12, p13⟩ := hp
  have hp1 := h.p
  have hp2 := h.l
  have hp3 := h.m
  have hlo := h.lo
  have hmi := h.mi
  have hw := h.w
  refine ⟨p1, by omega, by omega, fun he => ?_⟩
  have e1 : ctB x0 s (k + 1) = puR (ctB x0 s k) ch (ctW k ch (ctO s k)) := by rw [ctB, if_pos he, ok.c]
  have e2 : ctP s (k + 1) = ctP s k + ctN (ctO s k) := by rw [ctP, if_pos he]
  have e3 : ctL x0 s (k + 1) = ctL x0 s k + puL (ctB x0 s k) ch (ctW k ch (ctO s k)) := by rw [ctL, if_pos he, ok.c]
  have e4 : ctM x0 s (k + 1) = ctM x0 s k := by rw [ctM, if_pos he]
  have e5 : (puR (ctB x0 s k) ch (ctW k ch (ctO s k))).r.p.p = (ctB x0 s k).r.p.p := by rw [p9]
  exact ⟨by rw [e1]; exact okB_mono p2 (by omega), by rw [e2]; omega, by rw [e3]; omega, by rw [e4]; omega, by rw [e1, e3]; omega, by rw [e1, e4]; omega, by rw [e1, e2, e3, e5]; omega⟩
theorem ct_pull {x0 : Br} {ch : Int} {s : List UInt8} {k : Nat} (hc : 1 ≤ ch ∧ ch ≤ 8) (hk : k ≤ 20) (h : okC x0 ch s k) :
    plE (ctB x0 s k) (ctN (ctO s k)) = 0 ∧ 0 ≤ plM (ctB x0 s k) (ctN (ctO s k)) ∧ plM (ctB x0 s k) (ctN (ctO s k)) ≤ ctN (ctO s k) ∧ plC (ctB x0 s k) (ctN (ctO s k)) = ch ∧ (plO (ctB x0 s k) (ctN (ctO s k))).length = (ctN (ctO s k)).toNat * ch.toNat ∧ (¬ (ctO s k).toNat % 2 = 0 → okC x0 ch s (k + 1)) := by
  have ok := h.ok
  obtain ⟨w1, w2, w3, w4⟩ := ctW_ok hc k (ctO s k)
  have hp := pull_ok ok hc (i := ctN (ctO s k)) (by omega) (by omega)
  obtain ⟨p1, p2, p3, p4, p5, p6, p7, p8, p9, p10, p11, p12, p13⟩ := hp
  have hp1 := h.p
  have hp2 := h.l
  have hp3 := h.m
  have hlo := h.lo
  have hmi := h.mi
  have hw := h.w
  have hO : (plO (ctB x0 s k) (ctN (ctO s k))).length = (ctN (ctO s k)).toNat * ch.toNat := by
    unfold plO
    have e : (outO (plA (ctB x0 s k)) (plK (ctB x0 s k) (ctN (ctO s k))).toNat).length = (plK (ctB x0 s k) (ctN (ctO s k))).toNat * (ctB x0 s k).r.c.toNat := outO_len _ _
    rw [if_pos p1, List.length_append, List.length_replicate, e, ok.c, ← Nat.add_mul]
    congr 1
    omega
  refine ⟨p1, by omega, by omega, by unfold plC; rw [if_pos p1]; exact ok.c, hO, fun he => ?_⟩
  have e1 : ctB x0 s (k + 1) = plR (ctB x0 s k) (ctN (ctO s k)) := by rw [ctB, if_neg he]
  have e2 : ctP s (k + 1) = ctP s k := by rw [ctP, if_neg he]
  have e3 : ctL x0 s (k + 1) = ctL x0 s k := by rw [ctL, if_neg he]
  have e4 : ctM x0 s (k + 1) = ctM x0 s k + plM (ctB x0 s k) (ctN (ctO s k)) := by rw [ctM, if_neg he]
  exact ⟨by rw [e1]; exact okB_mono p2 (by omega), by rw [e2]; omega, by rw [e3]; omega, by rw [e4]; omega, by rw [e1, e3]; omega, by rw [e1, e4]; omega, by rw [e1, e2, e3]; omega⟩
theorem ct_ok {x0 : Br} {ch : Int} {s : List UInt8} (hc : 1 ≤ ch ∧ ch ≤ 8) (h0 : okB x0 ch 1000) : ∀ k : Nat, k ≤ 20 → okC x0 ch s k
  | 0, _ => ⟨by show okB x0 ch _; simpa using h0, by simp [ctP], by simp [ctL], by simp [ctM], by simp [ctL, ctB], by simp [ctM, ctB], by simp [ctB, ctP, ctL]⟩
  | k + 1, hk => by
    have h := ct_ok hc h0 k (by omega) (s := s)
    by_cases he : (ctO s k).toNat % 2 = 0
    · exact (ct_push hc (by omega) h).2.2.2 he
    · exact (ct_pull hc (by omega) h).2.2.2.2.2 he


theorem spec_counts19 (s o : List UInt8) : Spec Try.prog 0 4 [vL (LB s), vL (LB o)] [] [] (vB true) [] [] := by
  refine spec_of_E (X := ⟨Try.prog, tt, Try.f4.ntmps, 1, fun _ => 0, (tab [(8, E_sane), (11, E_new), (12, E_made), (23, E_brfill), (15, E_push), (13, E_wave), (18, E_pull), (27, E_frames)])⟩) (M := [(13, [0, 0, 0, 0, 0, 20282409608378621009318478086131, 0, 0, 0, 0, 0, 20282409608378072696063845728243, 0, 0, 0, 0]), (17, [0, 0, 0, 0, 0, 20282700959496564596428825952243, 0, 0, 0, 0, 0, 20282641722131403479599265349619, 0, 0]), (18, [0, 0, 0, 0, 0, 40554915691711424852545780056051, 0, 0, 0, 0, 0, 39930993911911593193996621447155, 0, 0, 0, 0, 0]), (23, [0, 0, 0, 0, 0, 89202980627989275502636763015088361210642419, 0, 0, 0, 0, 0, 89202966172634821341676645186186580661895155, 0, 0, 0, 0, 0, 89202300229408933098824320378849380209262579, 0, 0, 0, 0, 0, 89138327144427796667693205952652207785508851, 0, 0, 0, 0, 0, 86590292780923809453279456892203127418126323, 0, 0, 0, 0])]) (m := 20282409608374037470797721763827) rfl rfl ⟨tt_ok, tab_ok (tabs_cons E_sane_ok (tabs_cons E_new_ok (tabs_cons E_made_ok (tabs_cons E_brfill_ok (tabs_cons E_push_ok (tabs_cons E_wave_ok (tabs_cons E_pull_ok (tabs_cons E_frames_ok tabs_nil)))))))) _ rfl rfl⟩ tt_mixed Try.func4 rfl (by decide) (by show (2 : Nat) ≤ _; exact Nat.le_of_ble_eq_true rfl) ⟨fun m hm => (V.bare_has rfl m hm).elim, by simp, by simp⟩ ?_
  simp only [↓gPre, gPost, gCore, handV, V.bufs, buildArr, toCs, Nat.reduceShiftRight, Nat.reduceMod, addB, addK, zeroOp, callSem, resName, keepsB, newB, V.pure, C.pure, V.ptrs, C.ptrs, C.bufs, appendSem, appendTo, appendZ, dstOk, lk, V.cells, Op.eff, partV, partD, cut, lay, zeroD, C.toDs, C.toD, V.toD, toDs, buildCells, if_true, if_false, ↓reduceIte, reduceCtorEq, Nat.reduceEqDiff, Nat.reduceLT, Nat.reduceLeDiff, implies_true, forall_const, eq_self, ne_eq, not_true_eq_false, not_false_eq_true, imp_self, Nat.reduceAdd, Nat.reduceMul, Int.reduceLE, Int.reduceLT, Int.reduceNeg, Int.reduceAdd, Int.reduceToNat, E_sane_eq, E_new_eq, E_made_eq, E_brfill_eq, E_push_eq, E_wave_eq, E_pull_eq, E_frames_eq, rs_eta, ph_eta, ct_eta, br_eta, Try.ntmps4, Try.results4, gTT]
  intro h0
  have hL : o.length ≤ 20 := by have := of_decide_eq_false h0; omega
  have hX := bmX_ok (List.take 300 s)
  have hcc := bmC_in (List.take 300 s)
  refine ⟨by kernel_rfl, by have := hX.len; omega, ?_⟩
  refine ELoop_keep (fun g => ⟨[(38, vI .i64 (g : Nat)), (8, vI .i64 (ctP o g)), (9, vI .i64 (ctL (bmX (List.take 300 s)) o g)), (10, vI .i64 (ctM (bmX (List.take 300 s)) o g))], [(⟨1, 5⟩, [.d (.int .i64 (ctB (bmX (List.take 300 s)) o g).q), .d (.int .i64 (ctB (bmX (List.take 300 s)) o g).c.t), .d (.int .i64 (ctB (bmX (List.take 300 s)) o g).c.d), .d (.int .i64 (ctB (bmX (List.take 300 s)) o g).c.g), .d (.int .i64 (ctB (bmX (List.take 300 s)) o g).c.m), .d (.int .i64 (ctB (bmX (List.take 300 s)) o g).r.c), .d (.int .i64 (ctB (bmX (List.take 300 s)) o g).r.p.n), .d (.int .i64 (ctB (bmX (List.take 300 s)) o g).r.p.d), .d (.int .i64 (ctB (bmX (List.take 300 s)) o g).r.p.a), .d (.int .i64 (ctB (bmX (List.take 300 s)) o g).r.p.p), .d (.int .i64 (ctB (bmX (List.take 300 s)) o g).r.p.f), .d (.list (LI .i32 (ctB (bmX (List.take 300 s)) o g).r.l)), .d (.int .i64 (ctB (bmX (List.take 300 s)) o g).lo), .d (.int .i64 (ctB (bmX (List.take 300 s)) o g).mi)])], []⟩) (fun g => g ≤ o.length) (fun g => o.length - g) (· + 1) 0 (Nat.zero_le _) ?_ ?_
  · simp only [↓gPre, gPost, gCore, handV, V.bufs, buildArr, toCs, Nat.reduceShiftRight, Nat.reduceMod, addB, addK, zeroOp, callSem, resName, keepsB, newB, V.pure, C.pure, V.ptrs, C.ptrs, C.bufs, appendSem, appendTo, appendZ, dstOk, lk, V.cells, Op.eff, partV, partD, cut, lay, zeroD, C.toDs, C.toD, V.toD, toDs, buildCells, if_true, if_false, ↓reduceIte, reduceCtorEq, Nat.reduceEqDiff, Nat.reduceLT, Nat.reduceLeDiff, implies_true, forall_const, eq_self, ne_eq, not_true_eq_false, not_false_eq_true, imp_self, Nat.reduceAdd, Nat.reduceMul, Int.reduceLE, Int.reduceLT, Int.reduceNeg, Int.reduceAdd, Int.reduceToNat, E_sane_eq, E_new_eq, E_made_eq, E_brfill_eq, E_push_eq, E_wave_eq, E_pull_eq, E_frames_eq, rs_eta, ph_eta, ct_eta, br_eta, Try.ntmps4, Try.results4, gTT]
    exact ⟨⟨rfl, rfl, rfl, rfl⟩, rfl, rfl, rfl, rfl, rfl, rfl, rfl, rfl, rfl, rfl, rfl, rfl, rfl, rfl⟩
  intro g hg
  simp only [↓gPre, gPost, gCore, handV, V.bufs, buildArr, toCs, Nat.reduceShiftRight, Nat.reduceMod, addB, addK, zeroOp, callSem, resName, keepsB, newB, V.pure, C.pure, V.ptrs, C.ptrs, C.bufs, appendSem, appendTo, appendZ, dstOk, lk, V.cells, Op.eff, partV, partD, cut, lay, zeroD, C.toDs, C.toD, V.toD, toDs, buildCells, if_true, if_false, ↓reduceIte, reduceCtorEq, Nat.reduceEqDiff, Nat.reduceLT, Nat.reduceLeDiff, implies_true, forall_const, eq_self, ne_eq, not_true_eq_false, not_false_eq_true, imp_self, Nat.reduceAdd, Nat.reduceMul, Int.reduceLE, Int.reduceLT, Int.reduceNeg, Int.reduceAdd, Int.reduceToNat, E_sane_eq, E_new_eq, E_made_eq, E_brfill_eq, E_push_eq, E_wave_eq, E_pull_eq, E_frames_eq, rs_eta, ph_eta, ct_eta, br_eta, Try.ntmps4, Try.results4, gTT]
  have hok := ct_ok (s := o) (x0 := bmX (List.take 300 s)) (ch := bmC (List.take 300 s)) (by omega) hX g (by omega)
  have hpu := ct_push (by omega) (by omega) hok
  have hpl := ct_pull (by omega) (by omega) hok
  obtain ⟨w1, w2, w3, w4⟩ := ctW_ok (ch := (ctB (bmX (List.take 300 s)) o g).r.c) (by rw [hok.ok.c]; omega) g (ctO o g)
  have hn := ctN_in (ctO o g)
  have hch := hok.ok.c
  have hlen := hok.ok.len
  have hp1 := hok.p
  have hp2 := hok.l
  have hp3 := hok.m
  rw [ct_mach]
  have ew : waO (g : Int) (ctB (bmX (List.take 300 s)) o g).r.c 0 (ctN (o[g]?.getD 0)).toNat = ctW g (ctB (bmX (List.take 300 s)) o g).r.c (ctO o g) := rfl
  rw [ew]
  have eo : o[g]?.getD 0 = ctO o g := rfl
  rw [eo]
  have hwl := Nat.mul_le_mul w3 (show (ctB (bmX (List.take 300 s)) o g).r.c.toNat ≤ 8 by omega)
  refine ⟨fun h1 => ?_, fun h1 => ?_⟩
  · have hg1 := of_decide_eq_true h1
    have hg2 : g + 1 ≤ o.length := by omega
    refine ⟨⟨by omega, hg1⟩, by decide, by decide, fun h2 => ?_, fun h2 => ?_⟩
    · have he : (ctO o g).toNat % 2 = 0 := ct_even.1 h2
      have hnx := hpu.2.2.2 he
      have e1 : ctB (bmX (List.take 300 s)) o (g + 1) = puR (ctB (bmX (List.take 300 s)) o g) (ctB (bmX (List.take 300 s)) o g).r.c (ctW g (ctB (bmX (List.take 300 s)) o g).r.c (ctO o g)) := by rw [ctB, if_pos he]
      have e2 : ctP o (g + 1) = ctP o g + ctN (ctO o g) := by rw [ctP, if_pos he]
      have e3 : ctL (bmX (List.take 300 s)) o (g + 1) = ctL (bmX (List.take 300 s)) o g + puL (ctB (bmX (List.take 300 s)) o g) (ctB (bmX (List.take 300 s)) o g).r.c (ctW g (ctB (bmX (List.take 300 s)) o g).r.c (ctO o g)) := by rw [ctL, if_pos he]
      have e4 : ctM (bmX (List.take 300 s)) o (g + 1) = ctM (bmX (List.take 300 s)) o g := by rw [ctM, if_pos he]
      rw [e1, e2, e3, e4]
      refine ⟨by kernel_rfl, ⟨⟨by omega, by omega⟩, ⟨by omega, by omega⟩, by omega, by omega⟩, ⟨by omega, by omega⟩, fun h3 => ?_, fun h3 => ⟨⟨⟨(wrapN _ (by omega)).symm, by rw [IntWalk.i64_in _ (by omega)], by rw [IntWalk.i64_in _ (by omega)], rfl⟩, rfl, rfl, rfl, rfl, rfl, rfl, rfl, rfl, rfl, rfl, rfl, rfl, rfl, rfl⟩, hg2, by omega⟩⟩
      rw [hpu.1] at h3
      simp only [Bool.or_eq_true, decide_eq_true_eq] at h3
      rcases h3 with (h3 | h3) | h3
      · exact absurd h3 (by decide)
      · omega
      · omega
    · have he : ¬ (ctO o g).toNat % 2 = 0 := fun h => by rw [ct_even.2 h] at h2; cases h2
      have e1 : ctB (bmX (List.take 300 s)) o (g + 1) = plR (ctB (bmX (List.take 300 s)) o g) (ctN (ctO o g)) := by rw [ctB, if_neg he]
      have e2 : ctP o (g + 1) = ctP o g := by rw [ctP, if_neg he]
      have e3 : ctL (bmX (List.take 300 s)) o (g + 1) = ctL (bmX (List.take 300 s)) o g := by rw [ctL, if_neg he]
      have e4 : ctM (bmX (List.take 300 s)) o (g + 1) = ctM (bmX (List.take 300 s)) o g + plM (ctB (bmX (List.take 300 s)) o g) (ctN (ctO o g)) := by rw [ctM, if_neg he]
      have hol := hpl.2.2.2.2.1
      have hob := Nat.mul_le_mul (show (ctN (ctO o g)).toNat ≤ 24 by omega) (show (bmC (List.take 300 s)).toNat ≤ 8 by omega)
      rw [e1, e2, e3, e4]
      refine ⟨by omega, fun _ => by omega, fun h3 => ?_, fun h3 => ⟨⟨⟨(wrapN _ (by omega)).symm, rfl, rfl, by rw [IntWalk.i64_in _ (by omega)]⟩, rfl, rfl, rfl, rfl, rfl, rfl, rfl, rfl, rfl, rfl, rfl, rfl, rfl, rfl⟩, hg2, by omega⟩⟩
      have hbv : blkV (bmC (List.take 300 s)) (plO (ctB (bmX (List.take 300 s)) o g) (ctN (ctO o g))) = true := blkV_mk (by omega) hol (by omega) (plO_all hok.ok.v (by omega) _)
      rw [hpl.1, hpl.2.2.2.1, hbv, if_pos rfl, hol, Nat.mul_div_cancel _ (by omega)] at h3
      simp only [Bool.or_eq_true, decide_eq_true_eq] at h3
      rcases h3 with ((h3 | h3) | h3) | h3
      · exact absurd h3 (by decide)
      · omega
      · omega
      · simp at h3; omega
  · have hgo : g = o.length := by have := of_decide_eq_false h1; omega
    have hlo := hok.lo
    have hmi := hok.mi
    have hw := hok.w
    have hXl := hX.len
    have hXf := hX.far
    have b0 := brV_in hX.v
    have b1 := brV_in hok.ok.v
    have a0 := waN_V b0.1 (by omega)
    have a1 := waN_V b1.1 (by omega)
    have f1 := hok.ok.far
    have p0 := (phV_in (rsV_in b0.1).1).2.2.2.1
    have p1 := (phV_in (rsV_in b1.1).1).2.2.2.1
    have l1 := hok.ok.lo
    have m1 := hok.ok.mi
    have x1 := hX.lo
    have x2 := hX.mi
    have e1 : biN (bmX (List.take 300 s)) = waN (bmX (List.take 300 s)).r := by unfold biN; rw [if_pos hX.v]
    have e2 : biN (ctB (bmX (List.take 300 s)) o g) = waN (ctB (bmX (List.take 300 s)) o g).r := by unfold biN; rw [if_pos hok.ok.v]
    refine ⟨by kernel_rfl, fun _ => by omega, ?_⟩
    rw [e1, e2]
    rw [IntWalk.i64_in (_ - (bmX (List.take 300 s)).lo) (by omega), IntWalk.i64_in (_ - (bmX (List.take 300 s)).mi) (by omega), IntWalk.i64_in (_ + ctP o g) (by omega), IntWalk.i64_in (_ - ctL _ o g) (by omega), IntWalk.i64_in (_ - waN _) (by omega), IntWalk.i64_in (_ - (bmX (List.take 300 s)).r.p.p) (by omega)]
    symm
    simp only [Bool.and_eq_true, beq_iff_eq]
    omega

end Go.Vam
