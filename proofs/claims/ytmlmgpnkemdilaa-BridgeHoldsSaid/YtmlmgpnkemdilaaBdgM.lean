/- The law BridgeMoves gives true. Conditions: none. -/
import Derived.Test.YtmlmgpnkemdilaaBdgL
set_option linter.unusedVariables false
set_option linter.unusedSimpArgs false
set_option maxRecDepth 40000
set_option maxHeartbeats 4000000
namespace Go.Vam
open Go.Proofs

theorem feR_le (x : Rs) (k : Int) (y : List Int) : (feR x k y).l.length ≤ x.l.length + y.length := by
  unfold feR
  split
  · show (x.l ++ y).length ≤ _; rw [List.length_append]; omega
  · exact Nat.zero_le _
theorem poR_le (x : Rs) (n : Int) : (poR x n).l.length ≤ x.l.length := by
  unfold poR
  split
  · show (List.drop _ x.l).length ≤ _; rw [List.length_drop]; omega
  · exact Nat.zero_le _
theorem tkR_le (x : Rs) (n : Int) : (tkR x n).l.length ≤ x.l.length := by
  unfold tkR
  split
  · exact poR_le x n
  · exact Nat.zero_le _
theorem fiR_le (x : Rs) (n : Int) : (fiR x n).l.length ≤ x.l.length := by
  unfold fiR
  split
  · exact poR_le x _
  · exact Nat.zero_le _
theorem cvR_le (x : Rs) (k : Int) (y : List Int) : (cvR x k y).l.length ≤ x.l.length + y.length := by
  unfold cvR
  split
  · exact Nat.le_trans (poR_le _ _) (feR_le x k y)
  · exact Nat.zero_le _
theorem outO_le {x : Rs} (hv : rsV x = true) (hl : x.l.length ≤ 1000000) {n : Nat} (hn : n ≤ 65536) : (outO x n).length ≤ 524288 := by
  obtain ⟨⟨k1, k2⟩, _⟩ := blk_in (rsV_in hv).2 hl
  have := Nat.mul_le_mul hn (show x.c.toNat ≤ 8 by omega)
  rw [outO_len]
  omega
theorem tkO_le (x : Rs) (n : Int) (hl : x.l.length ≤ 1000000) : (tkO x n).length ≤ 524288 := by
  unfold tkO
  split
  · rename_i h
    obtain ⟨hv, hn⟩ := rcE_ok (tkE_po h).1
    exact outO_le hv hl (by omega)
  · exact Nat.zero_le _
theorem fiO_le (x : Rs) (n : Int) (hl : x.l.length ≤ 1000000) : (fiO x n).length ≤ 524288 := by
  unfold fiO
  split
  · rename_i h
    have h1 : rcE x n = 0 := by
      unfold fiE at h
      split at h
      · rename_i h2; exact absurd h h2
      · rename_i h2; simpa using h2
    obtain ⟨hv, hn⟩ := rcE_ok h1
    have := cnt_in hv hl hn.1
    exact outO_le hv hl (by omega)
  · exact Nat.zero_le _
theorem cvO_le (x : Rs) (k : Int) (y : List Int) (hl : x.l.length ≤ 1000000) (hy : y.length ≤ 1000000) : (cvO x k y).length ≤ 524288 := by
  unfold cvO
  split
  · rename_i h
    obtain ⟨h1, h2⟩ := cvE_tk h
    obtain ⟨f1, f2, f3⟩ := feR_ok h1 hl hy
    obtain ⟨hv, hn⟩ := rcE_ok (tkE_po h2).1
    exact outO_le hv (by omega) (by omega)
  · exact Nat.zero_le _

theorem gB2 {k k2 : Int} {y y2 : List Int} {i : Nat} : (([D.agg [D.int .i64 k, D.list (LI .i32 y)], D.agg [D.int .i64 k2, D.list (LI .i32 y2)]])[i]?).getD (D.agg [D.int .i64 0, D.list []]) = D.agg [D.int .i64 (([(k, y), (k2, y2)])[i]?.getD (0, [])).1, D.list (LI .i32 (([(k, y), (k2, y2)])[i]?.getD (0, [])).2)] := by
  match i with
  | 0 => rfl
  | 1 => rfl
  | i + 2 => rfl
theorem two_of {α : Type} {P : α → Prop} {a b z : α} (ha : P a) (hb : P b) (hz : P z) (i : Nat) : P (([a, b])[i]?.getD z) := by
  match i with
  | 0 => exact ha
  | 1 => exact hb
  | i + 2 => exact hz
theorem gBr2 {q ct cd cg cm c n d a p f lo mi q2 ct2 cd2 cg2 cm2 c2 n2 d2 a2 p2 f2 lo2 mi2 : Int} {l l2 : List Int} {i : Nat} : (([D.agg [D.int .i64 q, D.int .i64 ct, D.int .i64 cd, D.int .i64 cg, D.int .i64 cm, D.int .i64 c, D.int .i64 n, D.int .i64 d, D.int .i64 a, D.int .i64 p, D.int .i64 f, D.list (LI .i32 l), D.int .i64 lo, D.int .i64 mi], D.agg [D.int .i64 q2, D.int .i64 ct2, D.int .i64 cd2, D.int .i64 cg2, D.int .i64 cm2, D.int .i64 c2, D.int .i64 n2, D.int .i64 d2, D.int .i64 a2, D.int .i64 p2, D.int .i64 f2, D.list (LI .i32 l2), D.int .i64 lo2, D.int .i64 mi2]])[i]?).getD (D.agg [D.int .i64 0, D.int .i64 0, D.int .i64 0, D.int .i64 0, D.int .i64 0, D.int .i64 0, D.int .i64 0, D.int .i64 0, D.int .i64 0, D.int .i64 0, D.int .i64 0, D.list [], D.int .i64 0, D.int .i64 0]) = D.agg [D.int .i64 (([⟨q, ⟨ct, cd, cg, cm⟩, ⟨c, ⟨n, d, a, p, f⟩, l⟩, lo, mi⟩, ⟨q2, ⟨ct2, cd2, cg2, cm2⟩, ⟨c2, ⟨n2, d2, a2, p2, f2⟩, l2⟩, lo2, mi2⟩] : List Br)[i]?.getD br0).q, D.int .i64 (([⟨q, ⟨ct, cd, cg, cm⟩, ⟨c, ⟨n, d, a, p, f⟩, l⟩, lo, mi⟩, ⟨q2, ⟨ct2, cd2, cg2, cm2⟩, ⟨c2, ⟨n2, d2, a2, p2, f2⟩, l2⟩, lo2, mi2⟩] : List Br)[i]?.getD br0).c.t, D.int .i64 (([⟨q, ⟨ct, cd, cg, cm⟩, ⟨c, ⟨n, d, a, p, f⟩, l⟩, lo, mi⟩, ⟨q2, ⟨ct2, cd2, cg2, cm2⟩, ⟨c2, ⟨n2, d2, a2, p2, f2⟩, l2⟩, lo2, mi2⟩] : List Br)[i]?.getD br0).c.d, D.int .i64 (([⟨q, ⟨ct, cd, cg, cm⟩, ⟨c, ⟨n, d, a, p, f⟩, l⟩, lo, mi⟩, ⟨q2, ⟨ct2, cd2, cg2, cm2⟩, ⟨c2, ⟨n2, d2, a2, p2, f2⟩, l2⟩, lo2, mi2⟩] : List Br)[i]?.getD br0).c.g, D.int .i64 (([⟨q, ⟨ct, cd, cg, cm⟩, ⟨c, ⟨n, d, a, p, f⟩, l⟩, lo, mi⟩, ⟨q2, ⟨ct2, cd2, cg2, cm2⟩, ⟨c2, ⟨n2, d2, a2, p2, f2⟩, l2⟩, lo2, mi2⟩] : List Br)[i]?.getD br0).c.m, D.int .i64 (([⟨q, ⟨ct, cd, cg, cm⟩, ⟨c, ⟨n, d, a, p, f⟩, l⟩, lo, mi⟩, ⟨q2, ⟨ct2, cd2, cg2, cm2⟩, ⟨c2, ⟨n2, d2, a2, p2, f2⟩, l2⟩, lo2, mi2⟩] : List Br)[i]?.getD br0).r.c, D.int .i64 (([⟨q, ⟨ct, cd, cg, cm⟩, ⟨c, ⟨n, d, a, p, f⟩, l⟩, lo, mi⟩, ⟨q2, ⟨ct2, cd2, cg2, cm2⟩, ⟨c2, ⟨n2, d2, a2, p2, f2⟩, l2⟩, lo2, mi2⟩] : List Br)[i]?.getD br0).r.p.n, D.int .i64 (([⟨q, ⟨ct, cd, cg, cm⟩, ⟨c, ⟨n, d, a, p, f⟩, l⟩, lo, mi⟩, ⟨q2, ⟨ct2, cd2, cg2, cm2⟩, ⟨c2, ⟨n2, d2, a2, p2, f2⟩, l2⟩, lo2, mi2⟩] : List Br)[i]?.getD br0).r.p.d, D.int .i64 (([⟨q, ⟨ct, cd, cg, cm⟩, ⟨c, ⟨n, d, a, p, f⟩, l⟩, lo, mi⟩, ⟨q2, ⟨ct2, cd2, cg2, cm2⟩, ⟨c2, ⟨n2, d2, a2, p2, f2⟩, l2⟩, lo2, mi2⟩] : List Br)[i]?.getD br0).r.p.a, D.int .i64 (([⟨q, ⟨ct, cd, cg, cm⟩, ⟨c, ⟨n, d, a, p, f⟩, l⟩, lo, mi⟩, ⟨q2, ⟨ct2, cd2, cg2, cm2⟩, ⟨c2, ⟨n2, d2, a2, p2, f2⟩, l2⟩, lo2, mi2⟩] : List Br)[i]?.getD br0).r.p.p, D.int .i64 (([⟨q, ⟨ct, cd, cg, cm⟩, ⟨c, ⟨n, d, a, p, f⟩, l⟩, lo, mi⟩, ⟨q2, ⟨ct2, cd2, cg2, cm2⟩, ⟨c2, ⟨n2, d2, a2, p2, f2⟩, l2⟩, lo2, mi2⟩] : List Br)[i]?.getD br0).r.p.f, D.list (LI .i32 (([⟨q, ⟨ct, cd, cg, cm⟩, ⟨c, ⟨n, d, a, p, f⟩, l⟩, lo, mi⟩, ⟨q2, ⟨ct2, cd2, cg2, cm2⟩, ⟨c2, ⟨n2, d2, a2, p2, f2⟩, l2⟩, lo2, mi2⟩] : List Br)[i]?.getD br0).r.l), D.int .i64 (([⟨q, ⟨ct, cd, cg, cm⟩, ⟨c, ⟨n, d, a, p, f⟩, l⟩, lo, mi⟩, ⟨q2, ⟨ct2, cd2, cg2, cm2⟩, ⟨c2, ⟨n2, d2, a2, p2, f2⟩, l2⟩, lo2, mi2⟩] : List Br)[i]?.getD br0).lo, D.int .i64 (([⟨q, ⟨ct, cd, cg, cm⟩, ⟨c, ⟨n, d, a, p, f⟩, l⟩, lo, mi⟩, ⟨q2, ⟨ct2, cd2, cg2, cm2⟩, ⟨c2, ⟨n2, d2, a2, p2, f2⟩, l2⟩, lo2, mi2⟩] : List Br)[i]?.getD br0).mi] := by
  match i with
  | 0 => rfl
  | 1 => rfl
  | i + 2 => rfl
theorem puR_le (x : Br) (k : Int) (y : List Int) : (puR x k y).r.l.length ≤ x.r.l.length + y.length := by
  unfold puR
  split
  · have := feR_le x.r k (y.take ((puN x k y).toNat * k.toNat))
    have h2 : (y.take ((puN x k y).toNat * k.toNat)).length ≤ y.length := by rw [List.length_take]; omega
    show (feR x.r k _).l.length ≤ _
    omega
  · exact Nat.zero_le _
theorem plR_le (x : Br) (i : Int) : (plR x i).r.l.length ≤ x.r.l.length := by
  unfold plR
  split
  · exact poR_le (plA x) _
  · exact Nat.zero_le _
theorem plO_le (x : Br) (i : Int) (hl : x.r.l.length ≤ 1000000) : (plO x i).length ≤ 524288 := by
  unfold plO
  split
  · rename_i h
    obtain ⟨h1, h2, h3⟩ := plE_ok h
    have hb := (brV_in h1).1
    obtain ⟨⟨k1, k2⟩, _⟩ := blk_in (rsV_in hb).2 hl
    have hK := plK_in h1 hl h2
    have e : (outO (plA x) (plK x i).toNat).length = (plK x i).toNat * x.r.c.toNat := outO_len (plA x) _
    rw [List.length_append, List.length_replicate, e, ← Nat.add_mul]
    exact Nat.mul_le_mul (show _ ≤ 65536 by omega) (show x.r.c.toNat ≤ 8 by omega)
  · exact Nat.zero_le _
def mvQ (l : List UInt8) : Nat → List UInt8
  | 0 => bmR l
  | k + 1 => dT (mvQ l k) 30
theorem bnR_le (n d : Int) (x : Ct) (q fi : Int) : (bnR 2 n d x q fi).r.l.length ≤ 1000000 := by
  unfold bnR
  split
  · rename_i h
    unfold bnE at h
    split at h
    · cases h
    · rename_i h2
      simp only [Bool.or_eq_true, decide_eq_true_eq, not_or] at h2
      show (List.replicate _ (0 : Int)).length ≤ _
      rw [List.length_replicate]
      omega
  · exact Nat.zero_le _


theorem spec_moves (q ct cd cg cm c n d a p f : Int) (l : List Int) (lo mi : Int) (k : Int) (y : List Int) (s : List UInt8) (i qq fi bn bd ct2 cd2 cg2 cm2 : Int) : Spec Try.prog 0 3 [.agg [.d (.int .i64 q), .d (.int .i64 ct), .d (.int .i64 cd), .d (.int .i64 cg), .d (.int .i64 cm), .d (.int .i64 c), .d (.int .i64 n), .d (.int .i64 d), .d (.int .i64 a), .d (.int .i64 p), .d (.int .i64 f), .d (.list (LI .i32 l)), .d (.int .i64 lo), .d (.int .i64 mi)], .agg [.d (.int .i64 k), .d (.list (LI .i32 y))], vL (LB s), vI .i64 i, vI .i64 qq, vI .i64 fi, .agg [.d (.int .i64 bn), .d (.int .i64 bd)], .agg [.d (.int .i64 ct2), .d (.int .i64 cd2), .d (.int .i64 cg2), .d (.int .i64 cm2)]] [] [] (vB true) [] [] := by
  refine spec_of_E (X := ⟨Try.prog, tt, Try.f3.ntmps, 1, fun _ => 0, (tab [(8, E_sane), (9, E_keeprs), (10, E_keepb), (11, E_new), (12, E_made), (13, E_wave), (14, E_next), (15, E_push), (16, E_rpush), (18, E_pull), (19, E_rpull), (17, E_brsame), (20, E_same), (21, E_brvalid), (22, E_rbrvalid), (23, E_brfill), (24, E_rbrfill), (25, E_bnew), (26, E_rbnew)])⟩) (M := [(3, [0, 0, 0, 0, 0, 383170653268867122663841762845574326980009378446033919, 0, 0, 0, 0, 0, 383170653268867122663841762845574326953269255658521599, 0, 0, 0, 0, 0, 383170653268867122663841762845574324674447844209050623, 0, 0, 0, 0, 0, 383170653268867122663841762845574181712181272960025599, 0]), (14, [0, 0, 0, 0, 0, 383170653268867122829833003041859302581969978594673663, 0, 0, 0, 0, 0, 383170653268867122793649184308944722545648082300421119, 0, 0]), (20, [0, 0, 0, 0, 0, 383170653269195154865553547524352724953949898625762303, 0, 0, 0, 0, 0, 383170653269128459521637043585513903530893272056316927, 0, 0]), (21, [0, 0, 0, 0, 0, 383170653352843366302058640612919470952827160365876223, 0, 0, 0, 0, 0, 383170653335769358259433632270181186650330758587859967, 0, 0]), (22, [0, 0, 0, 0, 0, 383217420607637865204244340231077968164267095719920639, 0, 0, 0, 0, 0, 383217261469520128489717602232192374545559389043672063, 0, 0, 0, 0, 0, 383207190809800395236796854966391938907877072383493119, 0, 0]), (25, [0, 0, 0, 0, 0, 760308227778831958900466226558345432488559754919789567, 0, 0, 0, 0, 0, 0])]) (m := 383170653268867122663841762845574031832385674069918719) rfl rfl ⟨tt_ok, tab_ok (tabs_cons E_sane_ok (tabs_cons E_keeprs_ok (tabs_cons E_keepb_ok (tabs_cons E_new_ok (tabs_cons E_made_ok (tabs_cons E_wave_ok (tabs_cons E_next_ok (tabs_cons E_push_ok (tabs_cons E_rpush_ok (tabs_cons E_pull_ok (tabs_cons E_rpull_ok (tabs_cons E_brsame_ok (tabs_cons E_same_ok (tabs_cons E_brvalid_ok (tabs_cons E_rbrvalid_ok (tabs_cons E_brfill_ok (tabs_cons E_rbrfill_ok (tabs_cons E_bnew_ok (tabs_cons E_rbnew_ok tabs_nil))))))))))))))))))) _ rfl rfl⟩ tt_mixed Try.func3 rfl (by decide) (by show (8 : Nat) ≤ _; exact Nat.le_of_ble_eq_true rfl) ⟨fun m hm => (V.bare_has rfl m hm).elim, by simp, by simp⟩ ?_
  simp only [↓gPre, gPost, gCore, handV, V.bufs, buildArr, toCs, Nat.reduceShiftRight, Nat.reduceMod, addB, addK, zeroOp, callSem, resName, keepsB, newB, V.pure, C.pure, V.ptrs, C.ptrs, C.bufs, appendSem, appendTo, appendZ, dstOk, lk, V.cells, Op.eff, partV, partD, cut, lay, zeroD, C.toDs, C.toD, V.toD, toDs, buildCells, if_true, if_false, ↓reduceIte, reduceCtorEq, Nat.reduceEqDiff, Nat.reduceLT, Nat.reduceLeDiff, implies_true, forall_const, eq_self, ne_eq, not_true_eq_false, not_false_eq_true, imp_self, Nat.reduceAdd, Nat.reduceMul, Int.reduceLE, Int.reduceLT, Int.reduceNeg, Int.reduceAdd, Int.reduceToNat, E_sane_eq, E_keeprs_eq, E_keepb_eq, E_new_eq, E_made_eq, E_wave_eq, E_next_eq, E_push_eq, E_rpush_eq, E_pull_eq, E_rpull_eq, E_brsame_eq, E_same_eq, E_brvalid_eq, E_rbrvalid_eq, E_brfill_eq, E_rbrfill_eq, E_bnew_eq, E_rbnew_eq, rs_eta, ph_eta, ct_eta, br_eta, gBr2, gB2, gi2, Try.ntmps3, Try.results3, gTT]
  refine ⟨fun h1 h2 => by rw [h1, h2]; rfl, fun h1 h2 => by rw [h1, h2]; rfl, fun h => ⟨by kernel_rfl, ?_⟩⟩
  have hb : l.length ≤ 300 ∧ y.length ≤ 300 := by
    simp only [Bool.or_eq_false_iff, Bool.not_eq_false', decide_eq_true_eq] at h
    omega
  have hM := (bmX_ok (List.take 300 s)).len
  have hX : ∀ j : Nat, (([⟨q, ⟨ct, cd, cg, cm⟩, ⟨c, ⟨n, d, a, p, f⟩, l⟩, lo, mi⟩, bmX (List.take 300 s)] : List Br)[j]?.getD br0).r.l.length ≤ 600000 := two_of (P := fun x : Br => x.r.l.length ≤ 600000) (by show l.length ≤ _; omega) (by omega) (Nat.zero_le _)
  have hnw := bnR_le bn bd ⟨ct2, cd2, cg2, cm2⟩ qq fi
  refine ELoop_keep (fun g => ⟨[(76, vI .i64 (g : Nat))], [(⟨1, 70⟩, [.d (.list (LB (mvQ (List.take 300 s) g)))])], []⟩) (fun g => g ≤ 2) (fun g => 2 - g) (· + 1) 0 (by decide) ?_ ?_
  · simp only [↓gPre, gPost, gCore, handV, V.bufs, buildArr, toCs, Nat.reduceShiftRight, Nat.reduceMod, addB, addK, zeroOp, callSem, resName, keepsB, newB, V.pure, C.pure, V.ptrs, C.ptrs, C.bufs, appendSem, appendTo, appendZ, dstOk, lk, V.cells, Op.eff, partV, partD, cut, lay, zeroD, C.toDs, C.toD, V.toD, toDs, buildCells, if_true, if_false, ↓reduceIte, reduceCtorEq, Nat.reduceEqDiff, Nat.reduceLT, Nat.reduceLeDiff, implies_true, forall_const, eq_self, ne_eq, not_true_eq_false, not_false_eq_true, imp_self, Nat.reduceAdd, Nat.reduceMul, Int.reduceLE, Int.reduceLT, Int.reduceNeg, Int.reduceAdd, Int.reduceToNat, E_sane_eq, E_keeprs_eq, E_keepb_eq, E_new_eq, E_made_eq, E_wave_eq, E_next_eq, E_push_eq, E_rpush_eq, E_pull_eq, E_rpull_eq, E_brsame_eq, E_same_eq, E_brvalid_eq, E_rbrvalid_eq, E_brfill_eq, E_rbrfill_eq, E_bnew_eq, E_rbnew_eq, rs_eta, ph_eta, ct_eta, br_eta, gBr2, gB2, gi2, Try.ntmps3, Try.results3, gTT]
    exact ⟨rfl, rfl⟩
  intro g hg
  simp only [↓gPre, gPost, gCore, handV, V.bufs, buildArr, toCs, Nat.reduceShiftRight, Nat.reduceMod, addB, addK, zeroOp, callSem, resName, keepsB, newB, V.pure, C.pure, V.ptrs, C.ptrs, C.bufs, appendSem, appendTo, appendZ, dstOk, lk, V.cells, Op.eff, partV, partD, cut, lay, zeroD, C.toDs, C.toD, V.toD, toDs, buildCells, if_true, if_false, ↓reduceIte, reduceCtorEq, Nat.reduceEqDiff, Nat.reduceLT, Nat.reduceLeDiff, implies_true, forall_const, eq_self, ne_eq, not_true_eq_false, not_false_eq_true, imp_self, Nat.reduceAdd, Nat.reduceMul, Int.reduceLE, Int.reduceLT, Int.reduceNeg, Int.reduceAdd, Int.reduceToNat, E_sane_eq, E_keeprs_eq, E_keepb_eq, E_new_eq, E_made_eq, E_wave_eq, E_next_eq, E_push_eq, E_rpush_eq, E_pull_eq, E_rpull_eq, E_brsame_eq, E_same_eq, E_brvalid_eq, E_rbrvalid_eq, E_brfill_eq, E_rbrfill_eq, E_bnew_eq, E_rbnew_eq, rs_eta, ph_eta, ct_eta, br_eta, gBr2, gB2, gi2, Try.ntmps3, Try.results3, gTT]
  have hXg := hX g
  generalize ([⟨q, ⟨ct, cd, cg, cm⟩, ⟨c, ⟨n, d, a, p, f⟩, l⟩, lo, mi⟩, bmX (List.take 300 s)] : List Br)[g]?.getD br0 = X at *
  have m1 := dN_lt (mvQ (List.take 300 s) g) 30 (by decide)
  have m2 := dN_ge (mvQ (List.take 300 s) g) 30
  have hY : ∀ j : Nat, (([(k, y), (1, waO 1 1 0 (dN (mvQ (List.take 300 s) g) 30).toNat)] : List (Int × List Int))[j]?.getD (0, [])).2.length ≤ 1000 := two_of (P := fun x : Int × List Int => x.2.length ≤ 1000) (by show y.length ≤ _; omega) (by show (waO 1 1 0 _).length ≤ _; rw [waO_len]; show _ * 1 ≤ _; omega) (Nat.zero_le _)
  refine ⟨fun h1 => ⟨⟨by omega, by have := of_decide_eq_true h1; omega⟩, by kernel_rfl, ⟨m2, by omega⟩, ?_⟩, fun _ => by omega⟩
  refine ELoop_keep (fun j => ⟨[(86, vI .i64 (j : Nat))], [], []⟩) (fun j => j ≤ 2) (fun j => 2 - j) (· + 1) 0 (by decide) ?_ ?_
  · simp only [↓gPre, gPost, gCore, handV, V.bufs, buildArr, toCs, Nat.reduceShiftRight, Nat.reduceMod, addB, addK, zeroOp, callSem, resName, keepsB, newB, V.pure, C.pure, V.ptrs, C.ptrs, C.bufs, appendSem, appendTo, appendZ, dstOk, lk, V.cells, Op.eff, partV, partD, cut, lay, zeroD, C.toDs, C.toD, V.toD, toDs, buildCells, if_true, if_false, ↓reduceIte, reduceCtorEq, Nat.reduceEqDiff, Nat.reduceLT, Nat.reduceLeDiff, implies_true, forall_const, eq_self, ne_eq, not_true_eq_false, not_false_eq_true, imp_self, Nat.reduceAdd, Nat.reduceMul, Int.reduceLE, Int.reduceLT, Int.reduceNeg, Int.reduceAdd, Int.reduceToNat, E_sane_eq, E_keeprs_eq, E_keepb_eq, E_new_eq, E_made_eq, E_wave_eq, E_next_eq, E_push_eq, E_rpush_eq, E_pull_eq, E_rpull_eq, E_brsame_eq, E_same_eq, E_brvalid_eq, E_rbrvalid_eq, E_brfill_eq, E_rbrfill_eq, E_bnew_eq, E_rbnew_eq, rs_eta, ph_eta, ct_eta, br_eta, gBr2, gB2, gi2, Try.ntmps3, Try.results3, gTT]
    rfl
  intro j hj
  simp only [↓gPre, gPost, gCore, handV, V.bufs, buildArr, toCs, Nat.reduceShiftRight, Nat.reduceMod, addB, addK, zeroOp, callSem, resName, keepsB, newB, V.pure, C.pure, V.ptrs, C.ptrs, C.bufs, appendSem, appendTo, appendZ, dstOk, lk, V.cells, Op.eff, partV, partD, cut, lay, zeroD, C.toDs, C.toD, V.toD, toDs, buildCells, if_true, if_false, ↓reduceIte, reduceCtorEq, Nat.reduceEqDiff, Nat.reduceLT, Nat.reduceLeDiff, implies_true, forall_const, eq_self, ne_eq, not_true_eq_false, not_false_eq_true, imp_self, Nat.reduceAdd, Nat.reduceMul, Int.reduceLE, Int.reduceLT, Int.reduceNeg, Int.reduceAdd, Int.reduceToNat, E_sane_eq, E_keeprs_eq, E_keepb_eq, E_new_eq, E_made_eq, E_wave_eq, E_next_eq, E_push_eq, E_rpush_eq, E_pull_eq, E_rpull_eq, E_brsame_eq, E_same_eq, E_brvalid_eq, E_rbrvalid_eq, E_brfill_eq, E_rbrfill_eq, E_bnew_eq, E_rbnew_eq, rs_eta, ph_eta, ct_eta, br_eta, gBr2, gB2, gi2, Try.ntmps3, Try.results3, gTT]
  have hYj := hY j
  generalize ([(k, y), (1, waO 1 1 0 (dN (mvQ (List.take 300 s) g) 30).toNat)] : List (Int × List Int))[j]?.getD (0, []) = Y at *
  have hpu := puR_le X Y.1 Y.2
  refine ⟨fun h2 => ?_, fun h2 => ⟨by decide, by decide, ?_⟩⟩
  · have := of_decide_eq_true h2
    exact ⟨⟨by omega, by omega⟩, ⟨by omega, by omega⟩, ⟨by omega, by omega⟩, by omega, (wrapN _ (by omega)).symm, by omega, by omega⟩
  refine ELoop_keep (fun z => ⟨[(126, vI .i64 (z : Nat))], [], []⟩) (fun z => z ≤ 2) (fun z => 2 - z) (· + 1) 0 (by decide) ?_ ?_
  · simp only [↓gPre, gPost, gCore, handV, V.bufs, buildArr, toCs, Nat.reduceShiftRight, Nat.reduceMod, addB, addK, zeroOp, callSem, resName, keepsB, newB, V.pure, C.pure, V.ptrs, C.ptrs, C.bufs, appendSem, appendTo, appendZ, dstOk, lk, V.cells, Op.eff, partV, partD, cut, lay, zeroD, C.toDs, C.toD, V.toD, toDs, buildCells, if_true, if_false, ↓reduceIte, reduceCtorEq, Nat.reduceEqDiff, Nat.reduceLT, Nat.reduceLeDiff, implies_true, forall_const, eq_self, ne_eq, not_true_eq_false, not_false_eq_true, imp_self, Nat.reduceAdd, Nat.reduceMul, Int.reduceLE, Int.reduceLT, Int.reduceNeg, Int.reduceAdd, Int.reduceToNat, E_sane_eq, E_keeprs_eq, E_keepb_eq, E_new_eq, E_made_eq, E_wave_eq, E_next_eq, E_push_eq, E_rpush_eq, E_pull_eq, E_rpull_eq, E_brsame_eq, E_same_eq, E_brvalid_eq, E_rbrvalid_eq, E_brfill_eq, E_rbrfill_eq, E_bnew_eq, E_rbnew_eq, rs_eta, ph_eta, ct_eta, br_eta, gBr2, gB2, gi2, Try.ntmps3, Try.results3, gTT]
    rfl
  intro z hz
  simp only [↓gPre, gPost, gCore, handV, V.bufs, buildArr, toCs, Nat.reduceShiftRight, Nat.reduceMod, addB, addK, zeroOp, callSem, resName, keepsB, newB, V.pure, C.pure, V.ptrs, C.ptrs, C.bufs, appendSem, appendTo, appendZ, dstOk, lk, V.cells, Op.eff, partV, partD, cut, lay, zeroD, C.toDs, C.toD, V.toD, toDs, buildCells, if_true, if_false, ↓reduceIte, reduceCtorEq, Nat.reduceEqDiff, Nat.reduceLT, Nat.reduceLeDiff, implies_true, forall_const, eq_self, ne_eq, not_true_eq_false, not_false_eq_true, imp_self, Nat.reduceAdd, Nat.reduceMul, Int.reduceLE, Int.reduceLT, Int.reduceNeg, Int.reduceAdd, Int.reduceToNat, E_sane_eq, E_keeprs_eq, E_keepb_eq, E_new_eq, E_made_eq, E_wave_eq, E_next_eq, E_push_eq, E_rpush_eq, E_pull_eq, E_rpull_eq, E_brsame_eq, E_same_eq, E_brvalid_eq, E_rbrvalid_eq, E_brfill_eq, E_rbrfill_eq, E_bnew_eq, E_rbnew_eq, rs_eta, ph_eta, ct_eta, br_eta, gBr2, gB2, gi2, Try.ntmps3, Try.results3, gTT]
  generalize ([i, (IntKind.i64.wrap (i.tmod 30 + 30)).tmod 30] : List Int)[z]?.getD 0 = K at *
  have hpl := plR_le X K
  have hpo := plO_le X K (by omega)
  refine ⟨fun h2 => ?_, fun h2 => ⟨by kernel_rfl, by omega, by omega, by omega, by omega, ⟨(wrapN _ (by omega)).symm, rfl⟩, by have := of_decide_eq_true h1; omega, by have := of_decide_eq_true h1; omega⟩⟩
  have h3 := of_decide_eq_true h2
  exact ⟨⟨by omega, by omega⟩, by omega, by omega, by omega, by omega, (wrapN _ (by omega)).symm, by omega, by omega⟩

end Go.Vam
