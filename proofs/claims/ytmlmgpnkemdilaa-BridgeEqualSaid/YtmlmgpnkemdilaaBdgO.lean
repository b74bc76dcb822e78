/- The law BridgeEqual gives true. Conditions: none. -/
import Derived.Test.YtmlmgpnkemdilaaBdgP
set_option linter.unusedVariables false
set_option linter.unusedSimpArgs false
set_option maxRecDepth 40000
set_option maxHeartbeats 4000000
namespace Go.Vam
open Go.Proofs

theorem mkN_eq {p : Ph} (h : phV p = true) {n : Int} (h0 : 0 ≤ n) {k : Nat} (hk : k < 65536) (h1 : ned p k ≤ n) (h2 : n < ned p ((k + 1 : Nat) : Int)) : mkN p n = k := by
  have a := (mkN_iff h h0 (show k ≤ 65536 by omega)).2 h1
  have b := mkN_iff h h0 (show k + 1 ≤ 65536 by omega)
  have : ¬ (k + 1 ≤ mkN p n) := fun h => by have := b.1 h; omega
  omega
theorem bkO_len (l : List UInt8) (n : Nat) : (bkO l n).length = n := by simp [bkO]
theorem bkO_all (l : List UInt8) (n : Nat) : (bkO l n).all smpX = true := by
  rw [List.all_eq_true]
  intro x hx
  simp only [bkO, List.mem_map] at hx
  obtain ⟨i, _, rfl⟩ := hx
  have := sV_in (bkR l i)
  simp only [smpX, Bool.and_eq_true, decide_eq_true_eq]
  exact this
def P1 : Ph := ⟨1, 1, 0, 0, 0⟩
theorem p1_V : phV P1 = true := by decide +kernel
theorem p1_q (k : Int) : qAt P1 k = k ∧ fAt P1 k = 0 := by
  have e : ahd P1 k = k * 65536 := by
    unfold ahd
    have h1 : stp P1 = 65536 := by decide
    rw [h1]
    show (0 : Int) + _ = _
    omega
  have h2 : prt P1 = 65536 := by decide
  unfold qAt fAt
  rw [e, h2]
  omega
theorem p1_qN (k : Nat) : qN P1 k = k := by unfold qN; rw [(p1_q k).1]; rfl
theorem p1_mk {F : Nat} (h1 : 1 ≤ F) (h2 : F ≤ 60000) : mkN P1 (F : Int) = F - 1 := by
  refine mkN_eq p1_V (by omega) (by omega) ?_ ?_
  · unfold ned
    split
    · omega
    · rw [(p1_q _).1, (p1_q _).1]; omega
  · unfold ned
    rw [if_neg (by omega), (p1_q _).1, (p1_q _).1]
    omega
theorem btw_zero (a b : Int) {P : Int} (hP : 0 < P) : btw a b 0 P = a := by
  unfold btw
  rw [Int.sub_zero, Int.mul_zero, Int.add_zero, Int.add_comm, Int.add_mul_ediv_right _ _ (by omega), Int.ediv_eq_zero_of_lt (by omega) (by omega), Int.zero_add]
theorem p1_ooc (c : Int) {s : List Int} {F : Nat} (hs : s.length = F * c.toNat) : ∀ N : Nat, N ≤ F → ooL P1 c s N = s.take (N * c.toNat)
  | 0, _ => by simp [ooL]
  | N + 1, hN => by
    have hP : (0 : Int) < prt P1 := by decide
    have hb := Nat.mul_le_mul_right c.toNat hN
    rw [Nat.add_mul, Nat.one_mul] at hb
    rw [ooL, p1_ooc c hs N (by omega), Nat.add_mul, Nat.one_mul, List.take_add]
    congr 1
    apply List.ext_getElem
    · rw [List.length_map, List.length_range, List.length_take, List.length_drop]; omega
    · intro j h1 h2
      rw [List.length_map, List.length_range] at h1
      rw [List.getElem_map, List.getElem_range, List.getElem_take, List.getElem_drop]
      unfold ocX
      rw [p1_qN, (p1_q N).2, btw_zero _ _ hP, List.getElem?_eq_getElem (by omega)]
      rfl
theorem p1_ned {N : Nat} {W : Nat} (h : N + 1 ≤ W) : ned P1 (N : Int) ≤ W := by
  unfold ned
  split
  · omega
  · rw [(p1_q _).1, (p1_q _).1]; omega
/-- A bridge with equal clocks, so far on. -/
def eqB (q : Int) (ct : Ct) (ch : Int) (s : List Int) (N : Nat) : Br := ⟨q, ct, stR P1 ch s N, 0, 0⟩
theorem eq_ok {q : Int} {ct : Ct} {ch : Int} {s : List Int} {N W : Nat} (hc : 1 ≤ ch ∧ ch ≤ 8) (hct : ctV ct = true) (hs : s.length = W * ch.toNat) (ha : s.all smpX = true) (hW : W ≤ 300) (hN : N + 1 ≤ W) (hq : ((W - N : Nat) : Int) ≤ q ∧ q ≤ 65536) : okB (eqB q ct ch s N) ch 1000 ∧ waN (eqB q ct ch s N).r = ((W - N : Nat) : Int) := by
  obtain ⟨v1, v2, v3, v4⟩ := stR_V p1_V hc hs ha (by omega) (by omega) (p1_ned hN) (by show (0 : Int) + W ≤ _; omega)
  rw [p1_qN] at v2 v3
  have hw : waN (stR P1 ch s N) = ((W - N : Nat) : Int) := by
    unfold waN
    rw [if_pos v1]
    show (((stR P1 ch s N).l.length / ch.toNat : Nat) : Int) = _
    rw [v3]
  have hl := rs_len v1 (by rw [v2]; have := Nat.mul_le_mul (show W - N ≤ 300 by omega) (show ch.toNat ≤ 8 by omega); omega)
  refine ⟨⟨?_, rfl, hl, ?_, by show (0 : Int) ≤ _; omega, by show (0 : Int) ≤ _; omega⟩, hw⟩
  · simp only [brV, Bool.and_eq_true, decide_eq_true_eq]
    exact ⟨⟨⟨⟨⟨⟨v1, hct⟩, by show 1 ≤ q; omega⟩, hq.2⟩, by show waN (stR P1 ch s N) ≤ q; rw [hw]; exact hq.1⟩, Int.le_refl 0⟩, Int.le_refl 0⟩
  · show (0 : Int) + (qN P1 N : Int) + waN (stR P1 ch s N) ≤ 1000
    rw [hw, p1_qN]
    omega
theorem eq_pull {q : Int} {ct : Ct} {ch : Int} {s : List Int} {N W n : Nat} (hc : 1 ≤ ch ∧ ch ≤ 8) (hct : ctV ct = true) (hs : s.length = W * ch.toNat) (ha : s.all smpX = true) (hW : W ≤ 300) (hN : N + n + 1 ≤ W) (hq : ((W - N : Nat) : Int) ≤ q ∧ q ≤ 65536) (ht : ct.t = ((W - N : Nat) : Int)) :
    plE (eqB q ct ch s N) n = 0 ∧ plM (eqB q ct ch s N) n = 0 ∧ plC (eqB q ct ch s N) n = ch ∧ plR (eqB q ct ch s N) n = eqB q ct ch s (N + n) ∧ s.take (N * ch.toNat) ++ plO (eqB q ct ch s N) n = s.take ((N + n) * ch.toNat) := by
  obtain ⟨hok, hw⟩ := eq_ok hc hct hs ha hW (show N + 1 ≤ W by omega) hq
  have hz : ajX ct (waN (eqB q ct ch s N).r) = 0 := by
    have h1 := ctV_in hct
    have h2 : szX ct (ct.t - ct.t) = 0 := by
      unfold szX
      rw [show max 0 (ct.t - ct.t - ct.d) = 0 by omega, Int.zero_mul]
      omega
    rw [hw, ← ht]
    unfold ajX
    rw [if_neg (by rw [hct]; decide), if_neg (by simp only [Bool.or_eq_true, decide_eq_true_eq]; omega), if_neg (by omega), h2]
  have hA : plA (eqB q ct ch s N) = stR P1 ch s N := by
    unfold plA
    have hz2 : ajX (eqB q ct ch s N).c (waN (eqB q ct ch s N).r) = 0 := hz
    rw [hz2]
    rfl
  have hmk := p1_mk (F := W) (by omega) (by omega)
  obtain ⟨m1, m2, m3, m4, m5, m6⟩ := pull_in hok hc p1_V hA hs ha hW (by rw [hmk]; omega) (by omega) (p1_ned (by omega)) (by show (0 : Int) + W ≤ _; omega) (i := n) (by omega) (by omega)
  have hK : min (mkN P1 (W : Int) - N) n = n := by rw [hmk]; omega
  rw [hK] at m2 m4 m5 m6
  obtain ⟨p1, p2, p3, p4, p5, p6, p7, p8, p9, p10, p11, p12, p13⟩ := pull_ok hok hc (i := (n : Int)) (by omega) (by omega)
  have hM : plM (eqB q ct ch s N) n = 0 := by rw [p4, m2]; omega
  refine ⟨p1, hM, by unfold plC; rw [if_pos p1]; rfl, ?_, ?_⟩
  · refine br_ext p6 p7 ?_ ?_ ?_ (by rw [p3]; rfl) (by rw [p5, hM]; rfl)
    · rw [m5]; rfl
    · rw [m5]; rfl
    · rw [m5]; rfl
  · unfold plO
    rw [if_pos p1, m2, Int.toNat_natCast, Nat.sub_self, Nat.zero_mul, List.replicate_zero, List.append_nil]
    rw [m2, Int.toNat_natCast, p1_ooc ch hs N (by omega), p1_ooc ch hs (N + n) (by omega)] at m6
    exact m6
theorem eq_push {q : Int} {ct : Ct} {ch : Int} {s y : List Int} {N W n : Nat} (hc : 1 ≤ ch ∧ ch ≤ 8) (hct : ctV ct = true) (hs : s.length = W * ch.toNat) (ha : s.all smpX = true) (hy : y.length = n * ch.toNat) (hya : y.all smpX = true) (hW : W + n ≤ 300) (hN : N + 1 ≤ W) (hq : ((W - N + n : Nat) : Int) ≤ q ∧ q ≤ 65536) :
    puE (eqB q ct ch s N) ch y = 0 ∧ puL (eqB q ct ch s N) ch y = 0 ∧ puR (eqB q ct ch s N) ch y = eqB q ct ch (s ++ y) N := by
  obtain ⟨hok, hw⟩ := eq_ok hc hct hs ha (by omega) hN (q := q) (by omega)
  obtain ⟨p1, p2, p3, p4, p5, p6, p7, p8, p9, p10, p11, p12, p13⟩ := push_ok hok hc hy (by omega) hya (by omega)
  have hq2 : (eqB q ct ch s N).q = q := rfl
  have hP : puN (eqB q ct ch s N) ch y = n := by rw [p3, hw, hq2]; omega
  have hL : puL (eqB q ct ch s N) ch y = 0 := by rw [p4, hP]; omega
  refine ⟨p1, hL, ?_⟩
  refine br_ext p7 p8 (by rw [p2.c]; rfl) (by rw [p9]; rfl) ?_ (by rw [p5, hL]; rfl) p6
  rw [p11, hP, Int.toNat_natCast, ← hy, List.take_length]
  show s.drop _ ++ y = (s ++ y).drop _
  rw [p1_qN, List.drop_append_of_le_length]
  rw [hs]
  exact Nat.mul_le_mul_right _ (by omega)
/-- What was pushed. -/
def eqQ (l : List UInt8) (m : Nat) : Nat → List UInt8
  | 0 => l
  | k + 1 => bkR (eqQ l m k) m
def eqS (z : List Int) (l : List UInt8) (m : Nat) : Nat → List Int
  | 0 => z
  | k + 1 => eqS z l m k ++ bkO (eqQ l m k) m
theorem eqS_ok {z : List Int} (l : List UInt8) {ch : Int} {T n : Nat} (hz : z.length = T * ch.toNat) (hza : z.all smpX = true) : ∀ k : Nat, (eqS z l (n * ch.toNat) k).length = (T + k * n) * ch.toNat ∧ (eqS z l (n * ch.toNat) k).all smpX = true
  | 0 => by simpa [eqS] using ⟨hz, List.all_eq_true.1 hza⟩
  | k + 1 => by
    obtain ⟨h1, h2⟩ := eqS_ok l hz hza k (n := n)
    refine ⟨?_, ?_⟩
    · rw [eqS, List.length_append, h1, bkO_len, ← Nat.add_mul]
      congr 1
      rw [Nat.add_mul, Nat.one_mul, Nat.add_assoc]
    · rw [eqS, List.all_append, h2, bkO_all]
      rfl


theorem spec_begins (k : Int) (y : List Int) (c : Int) (l : List Int) (hb : blkV k y = true) (hc : k = c) (hl : l.length ≤ 1000000) (hy : y.length ≤ 1000000) (ht : y = l.take y.length) (hv : blkV c l = true) : Spec Try.prog 0 31 [.agg [.d (.int .i64 k), .d (.list (LI .i32 y))], .agg [.d (.int .i64 c), .d (.list (LI .i32 l))]] [] [] (vB true) [] [] := by
  refine spec_of_E (X := ⟨Try.prog, tt, Try.f31.ntmps, 1, fun _ => 0, (tab [(27, E_frames), (42, E_rbvalid), (44, E_cut), (20, E_same)])⟩) (M := [(2, [0, 0, 0, 0, 0, 8383551, 0, 0, 0, 0, 0, 8323135, 0, 0, 0, 0])]) (m := 63) rfl rfl ⟨tt_ok, tab_ok (tabs_cons E_frames_ok (tabs_cons E_rbvalid_ok (tabs_cons E_cut_ok (tabs_cons E_same_ok tabs_nil)))) _ rfl rfl⟩ tt_mixed Try.func31 rfl (by decide) (by show (2 : Nat) ≤ _; exact Nat.le_of_ble_eq_true rfl) ⟨fun m hm => (V.bare_has rfl m hm).elim, by simp, by simp⟩ ?_
  simp only [↓gPre, gPost, gCore, handV, V.bufs, buildArr, toCs, Nat.reduceShiftRight, Nat.reduceMod, addB, addK, zeroOp, callSem, resName, keepsB, newB, V.pure, C.pure, V.ptrs, C.ptrs, C.bufs, appendSem, appendTo, appendZ, dstOk, lk, V.cells, Op.eff, partV, partD, cut, lay, zeroD, C.toDs, C.toD, V.toD, toDs, buildCells, if_true, if_false, ↓reduceIte, reduceCtorEq, Nat.reduceEqDiff, Nat.reduceLT, Nat.reduceLeDiff, implies_true, forall_const, eq_self, ne_eq, not_true_eq_false, not_false_eq_true, imp_self, Nat.reduceAdd, Nat.reduceMul, Int.reduceLE, Int.reduceLT, Int.reduceNeg, Int.reduceAdd, Int.reduceToNat, E_frames_eq, E_rbvalid_eq, E_cut_eq, E_same_eq, rs_eta, ph_eta, ct_eta, br_eta, Try.ntmps31, Try.results31, gTT]
  have q1 := blk_in hb hy
  have q2 := blk_in hv hl
  subst hc
  have hle : y.length ≤ l.length := by rw [ht, List.length_take]; exact Nat.min_le_right _ _
  have hdv := Nat.div_le_div_right (c := k.toNat) hle
  rw [hb, hv, if_pos rfl, if_pos rfl, Int.toNat_natCast, ← q1.2.1]
  refine ⟨hy, by kernel_rfl, hy, fun _ => hl, fun _ => ⟨hl, q1.1, Int.natCast_nonneg _, by omega⟩, fun _ => by omega, ?_⟩
  have hct : cutK k l 0 (y.length / k.toNat) = y := by
    unfold cutK
    rw [Nat.zero_mul, List.drop_zero, Nat.sub_zero, ← q1.2.1, ← ht]
  have hd2 : ((y.length / k.toNat : Nat) : Int) ≤ ((l.length / k.toNat : Nat) : Int) := Int.ofNat_le.2 hdv
  rw [hct, decide_eq_true hd2]
  simp
def E_begins : List V → Boxes → Toks → Name → Option Ent
  | [.agg [.d (.int .i64 k), .d (.list q_y)], .agg [.d (.int .i64 c), .d (.list q_l)]], [], [], _ => some ⟨blkV k (ints q_y) = true ∧ k = c ∧ (ints q_l).length ≤ 1000000 ∧ (ints q_y).length ≤ 1000000 ∧ (ints q_y) = (ints q_l).take (ints q_y).length ∧ blkV c (ints q_l) = true ∧ q_y = LI .i32 (ints q_y) ∧ q_l = LI .i32 (ints q_l), vB true, [], []⟩
  | _, _, _, _ => none
theorem E_begins_eq {k : Int} {c : Int}  {q_y : List D} {q_l : List D} {nF : Name} : E_begins [.agg [.d (.int .i64 k), .d (.list q_y)], .agg [.d (.int .i64 c), .d (.list q_l)]] [] [] nF = some ⟨blkV k (ints q_y) = true ∧ k = c ∧ (ints q_l).length ≤ 1000000 ∧ (ints q_y).length ≤ 1000000 ∧ (ints q_y) = (ints q_l).take (ints q_y).length ∧ blkV c (ints q_l) = true ∧ q_y = LI .i32 (ints q_y) ∧ q_l = LI .i32 (ints q_l), vB true, [], []⟩ := Eq.trans rfl rfl
theorem E_begins_ok : Snd Try.prog 31 E_begins := by
  intro vs b k n e h hn hp
  unfold E_begins at h
  split at h
  · cases h; obtain ⟨hp0, hp1, hp2, hp3, hp4, hp5, hq0, hq1⟩ := hp; obtain ⟨_, rfl⟩ := LI_ex hq0; obtain ⟨_, rfl⟩ := LI_ex hq1; simp only [ints_LI, bys_LB, blks_LK, lls_LL] at hp0 hp1 hp2 hp3 hp4 hp5 ⊢; exact (spec_begins _ _ _ _ hp0 hp1 hp2 hp3 hp4 hp5).lift rfl _
  · cases h

theorem spec_equal19 (s : List UInt8) (w : Int) (hw : 0 ≤ w ∧ w ≤ 255) : Spec Try.prog 0 5 [vL (LB s), vI .u8 w] [] [] (vB true) [] [] := by
  refine spec_of_E (X := ⟨Try.prog, tt, Try.f5.ntmps, 1, fun _ => 0, (tab [(8, E_sane), (11, E_new), (14, E_next), (25, E_bnew), (28, E_rsilence), (29, E_mblock), (18, E_pull), (15, E_push), (30, E_join), (31, E_begins)])⟩) (M := [(4, [0, 0, 0, 0, 0, 81129638416968009052671849783283, 0, 0, 0, 0, 0, 0]), (6, [0, 0, 0, 0, 0, 81129638416968079385971809837043, 0, 0, 0, 0, 0, 81129638416968063095607532707827, 0, 0]), (15, [0, 0, 0, 0, 0, 81129711254748640833819780308979, 0, 0, 0, 0, 0, 81129696445407350554612390158323, 0, 0]), (17, [0, 0, 0, 0, 0, 161942364181517633397826833604595, 0, 0, 0, 0, 0, 152118072029748855536227383762931, 0, 0])]) (m := 81129638416968009052412004261875) rfl rfl ⟨tt_ok, tab_ok (tabs_cons E_sane_ok (tabs_cons E_new_ok (tabs_cons E_next_ok (tabs_cons E_bnew_ok (tabs_cons E_rsilence_ok (tabs_cons E_mblock_ok (tabs_cons E_pull_ok (tabs_cons E_push_ok (tabs_cons E_join_ok (tabs_cons E_begins_ok tabs_nil)))))))))) _ rfl rfl⟩ tt_mixed Try.func5 rfl (by decide) (by show (2 : Nat) ≤ _; exact Nat.le_of_ble_eq_true rfl) ⟨fun m hm => (V.bare_has rfl m hm).elim, by simp, by simp⟩ ?_
  simp only [↓gPre, gPost, gCore, handV, V.bufs, buildArr, toCs, Nat.reduceShiftRight, Nat.reduceMod, addB, addK, zeroOp, callSem, resName, keepsB, newB, V.pure, C.pure, V.ptrs, C.ptrs, C.bufs, appendSem, appendTo, appendZ, dstOk, lk, V.cells, Op.eff, partV, partD, cut, lay, zeroD, C.toDs, C.toD, V.toD, toDs, buildCells, if_true, if_false, ↓reduceIte, reduceCtorEq, Nat.reduceEqDiff, Nat.reduceLT, Nat.reduceLeDiff, implies_true, forall_const, eq_self, ne_eq, not_true_eq_false, not_false_eq_true, imp_self, Nat.reduceAdd, Nat.reduceMul, Int.reduceLE, Int.reduceLT, Int.reduceNeg, Int.reduceAdd, Int.reduceToNat, E_sane_eq, E_new_eq, E_next_eq, E_bnew_eq, E_rsilence_eq, E_mblock_eq, E_pull_eq, E_push_eq, E_join_eq, E_begins_eq, rs_eta, ph_eta, ct_eta, br_eta, Try.ntmps5, Try.results5, gTT]
  have a1 := dN_lt (List.take 300 s) 12 (by decide)
  have a2 := dN_ge (List.take 300 s) 12
  have b1 := dN_lt (dT (List.take 300 s) 12) 40 (by decide)
  have b2 := dN_ge (dT (List.take 300 s) 12) 40
  have c1 := dN_lt (dT (dT (List.take 300 s) 12) 40) 2 (by decide)
  have c2 := dN_ge (dT (dT (List.take 300 s) 12) 40) 2
  have d1 := dN_lt (dT (dT (dT (List.take 300 s) 12) 40) 2) 5 (by decide)
  have d2 := dN_ge (dT (dT (dT (List.take 300 s) 12) 40) 2) 5
  have e1 := dN_lt (dT (dT (dT (dT (List.take 300 s) 12) 40) 2) 5) 99 (by decide)
  have e2 := dN_ge (dT (dT (dT (dT (List.take 300 s) 12) 40) 2) 5) 99
  rw [IntWalk.i64_in (4 + _) (by omega), IntWalk.i64_in (20 + _) (by omega), IntWalk.i64_in (1 + dN (dT (dT (List.take 300 s) 12) 40) 2) (by omega), IntWalk.i64_in (1 + dN (dT (dT (dT (dT (List.take 300 s) 12) 40) 2) 5) 99) (by omega), IntWalk.i64_in (_ + (4 + _)) (by omega)]
  generalize dT (dT (dT (dT (dT (List.take 300 s) 12) 40) 2) 5) 99 = l5 at *
  generalize dN (dT (dT (dT (dT (List.take 300 s) 12) 40) 2) 5) 99 = gg at *
  generalize dN (dT (dT (dT (List.take 300 s) 12) 40) 2) 5 = dd at *
  generalize hch : 1 + dN (dT (dT (List.take 300 s) 12) 40) 2 = ch at *
  obtain ⟨T, hT⟩ : ∃ T : Nat, 20 + dN (dT (List.take 300 s) 12) 40 = (T : Int) := ⟨(20 + dN (dT (List.take 300 s) 12) 40).toNat, by omega⟩
  obtain ⟨nn, hnn⟩ : ∃ nn : Nat, 4 + dN (List.take 300 s) 12 = (nn : Int) := ⟨(4 + dN (List.take 300 s) 12).toNat, by omega⟩
  rw [hT, hnn]
  have hT2 : 20 ≤ T ∧ T ≤ 59 := by omega
  have hn2 : 4 ≤ nn ∧ nn ≤ 15 := by omega
  clear hT hnn a1 a2 b1 b2
  have hcc : 1 ≤ ch ∧ ch ≤ 2 := by omega
  have hct : ctV ⟨(T : Int), dd, 1 + gg, 1000⟩ = true := by
    simp only [ctV, Bool.and_eq_true, decide_eq_true_eq]
    omega
  obtain ⟨n1, n2, n3, n4⟩ := new_ok (ch := ch) (n := 1) (d := 1) (q := (T : Int) + nn) (fi := T) (x := ⟨(T : Int), dd, 1 + gg, 1000⟩) (by omega) p1_V hct (by omega) (by omega)
  obtain ⟨f1, f2, f3, f4, f5⟩ := new_feed (ch := ch) (n := 1) (d := 1) (fi := (T : Int)) (by omega) p1_V (by omega)
  have n5 : bnR ch 1 1 ⟨(T : Int), dd, 1 + gg, 1000⟩ ((T : Int) + nn) T = eqB ((T : Int) + nn) ⟨(T : Int), dd, 1 + gg, 1000⟩ ch (List.replicate (ch * T).toNat 0) 0 := by
    rw [n2]
    unfold eqB
    rw [stR_zero p1_V]
    rfl
  rw [n1, n5, f2, f3]
  have hZl : (List.replicate (ch * (T : Int)).toNat (0 : Int)).length = T * ch.toNat := by rw [List.length_replicate, f4, Int.toNat_natCast, show (T : Int).toNat = T from Int.toNat_natCast T]
  have hZa : (List.replicate (ch * (T : Int)).toNat (0 : Int)).all smpX = true := by
    rw [List.all_eq_true]
    intro z hz
    rw [List.eq_of_mem_replicate hz]
    decide
  generalize List.replicate (ch * (T : Int)).toNat (0 : Int) = Z at *
  have hmm : (ch * (nn : Int)).toNat = nn * ch.toNat := by
    have : ch * (nn : Int) = ((nn * ch.toNat : Nat) : Int) := by rw [Int.natCast_mul, Int.toNat_of_nonneg (by omega), Int.mul_comm]
    rw [this, Int.toNat_natCast]
  have ht1 : 0 ≤ w.tmod 12 ∧ w.tmod 12 < 12 := by rw [Int.tmod_eq_emod_of_nonneg hw.1]; omega
  refine ⟨fun h => absurd h (by decide), fun _ => ?_⟩
  refine ELoop_keep (fun g => ⟨[(16, vI .i64 (g : Nat))], [(⟨1, 10⟩, [.d (.int .i64 (eqB ((T : Int) + nn) ⟨(T : Int), dd, 1 + gg, 1000⟩ ch (eqS Z l5 (nn * ch.toNat) g) (g * nn)).q), .d (.int .i64 (eqB ((T : Int) + nn) ⟨(T : Int), dd, 1 + gg, 1000⟩ ch (eqS Z l5 (nn * ch.toNat) g) (g * nn)).c.t), .d (.int .i64 (eqB ((T : Int) + nn) ⟨(T : Int), dd, 1 + gg, 1000⟩ ch (eqS Z l5 (nn * ch.toNat) g) (g * nn)).c.d), .d (.int .i64 (eqB ((T : Int) + nn) ⟨(T : Int), dd, 1 + gg, 1000⟩ ch (eqS Z l5 (nn * ch.toNat) g) (g * nn)).c.g), .d (.int .i64 (eqB ((T : Int) + nn) ⟨(T : Int), dd, 1 + gg, 1000⟩ ch (eqS Z l5 (nn * ch.toNat) g) (g * nn)).c.m), .d (.int .i64 (eqB ((T : Int) + nn) ⟨(T : Int), dd, 1 + gg, 1000⟩ ch (eqS Z l5 (nn * ch.toNat) g) (g * nn)).r.c), .d (.int .i64 (eqB ((T : Int) + nn) ⟨(T : Int), dd, 1 + gg, 1000⟩ ch (eqS Z l5 (nn * ch.toNat) g) (g * nn)).r.p.n), .d (.int .i64 (eqB ((T : Int) + nn) ⟨(T : Int), dd, 1 + gg, 1000⟩ ch (eqS Z l5 (nn * ch.toNat) g) (g * nn)).r.p.d), .d (.int .i64 (eqB ((T : Int) + nn) ⟨(T : Int), dd, 1 + gg, 1000⟩ ch (eqS Z l5 (nn * ch.toNat) g) (g * nn)).r.p.a), .d (.int .i64 (eqB ((T : Int) + nn) ⟨(T : Int), dd, 1 + gg, 1000⟩ ch (eqS Z l5 (nn * ch.toNat) g) (g * nn)).r.p.p), .d (.int .i64 (eqB ((T : Int) + nn) ⟨(T : Int), dd, 1 + gg, 1000⟩ ch (eqS Z l5 (nn * ch.toNat) g) (g * nn)).r.p.f), .d (.list (LI .i32 (eqB ((T : Int) + nn) ⟨(T : Int), dd, 1 + gg, 1000⟩ ch (eqS Z l5 (nn * ch.toNat) g) (g * nn)).r.l)), .d (.int .i64 (eqB ((T : Int) + nn) ⟨(T : Int), dd, 1 + gg, 1000⟩ ch (eqS Z l5 (nn * ch.toNat) g) (g * nn)).lo), .d (.int .i64 (eqB ((T : Int) + nn) ⟨(T : Int), dd, 1 + gg, 1000⟩ ch (eqS Z l5 (nn * ch.toNat) g) (g * nn)).mi)]), (⟨1, 28⟩, [.d (.list (LB (eqQ l5 (nn * ch.toNat) g)))]), (⟨1, 14⟩, [.d (.int .i64 ch), .d (.list (LI .i32 (eqS Z l5 (nn * ch.toNat) g)))]), (⟨1, 15⟩, [.d (.int .i64 ch), .d (.list (LI .i32 ((eqS Z l5 (nn * ch.toNat) g).take (g * nn * ch.toNat))))])], []⟩) (fun g => (g : Int) ≤ w.tmod 12) (fun g => 12 - g) (· + 1) 0 (by omega) ?_ ?_
  · simp only [↓gPre, gPost, gCore, handV, V.bufs, buildArr, toCs, Nat.reduceShiftRight, Nat.reduceMod, addB, addK, zeroOp, callSem, resName, keepsB, newB, V.pure, C.pure, V.ptrs, C.ptrs, C.bufs, appendSem, appendTo, appendZ, dstOk, lk, V.cells, Op.eff, partV, partD, cut, lay, zeroD, C.toDs, C.toD, V.toD, toDs, buildCells, if_true, if_false, ↓reduceIte, reduceCtorEq, Nat.reduceEqDiff, Nat.reduceLT, Nat.reduceLeDiff, implies_true, forall_const, eq_self, ne_eq, not_true_eq_false, not_false_eq_true, imp_self, Nat.reduceAdd, Nat.reduceMul, Int.reduceLE, Int.reduceLT, Int.reduceNeg, Int.reduceAdd, Int.reduceToNat, E_sane_eq, E_new_eq, E_next_eq, E_bnew_eq, E_rsilence_eq, E_mblock_eq, E_pull_eq, E_push_eq, E_join_eq, E_begins_eq, rs_eta, ph_eta, ct_eta, br_eta, Try.ntmps5, Try.results5, gTT]
    rw [Nat.zero_mul, Nat.zero_mul, List.take_zero]
    exact ⟨rfl, ⟨rfl, rfl, rfl, rfl, rfl, rfl, rfl, rfl, rfl, rfl, rfl, rfl, rfl, rfl⟩, rfl, rfl, rfl⟩
  intro g hg
  simp only [↓gPre, gPost, gCore, handV, V.bufs, buildArr, toCs, Nat.reduceShiftRight, Nat.reduceMod, addB, addK, zeroOp, callSem, resName, keepsB, newB, V.pure, C.pure, V.ptrs, C.ptrs, C.bufs, appendSem, appendTo, appendZ, dstOk, lk, V.cells, Op.eff, partV, partD, cut, lay, zeroD, C.toDs, C.toD, V.toD, toDs, buildCells, if_true, if_false, ↓reduceIte, reduceCtorEq, Nat.reduceEqDiff, Nat.reduceLT, Nat.reduceLeDiff, implies_true, forall_const, eq_self, ne_eq, not_true_eq_false, not_false_eq_true, imp_self, Nat.reduceAdd, Nat.reduceMul, Int.reduceLE, Int.reduceLT, Int.reduceNeg, Int.reduceAdd, Int.reduceToNat, E_sane_eq, E_new_eq, E_next_eq, E_bnew_eq, E_rsilence_eq, E_mblock_eq, E_pull_eq, E_push_eq, E_join_eq, E_begins_eq, rs_eta, ph_eta, ct_eta, br_eta, Try.ntmps5, Try.results5, gTT]
  rw [IntWalk.i64_in (w.tmod 12) (by omega), hmm]
  have hg11 : g ≤ 11 := by omega
  have hgn := Nat.mul_le_mul hg11 (show nn ≤ 15 by omega)
  obtain ⟨s1, s2⟩ := eqS_ok l5 hZl hZa g (n := nn)
  have hS : eqS Z l5 (nn * ch.toNat) (g + 1) = eqS Z l5 (nn * ch.toNat) g ++ bkO (eqQ l5 (nn * ch.toNat) g) (nn * ch.toNat) := rfl
  have hQ : eqQ l5 (nn * ch.toNat) (g + 1) = bkR (eqQ l5 (nn * ch.toNat) g) (nn * ch.toNat) := rfl
  rw [hS, hQ]
  have xl := bkO_len (eqQ l5 (nn * ch.toNat) g) (nn * ch.toNat)
  have xa := bkO_all (eqQ l5 (nn * ch.toNat) g) (nn * ch.toNat)
  generalize bkO (eqQ l5 (nn * ch.toNat) g) (nn * ch.toNat) = X at *
  generalize eqS Z l5 (nn * ch.toNat) g = Sg at *
  have hg1 : (g + 1) * nn = g * nn + nn := by rw [Nat.add_mul, Nat.one_mul]
  generalize g * nn = N at *
  obtain ⟨u1, u2, u3, u4, u5⟩ := eq_pull (q := (T : Int) + nn) (ct := ⟨(T : Int), dd, 1 + gg, 1000⟩) (ch := ch) (s := Sg) (N := N) (W := T + N) (n := nn) (by omega) hct s1 s2 (by omega) (by omega) (by omega) (by show (T : Int) = _; omega)
  obtain ⟨v1, v2, v3⟩ := eq_push (q := (T : Int) + nn) (ct := ⟨(T : Int), dd, 1 + gg, 1000⟩) (ch := ch) (s := Sg) (y := X) (N := N + nn) (W := T + N) (n := nn) (by omega) hct s1 s2 xl xa (by omega) (by omega) (by omega)
  obtain ⟨o1, o2⟩ := eq_ok (q := (T : Int) + nn) (ct := ⟨(T : Int), dd, 1 + gg, 1000⟩) (ch := ch) (s := Sg) (N := N) (W := T + N) (by omega) hct s1 s2 (by omega) (by omega) (by omega)
  obtain ⟨o3, o4⟩ := eq_ok (q := (T : Int) + nn) (ct := ⟨(T : Int), dd, 1 + gg, 1000⟩) (ch := ch) (s := Sg) (N := N + nn) (W := T + N) (by omega) hct s1 s2 (by omega) (by omega) (by omega)
  have l1 := o1.len
  have l3 := o3.len
  have hsb := Nat.mul_le_mul (show T + N ≤ 300 by omega) (show ch.toNat ≤ 2 by omega)
  have hxb := Nat.mul_le_mul (show nn ≤ 15 by omega) (show ch.toNat ≤ 2 by omega)
  have hnb := Nat.mul_le_mul (show N + nn ≤ 300 by omega) (show ch.toNat ≤ 2 by omega)
  have hNs : (N + nn) * ch.toNat ≤ Sg.length := by rw [s1]; exact Nat.mul_le_mul_right _ (by omega)
  have hNs2 : N * ch.toNat ≤ Sg.length := by rw [s1]; exact Nat.mul_le_mul_right _ (by omega)
  have htk : (Sg ++ X).take ((N + nn) * ch.toNat) = Sg.take ((N + nn) * ch.toNat) := List.take_append_of_le_length hNs
  have hol := congrArg List.length u5
  rw [List.length_append, List.length_take, List.length_take] at hol
  have htl : (Sg.take (N * ch.toNat)).length = N * ch.toNat := by rw [List.length_take]; omega
  rw [hg1, htk, ← u5, u1, u2, u4, v1, v2, v3]
  refine ⟨by decide, fun h1 => ?_, fun h1 => ?_⟩
  · have := of_decide_eq_true h1
    exact ⟨⟨by omega, by omega⟩, by omega, ⟨by omega, by omega⟩, fun h => absurd h (by decide), fun _ => ⟨by kernel_rfl, by omega, by rw [htl]; omega, ⟨(wrapN _ (by omega)).symm, ⟨rfl, rfl, rfl, rfl, rfl, rfl, rfl, rfl, rfl, rfl, rfl, rfl, rfl, rfl⟩, rfl, rfl, rfl⟩, by omega, by omega⟩⟩
  · exact ⟨blkV_mk (by omega) htl (by omega) (all_take s2 _), by omega, by omega, by rw [htl], blkV_mk (by omega) s1 (by omega) s2⟩

end Go.Vam
