/- Waves and ratios from dice. Conditions: none. -/
import Derived.Test.YtjciocipdoophaaGreatCvF
set_option linter.unusedVariables false
set_option linter.defProp false
set_option linter.unusedSimpArgs false
set_option maxRecDepth 40000
set_option maxHeartbeats 4000000
namespace Go.Vam
open Go.Proofs

/-- A sample of a wave; a wave. -/
def waV (s i c : Int) : Int := ((i * 7919 + c * 104729 + s * 15485863).tmod 4001 - 2000) * 1000
def waF (s i : Int) (n : Nat) : List Int := (List.range n).map fun (c : Nat) => waV s i (c : Int)
def waO (s ch fr : Int) : Nat → List Int
  | 0 => []
  | k + 1 => waO s ch fr k ++ waF s (fr + k) ch.toNat
theorem waF_len (s i : Int) (n : Nat) : (waF s i n).length = n := by simp [waF]
theorem waF_succ (s i : Int) (n : Nat) : waF s i (n + 1) = waF s i n ++ [waV s i n] := by simp [waF, List.range_succ]
theorem waO_len (s ch fr : Int) : ∀ k, (waO s ch fr k).length = k * ch.toNat
  | 0 => by simp [waO]
  | k + 1 => by rw [waO, List.length_append, waF_len, waO_len s ch fr k, Nat.add_mul, Nat.one_mul]
theorem waV_in (s i c : Int) : -8388608 ≤ waV s i c ∧ waV s i c ≤ 8388607 := by
  have h1 := Int.lt_tmod_of_pos (i * 7919 + c * 104729 + s * 15485863) (show (0 : Int) < 4001 by decide)
  have h2 := Int.tmod_lt_of_pos (i * 7919 + c * 104729 + s * 15485863) (show (0 : Int) < 4001 by decide)
  unfold waV
  omega
theorem waO_all (s ch fr : Int) : ∀ k, (waO s ch fr k).all smpX = true
  | 0 => rfl
  | k + 1 => by
    rw [waO, List.all_append, waO_all s ch fr k, Bool.true_and, List.all_eq_true]
    intro x hx
    simp only [waF, List.mem_map] at hx
    obtain ⟨j, _, rfl⟩ := hx
    have := waV_in s (fr + k) j
    simp only [smpX, Bool.and_eq_true, decide_eq_true_eq]
    exact this
theorem waO_blk (s fr : Int) {ch : Int} {k : Nat} (hc : 1 ≤ ch ∧ ch ≤ 8) (hk : k ≤ 65536) : blkV ch (waO s ch fr k) = true := blkV_mk hc (waO_len s ch fr k) hk (waO_all s ch fr k)
theorem waV_go {s i c : Int} (hs : -1000 ≤ s ∧ s ≤ 1000) (hi : -10000 ≤ i ∧ i ≤ 10000) (hc : 0 ≤ c ∧ c ≤ 8) :
    IntKind.i32.wrap (IntKind.i64.wrap (IntKind.i64.wrap ((IntKind.i64.wrap (IntKind.i64.wrap (IntKind.i64.wrap (i * 7919) + IntKind.i64.wrap (c * 104729)) + IntKind.i64.wrap (s * 15485863))).tmod 4001 - 2000) * 1000)) = waV s i c := by
  have hv := waV_in s i c
  have h1 := Int.lt_tmod_of_pos (i * 7919 + c * 104729 + s * 15485863) (show (0 : Int) < 4001 by decide)
  have h2 := Int.tmod_lt_of_pos (i * 7919 + c * 104729 + s * 15485863) (show (0 : Int) < 4001 by decide)
  rw [IntWalk.i64_in (i * 7919) (by omega), IntWalk.i64_in (c * 104729) (by omega), IntWalk.i64_in (s * 15485863) (by omega), IntWalk.i64_in (i * 7919 + c * 104729) (by omega), IntWalk.i64_in (i * 7919 + c * 104729 + s * 15485863) (by omega)]
  unfold waV at hv ⊢
  rw [IntWalk.i64_in (_ - 2000) (by omega), IntWalk.i64_in (_ * 1000) (by omega), IntWalk.i32_in _ (by omega)]
def mqE (n d : Int) : Int := if (decide (n < 1) || decide (d < 1)) = true then 1 else if (decide (68719476736 < n / gcdI n d) || decide (68719476736 < d / gcdI n d)) = true then 2 else 0
def mqN (n d : Int) : Int := if mqE n d = 0 then n / gcdI n d else 0
def mqD (n d : Int) : Int := if mqE n d = 0 then d / gcdI n d else 0
theorem gcdI_pos {n d : Int} (hn : 1 ≤ n) : 1 ≤ gcdI n d := by
  unfold gcdI
  have := Nat.gcd_pos_of_pos_left d.toNat (show 0 < n.toNat by omega)
  omega
def baT (i : Nat) : Int := ([48000, 48000, 44100, 96000, 8000, 32000, 192000, 1000, 768000, 47999] : List Int)[i]?.getD 0
def baN (l : List UInt8) : Int := mqN (baT (dN l 10).toNat) (baT (dN (dT l 10) 10).toNat)
def baD (l : List UInt8) : Int := mqD (baT (dN l 10).toNat) (baT (dN (dT l 10) 10).toNat)
def baR (l : List UInt8) : List UInt8 := dT (dT l 10) 10
theorem ba_ok (l : List UInt8) : phV ⟨baN l, baD l, 0, 0, 0⟩ = true := by
  have h1 := dN_lt l 10 (by decide)
  have h2 := dN_lt (dT l 10) 10 (by decide)
  have h3 := dN_ge l 10
  have h4 := dN_ge (dT l 10) 10
  have key : ∀ i, i < 10 → ∀ j, j < 10 → phV ⟨mqN (baT i) (baT j), mqD (baT i) (baT j), 0, 0, 0⟩ = true := by decide +kernel
  exact key _ (by omega) _ (by omega)
def adT (i : Nat) : Int := ([0, 0, 5, -5, 4096, -4096] : List Int)[i]?.getD 0
theorem adT_in {i : Nat} : -4096 ≤ adT i ∧ adT i ≤ 4096 := by
  by_cases h : i < 6
  · have key : ∀ i, i < 6 → -4096 ≤ adT i ∧ adT i ≤ 4096 := by decide
    exact key i h
  · unfold adT
    rw [List.getElem?_eq_none (by simpa using h)]
    decide
/-- A resampler from dice: the first one; after so many rounds. -/
def mrI (l : List UInt8) (ch : Int) : Rs := ⟨ch, ⟨baN l, baD l, adT (dN (baR l) 6).toNat, 0, 0⟩, []⟩
def mrD (l : List UInt8) : List UInt8 := dT (dT (baR l) 6) 3
def mrN (l : List UInt8) : Nat := (dN (dT (baR l) 6) 3).toNat
def mrQ (l : List UInt8) (k : Nat) : List UInt8 := match k with
  | 0 => mrD l
  | k + 1 => dT (mrQ l k) 12
def mrS (l : List UInt8) (ch : Int) : Nat → Rs
  | 0 => mrI l ch
  | k + 1 => if cvE (mrS l ch k) ch (waO ((mrN l : Int) - k) ch 0 (dN (mrQ l k) 12).toNat) = 0 then cvR (mrS l ch k) ch (waO ((mrN l : Int) - k) ch 0 (dN (mrQ l k) 12).toNat) else mrS l ch k
def mrX (l : List UInt8) (ch : Int) : Rs := mrS l ch (mrN l)
def mrR (l : List UInt8) : List UInt8 := mrQ l (mrN l)
/-- A valid resampler with so many channels. -/
structure okR (x : Rs) (ch : Int) : Prop where
  v : rsV x = true
  c : x.c = ch
  len : x.l.length ≤ 524288
theorem rs_len {x : Rs} (h : rsV x = true) (hl : x.l.length ≤ 1000000) : x.l.length ≤ 524288 := by
  obtain ⟨⟨k1, k2⟩, k3, k4, k5⟩ := blk_in (rsV_in h).2 hl
  have := Nat.mul_le_mul k4 (show x.c.toNat ≤ 8 by omega)
  omega
theorem phV_at {p : Ph} (h : phV p = true) {P F : Int} (hP : 0 ≤ P ∧ P ≤ 1125899906842624) (hF : 0 ≤ F ∧ F < prt p) : phV ⟨p.n, p.d, p.a, P, F⟩ = true := by
  simp only [phV, Bool.and_eq_true, decide_eq_true_eq] at h ⊢
  exact ⟨⟨⟨⟨h.1.1.1.1, hP.1⟩, hP.2⟩, hF.1⟩, hF.2⟩
theorem po_ok {x : Rs} {n : Int} (hv : rsV x = true) (hl : x.l.length ≤ 1000000) (he : poE x n = 0) : rsV (poR x n) = true ∧ (poR x n).c = x.c ∧ (poR x n).l.length ≤ x.l.length ∧ (poR x n).p = ⟨x.p.n, x.p.d, x.p.a, x.p.p + qAt x.p n, fAt x.p n⟩ ∧ (0 ≤ n ∧ n ≤ 65536) := by
  have hE : adE x.p n = 0 := he
  obtain ⟨h1, h2⟩ := adE_ok hE
  obtain ⟨hp, hn⟩ := phC_ok h1
  have hq := qAt_in hp hn
  have hpi := phV_in hp
  have h3 : x.p.p + qAt x.p n ≤ 1125899906842624 := by
    unfold adE at hE
    rw [if_pos h1] at hE
    have e : atP x.p n = x.p.p + qAt x.p n := by unfold atP; rw [if_pos h1]
    rw [e] at hE
    split at hE
    · cases hE
    · omega
  have e : poR x n = ⟨x.c, adP x.p n, x.l.drop (min x.l.length (qN x.p n.toNat * x.c.toNat))⟩ := by unfold poR; rw [if_pos he]
  obtain ⟨⟨k1, k2⟩, k3, k4, k5⟩ := blk_in (rsV_in hv).2 hl
  have hg := gone_min (q := qN x.p n.toNat) k3
  rw [e, h2]
  refine ⟨?_, rfl, by show (List.drop _ x.l).length ≤ _; rw [List.length_drop]; omega, rfl, hn⟩
  unfold rsV
  rw [phV_at hp (by omega) ⟨hq.2.1, hq.2.2.1⟩, Bool.true_and]
  refine blkV_mk (z := x.l.length / x.c.toNat - min (x.l.length / x.c.toNat) (qN x.p n.toNat)) ⟨k1, k2⟩ ?_ (Nat.le_trans (Nat.sub_le _ _) k4) ?_
  · show (List.drop _ x.l).length = _
    rw [List.length_drop, Nat.sub_mul, hg, ← k3]
  · rw [List.all_eq_true] at k5 ⊢
    intro y hy
    exact k5 y (List.mem_of_mem_drop hy)
theorem tkE_po {x : Rs} {n : Int} (h : tkE x n = 0) : rcE x n = 0 ∧ poE x n = 0 ∧ ned x.p n ≤ ((x.l.length / x.c.toNat : Nat) : Int) := by
  unfold tkE at h
  split at h
  · rename_i h1; exact absurd h h1
  · rename_i h1
    split at h
    · cases h
    · rename_i h2
      exact ⟨by simpa using h1, h, by omega⟩
theorem cvE_tk {x : Rs} {k : Int} {y : List Int} (h : cvE x k y = 0) : feE x k y = 0 ∧ tkE (feR x k y) (cvN x k y) = 0 := by
  unfold cvE at h
  split at h
  · rename_i h1; exact absurd h h1
  · rename_i h1; exact ⟨by simpa using h1, h⟩
theorem cv_ok {x : Rs} {k : Int} {y : List Int} {ch : Int} (hx : okR x ch) (hy : y.length ≤ 1000000) (h : cvE x k y = 0) : okR (cvR x k y) ch := by
  obtain ⟨h1, h2⟩ := cvE_tk h
  obtain ⟨f1, f2, f3⟩ := feR_ok h1 (by have := hx.len; omega) hy
  obtain ⟨p1, p2, p3⟩ := po_ok f2 (by omega) (tkE_po h2).2.1
  have e : cvR x k y = poR (feR x k y) (cvN x k y) := by unfold cvR; rw [if_pos h]
  have hf := rs_len f2 (by omega)
  rw [e]
  refine ⟨p1, ?_, by omega⟩
  rw [p2, f1]
  exact hx.c
theorem phV_adj {p : Ph} (h : phV p = true) {a : Int} (ha : -4096 ≤ a ∧ a ≤ 4096) : phV { p with a := a } = true := by
  simp only [phV, tuX, prt, Bool.and_eq_true, decide_eq_true_eq] at h ⊢
  exact ⟨⟨⟨⟨⟨⟨h.1.1.1.1.1.1, h.1.1.1.1.1.2⟩ , ha⟩, h.1.1.1.2⟩, h.1.1.2⟩, h.1.2⟩, h.2⟩
theorem blk_nil {ch : Int} (hc : 1 ≤ ch ∧ ch ≤ 8) : blkV ch [] = true := blkV_mk (z := 0) hc (by simp) (by decide) rfl
theorem mrI_ok (l : List UInt8) {ch : Int} (hc : 1 ≤ ch ∧ ch ≤ 8) : okR (mrI l ch) ch := by
  refine ⟨?_, rfl, Nat.zero_le _⟩
  unfold rsV mrI
  rw [phV_adj (p := ⟨baN l, baD l, 0, 0, 0⟩) (ba_ok l) adT_in, blk_nil hc]
  rfl
theorem mrW_len (l : List UInt8) {ch : Int} (hc : 1 ≤ ch ∧ ch ≤ 8) (s : Int) (k : Nat) : (waO s ch 0 (dN (mrQ l k) 12).toNat).length ≤ 96 := by
  have h1 := dN_lt (mrQ l k) 12 (by decide)
  have := Nat.mul_le_mul (show (dN (mrQ l k) 12).toNat ≤ 12 by omega) (show ch.toNat ≤ 8 by omega)
  rw [waO_len]
  omega
theorem mrS_ok (l : List UInt8) {ch : Int} (hc : 1 ≤ ch ∧ ch ≤ 8) : ∀ k, okR (mrS l ch k) ch
  | 0 => mrI_ok l hc
  | k + 1 => by
    unfold mrS
    split
    · rename_i h
      exact cv_ok (mrS_ok l hc k) (Nat.le_trans (mrW_len l hc _ k) (by decide)) h
    · exact mrS_ok l hc k


theorem spec_qmake (n d : Int) (hn : n ≤ 1000000000000) (hd : d ≤ 1000000000000) : Spec Tryz.prog 0 26 [vI .i64 n, vI .i64 d] [] [] (.tup [.agg [.int .i64 (mqN n d), .int .i64 (mqD n d)], .int .i64 (mqE n d)]) [] [] := by
  refine spec_of_E (X := ⟨Tryz.prog, tt, Tryz.f26.ntmps, 1, fun _ => 0, (tab [(62, E_rgcd)])⟩) (M := []) (m := 4294975731) rfl rfl ⟨tt_ok, tab_ok (tabs_cons E_rgcd_ok tabs_nil) _ rfl rfl⟩ tt_mixed Tryz.func26 rfl (by decide) (by show (2 : Nat) ≤ _; exact Nat.le_of_ble_eq_true rfl) ⟨by simp [V.has, C.has], by simp [C.has], by simp⟩ ?_
  simp only [↓gPre, gPost, gCore, gDef, Nat.reduceShiftRight, Nat.reduceMod, if_true, if_false, ↓reduceIte, reduceCtorEq, Nat.reduceEqDiff, Nat.reduceLT, Nat.reduceLeDiff, implies_true, forall_const, eq_self, ne_eq, not_true_eq_false, not_false_eq_true, imp_self, Nat.reduceAdd, Nat.reduceMul, Int.reduceLE, Int.reduceLT, Int.reduceNeg, Int.reduceAdd, Int.reduceToNat, E_rgcd_eq, Tryz.ntmps26, Tryz.results26, gTT]
  refine ⟨fun h => ?_, fun h => ?_⟩
  · have e : mqE n d = 1 := by unfold mqE; rw [if_pos h]
    simp [mqN, mqD, e]
  have hb : 1 ≤ n ∧ 1 ≤ d := by simp only [Bool.or_eq_false_iff, decide_eq_false_iff_not] at h; omega
  have hg := gcdI_pos (d := d) hb.1
  have h1 : 0 ≤ n / gcdI n d ∧ n / gcdI n d ≤ n := ⟨Int.ediv_nonneg (by omega) (by omega), Int.ediv_le_self _ (by omega)⟩
  have h2 : 0 ≤ d / gcdI n d ∧ d / gcdI n d ≤ d := ⟨Int.ediv_nonneg (by omega) (by omega), Int.ediv_le_self _ (by omega)⟩
  refine ⟨by omega, by kernel_rfl, by omega, by omega, ?_⟩
  rw [Int.tdiv_eq_ediv_of_nonneg (by omega), Int.tdiv_eq_ediv_of_nonneg (by omega), IntWalk.i64_in (n / gcdI n d) (by omega), IntWalk.i64_in (d / gcdI n d) (by omega)]
  refine ⟨fun h3 => ?_, fun h3 => ?_⟩
  · have e : mqE n d = 2 := by unfold mqE; rw [if_neg (by rw [h]; decide), if_pos h3]
    simp [mqN, mqD, e]
  · have e : mqE n d = 0 := by unfold mqE; rw [if_neg (by rw [h]; decide), if_neg (by rw [h3]; decide)]
    simp [mqN, mqD, e]
def E_qmake : List V → Boxes → Toks → Name → Option Ent
  | [.c (.d (.int .i64 n)), .c (.d (.int .i64 d))], [], [], _ => some ⟨n ≤ 1000000000000 ∧ d ≤ 1000000000000, .tup [.agg [.int .i64 (mqN n d), .int .i64 (mqD n d)], .int .i64 (mqE n d)], [], []⟩
  | _, _, _, _ => none
def E_qmake_eq := And.intro (@E_qmake.eq_1) (@E_qmake.eq_1)
theorem E_qmake_ok : Snd Tryz.prog 26 E_qmake := by
  intro vs b k n e h hn hp
  unfold E_qmake at h
  split at h
  · cases h; obtain ⟨hp0, hp1⟩ := hp; exact (spec_qmake _ _ hp0 hp1).lift rfl _
  · cases h

theorem spec_rssame (c n d a p f : Int) (l : List Int) (c2 n2 d2 a2 p2 f2 : Int) (l2 : List Int) (hl : l.length ≤ 1000000000) : Spec Tryz.prog 0 41 [.agg [.d (.int .i64 c), .d (.int .i64 n), .d (.int .i64 d), .d (.int .i64 a), .d (.int .i64 p), .d (.int .i64 f), .d (.list (LI .i32 l))], .agg [.d (.int .i64 c2), .d (.int .i64 n2), .d (.int .i64 d2), .d (.int .i64 a2), .d (.int .i64 p2), .d (.int .i64 f2), .d (.list (LI .i32 l2))]] [] [] (vB (c == c2 && (n == n2 && (d == d2 && (a == a2 && (p == p2 && f == f2)))) && l == l2)) [] [] := by
  refine spec_of_E (X := ⟨Tryz.prog, tt, Tryz.f41.ntmps, 1, fun _ => 0, (tab [(79, E_samedata)])⟩) (M := [(1, [0, 0, 0, 0, 0, 16776223, 0, 0, 0, 0, 0, 16711711, 0, 0, 0, 0, 0, 12714015, 0, 0])]) (m := 31) rfl rfl ⟨tt_ok, tab_ok (tabs_cons E_samedata_ok tabs_nil) _ rfl rfl⟩ tt_mixed Tryz.func41 rfl (by decide) (by show (2 : Nat) ≤ _; exact Nat.le_of_ble_eq_true rfl) ⟨fun m hm => (V.bare_has rfl m hm).elim, by simp, by simp⟩ ?_
  simp only [↓gPre, gPost, gCore, gDef, Nat.reduceShiftRight, Nat.reduceMod, if_true, if_false, ↓reduceIte, reduceCtorEq, Nat.reduceEqDiff, Nat.reduceLT, Nat.reduceLeDiff, implies_true, forall_const, eq_self, ne_eq, not_true_eq_false, not_false_eq_true, imp_self, Nat.reduceAdd, Nat.reduceMul, Int.reduceLE, Int.reduceLT, Int.reduceNeg, Int.reduceAdd, Int.reduceToNat, E_samedata_eq, Tryz.ntmps41, Tryz.results41, gTT]
  exact fun _ => hl
def E_rssame : List V → Boxes → Toks → Name → Option Ent
  | [.agg [.d (.int .i64 c), .d (.int .i64 n), .d (.int .i64 d), .d (.int .i64 a), .d (.int .i64 p), .d (.int .i64 f), .d (.list q_l)], .agg [.d (.int .i64 c2), .d (.int .i64 n2), .d (.int .i64 d2), .d (.int .i64 a2), .d (.int .i64 p2), .d (.int .i64 f2), .d (.list q_l2)]], [], [], _ => some ⟨(ints q_l).length ≤ 1000000000 ∧ q_l = LI .i32 (ints q_l) ∧ q_l2 = LI .i32 (ints q_l2), vB (c == c2 && (n == n2 && (d == d2 && (a == a2 && (p == p2 && f == f2)))) && (ints q_l) == (ints q_l2)), [], []⟩
  | _, _, _, _ => none
def E_rssame_eq := And.intro (@E_rssame.eq_1) (@E_rssame.eq_1)
theorem E_rssame_ok : Snd Tryz.prog 41 E_rssame := by
  intro vs b k n e h hn hp
  unfold E_rssame at h
  split at h
  · cases h; obtain ⟨hp0, hq0, hq1⟩ := hp; obtain ⟨_, rfl⟩ := LI_ex hq0; obtain ⟨_, rfl⟩ := LI_ex hq1; simp only [ints_LI, bys_LB, blks_LK, lls_LL] at hp0 ⊢; exact (spec_rssame _ _ _ _ _ _ _ _ _ _ _ _ _ _ hp0).lift rfl _
  · cases h

end Go.Vam
