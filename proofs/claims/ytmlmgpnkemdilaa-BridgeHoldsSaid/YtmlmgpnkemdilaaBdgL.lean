/- New; made bridges; sane. Conditions: none. -/
import Derived.Test.YtmlmgpnkemdilaaBdgK
set_option linter.unusedVariables false
set_option linter.unusedSimpArgs false
set_option maxRecDepth 40000
set_option maxHeartbeats 4000000
namespace Go.Vam
open Go.Proofs

/-- A bridge from dice. -/
def bmT (i : Nat) : Int := ([0, 100, 4096] : List Int)[i]?.getD 0
def bm1 (l : List UInt8) : List UInt8 := dT (dT (dT (dT l 40) 6) 60) 3
def bmCt (l : List UInt8) : Ct := ⟨dN l 40, dN (dT l 40) 6, 1 + dN (dT (dT l 40) 6) 60, bmT (dN (dT (dT (dT l 40) 6) 60) 3).toNat⟩
def bmC (l : List UInt8) : Int := 1 + dN (bm1 l) 2
def bm2 (l : List UInt8) : List UInt8 := baR (dT (bm1 l) 2)
def bmI (l : List UInt8) : Br := bnR (bmC l) (baN (dT (bm1 l) 2)) (baD (dT (bm1 l) 2)) (bmCt l) (1 + dN (bm2 l) 60) 0
def bmN (l : List UInt8) : Nat := (dN (dT (bm2 l) 60) 4).toNat
def bmQ (l : List UInt8) : Nat → List UInt8
  | 0 => dT (dT (bm2 l) 60) 4
  | k + 1 => dT (dT (bmQ l k) 30) 12
def bmP (x : Br) (s m : Int) : Br := puR x x.r.c (waO s x.r.c 0 m.toNat)
def bmU (x : Br) (i : Int) : Br := if plE x i = 0 then plR x i else x
def bmS (l : List UInt8) : Nat → Br
  | 0 => bmI l
  | k + 1 => bmU (bmP (bmS l k) ((bmN l : Int) - k) (dN (bmQ l k) 30)) (dN (dT (bmQ l k) 30) 12)
def bmX (l : List UInt8) : Br := bmS l (bmN l)
def bmR (l : List UInt8) : List UInt8 := bmQ l (bmN l)
theorem bmT_in (i : Nat) : 0 ≤ bmT i ∧ bmT i ≤ 4096 := by
  unfold bmT
  match i with
  | 0 => decide
  | 1 => decide
  | 2 => decide
  | i + 3 => exact ⟨by simp, by simp⟩
theorem bmCt_V (l : List UInt8) : ctV (bmCt l) = true := by
  have a1 := dN_lt l 40 (by decide)
  have a2 := dN_ge l 40
  have b1 := dN_lt (dT l 40) 6 (by decide)
  have b2 := dN_ge (dT l 40) 6
  have c1 := dN_lt (dT (dT l 40) 6) 60 (by decide)
  have c2 := dN_ge (dT (dT l 40) 6) 60
  have d1 := bmT_in (dN (dT (dT (dT l 40) 6) 60) 3).toNat
  unfold bmCt ctV
  simp only [Bool.and_eq_true, decide_eq_true_eq]
  refine ⟨⟨⟨⟨⟨⟨⟨?_, ?_⟩, ?_⟩, ?_⟩, ?_⟩, ?_⟩, ?_⟩, ?_⟩ <;> omega
theorem bmC_in (l : List UInt8) : 1 ≤ bmC l ∧ bmC l ≤ 2 := by
  have a1 := dN_lt (bm1 l) 2 (by decide)
  have a2 := dN_ge (bm1 l) 2
  unfold bmC
  omega
theorem nw_ok {c n d : Int} (hc : 1 ≤ c ∧ c ≤ 8) (hp : phV ⟨n, d, 0, 0, 0⟩ = true) : nwE c n d = 0 ∧ nwR c n d = ⟨c, ⟨n, d, 0, 0, 0⟩, []⟩ := by
  have : rsV ⟨c, ⟨n, d, 0, 0, 0⟩, []⟩ = true := by unfold rsV; rw [hp, blk_nil hc]; rfl
  exact ⟨by unfold nwE; rw [if_pos this], by unfold nwR; rw [if_pos this]⟩
theorem new_ok {ch n d q fi : Int} {x : Ct} (hc : 1 ≤ ch ∧ ch ≤ 8) (hp : phV ⟨n, d, 0, 0, 0⟩ = true) (hx : ctV x = true) (hq : 1 ≤ q ∧ q ≤ 65536) (hf : 0 ≤ fi ∧ fi ≤ q) :
    bnE ch n d x q fi = 0 ∧ bnR ch n d x q fi = ⟨q, x, ⟨ch, ⟨n, d, 0, 0, 0⟩, List.replicate (ch * fi).toNat 0⟩, 0, 0⟩ ∧ okB (bnR ch n d x q fi) ch fi ∧ waN (bnR ch n d x q fi).r = fi := by
  obtain ⟨h1, h2⟩ := nw_ok hc hp
  have hE : bnE ch n d x q fi = 0 := by
    unfold bnE
    rw [if_neg (by simp only [Bool.or_eq_true, decide_eq_true_eq]; omega), if_neg (by rw [h1, hx]; decide)]
  have hR : bnR ch n d x q fi = ⟨q, x, ⟨ch, ⟨n, d, 0, 0, 0⟩, List.replicate (ch * fi).toNat 0⟩, 0, 0⟩ := by unfold bnR; rw [if_pos hE]
  have hl : (List.replicate (ch * fi).toNat (0 : Int)).length = fi.toNat * ch.toNat := by
    rw [List.length_replicate]
    have e1 : ch * fi = ((ch.toNat * fi.toNat : Nat) : Int) := by
      rw [Int.natCast_mul, Int.toNat_of_nonneg (by omega), Int.toNat_of_nonneg (by omega)]
    rw [e1, Int.toNat_natCast, Nat.mul_comm]
  have hb : rsV ⟨ch, ⟨n, d, 0, 0, 0⟩, List.replicate (ch * fi).toNat 0⟩ = true := by
    unfold rsV
    have hbl : blkV ch (List.replicate (ch * fi).toNat 0) = true := blkV_mk hc hl (by omega) (by
      rw [List.all_eq_true]
      intro y hy
      rw [List.eq_of_mem_replicate hy]
      decide)
    rw [hp, hbl]
    rfl
  have hmb := Nat.mul_le_mul (show fi.toNat ≤ 65536 by omega) (show ch.toNat ≤ 8 by omega)
  have hw : waN ⟨ch, ⟨n, d, 0, 0, 0⟩, List.replicate (ch * fi).toNat 0⟩ = fi := by
    unfold waN
    rw [if_pos hb]
    show (((List.replicate (ch * fi).toNat (0 : Int)).length / ch.toNat : Nat) : Int) = fi
    rw [hl, Nat.mul_div_cancel _ (by omega)]
    omega
  rw [hR]
  refine ⟨hE, rfl, ⟨?_, rfl, by show (List.replicate _ (0 : Int)).length ≤ _; rw [hl]; omega, by show 0 + waN _ ≤ _; rw [hw]; omega, by show (0 : Int) ≤ fi; omega, by show (0 : Int) ≤ fi; omega⟩, hw⟩
  simp only [brV, Bool.and_eq_true, decide_eq_true_eq]
  exact ⟨⟨⟨⟨⟨⟨hb, hx⟩, hq.1⟩, hq.2⟩, by rw [hw]; omega⟩, by decide⟩, by decide⟩
theorem new_feed {ch n d fi : Int} (hc : 1 ≤ ch ∧ ch ≤ 8) (hp : phV ⟨n, d, 0, 0, 0⟩ = true) (hf : 0 ≤ fi ∧ fi ≤ 65536) : feR ⟨ch, ⟨n, d, 0, 0, 0⟩, []⟩ ch (List.replicate (ch * fi).toNat 0) = ⟨ch, ⟨n, d, 0, 0, 0⟩, List.replicate (ch * fi).toNat 0⟩ ∧ silC ch fi = ch ∧ silO ch fi = List.replicate (ch * fi).toNat 0 ∧ ch * fi = ((fi.toNat * ch.toNat : Nat) : Int) ∧ fi.toNat * ch.toNat ≤ 524288 := by
  have e1 : ch * fi = ((fi.toNat * ch.toNat : Nat) : Int) := by
    rw [Int.natCast_mul, Int.toNat_of_nonneg (by omega), Int.toNat_of_nonneg (by omega), Int.mul_comm]
  have hl : (List.replicate (ch * fi).toNat (0 : Int)).length = fi.toNat * ch.toNat := by rw [List.length_replicate, e1, Int.toNat_natCast]
  have hbl : blkV ch (List.replicate (ch * fi).toNat 0) = true := blkV_mk hc hl (by omega) (by
    rw [List.all_eq_true]
    intro y hy
    rw [List.eq_of_mem_replicate hy]
    decide)
  have hr : rsV ⟨ch, ⟨n, d, 0, 0, 0⟩, []⟩ = true := by unfold rsV; rw [hp, blk_nil hc]; rfl
  have hE : feE ⟨ch, ⟨n, d, 0, 0, 0⟩, []⟩ ch (List.replicate (ch * fi).toNat 0) = 0 := by
    unfold feE
    have h5 : (([] : List Int).length + (List.replicate (ch * fi).toNat (0 : Int)).length) / ch.toNat = fi.toNat := by
      rw [hl, List.length_nil, Nat.zero_add, Nat.mul_div_cancel _ (by omega)]
    rw [if_neg (by rw [hr, hbl]; decide), if_neg (by simp), if_neg (by show ¬ 65536 < (([] : List Int).length + _) / ch.toNat; rw [h5]; omega)]
  have hsb : silB ch fi = false := by
    simp only [silB, Bool.or_eq_false_iff, decide_eq_false_iff_not]
    omega
  have hmb := Nat.mul_le_mul (show fi.toNat ≤ 65536 by omega) (show ch.toNat ≤ 8 by omega)
  exact ⟨by unfold feR; rw [if_pos hE]; rfl, by unfold silC; rw [hsb]; rfl, by unfold silO; rw [hsb]; rfl, e1, by omega⟩
theorem nwE_in {ch n d : Int} (h : nwE ch n d = 0) : (1 ≤ ch ∧ ch ≤ 8) ∧ phV ⟨n, d, 0, 0, 0⟩ = true := by
  unfold nwE at h
  split at h
  · rename_i h2
    obtain ⟨h3, h4⟩ := rsV_in h2
    exact ⟨(blk_in h4 (Nat.zero_le _)).1, h3⟩
  · cases h
def eB1 : Br := ⟨8, ⟨0, 0, 1, 0⟩, ⟨1, ⟨1, 1, 0, 0, 0⟩, []⟩, 0, 0⟩
def eB2 : Br := ⟨8, ⟨0, 0, 1, 0⟩, ⟨1, ⟨1, 1, 0, 0, 0⟩, []⟩, 0, 3⟩
def eB3 : Br := ⟨8, ⟨0, 0, 1, 0⟩, ⟨1, ⟨1, 1, 0, 0, 0⟩, List.replicate 8 0⟩, 2, 3⟩
theorem eg1 : bnR 1 1 1 ⟨0, 0, 1, 0⟩ 8 0 = eB1 ∧ bnE 1 1 1 ⟨0, 0, 1, 0⟩ 8 0 = 0 := ⟨by kernel_rfl, by kernel_rfl⟩
theorem eg2 : plE eB1 3 = 0 ∧ plO eB1 3 = [0, 0, 0] ∧ plM eB1 3 = 3 ∧ plR eB1 3 = eB2 := ⟨by kernel_rfl, by kernel_rfl, by kernel_rfl, by kernel_rfl⟩
theorem eg3 : puE eB2 1 (List.replicate 10 0) = 0 ∧ puL eB2 1 (List.replicate 10 0) = 2 ∧ puR eB2 1 (List.replicate 10 0) = eB3 := ⟨by kernel_rfl, by kernel_rfl, by kernel_rfl⟩
theorem eg4 : biN eB3 = 8 ∧ brV eB3 = true := ⟨by kernel_rfl, by kernel_rfl⟩
theorem bmI_ok (l : List UInt8) : okB (bmI l) (bmC l) 0 ∧ (bmI l).r.c = bmC l := by
  have a1 := dN_lt (bm2 l) 60 (by decide)
  have a2 := dN_ge (bm2 l) 60
  have h := new_ok (ch := bmC l) (q := 1 + dN (bm2 l) 60) (fi := 0) (by have := bmC_in l; omega) (ba_ok (dT (bm1 l) 2)) (bmCt_V l) (by omega) (by omega)
  exact ⟨h.2.2.1, h.2.2.1.c⟩
theorem bmS_ok (l : List UInt8) : ∀ k : Nat, okB (bmS l k) (bmC l) (100 * (k : Int)) ∨ 4 < k
  | 0 => .inl (by show okB (bmI l) _ _; simpa using (bmI_ok l).1)
  | k + 1 => by
    rcases bmS_ok l k with h | h
    · by_cases hk : 4 < k + 1
      · exact .inr hk
      · left
        have hc := bmC_in l
        have m1 := dN_lt (bmQ l k) 30 (by decide)
        have m2 := dN_ge (bmQ l k) 30
        have n1 := dN_lt (dT (bmQ l k) 30) 12 (by decide)
        have n2 := dN_ge (dT (bmQ l k) 30) 12
        have hp := push_ok h (by omega) (waO_len ((bmN l : Int) - k) (bmC l) 0 (dN (bmQ l k) 30).toNat) (by omega) (waO_all _ _ _ _) (by omega)
        have hb : bmP (bmS l k) ((bmN l : Int) - k) (dN (bmQ l k) 30) = puR (bmS l k) (bmC l) (waO ((bmN l : Int) - k) (bmC l) 0 (dN (bmQ l k) 30).toNat) := by unfold bmP; rw [h.c]
        have hq := pull_ok hp.2.1 (by omega) (i := dN (dT (bmQ l k) 30) 12) (by omega) (by omega)
        show okB (bmU _ _) _ _
        rw [hb]
        unfold bmU
        rw [if_pos hq.1]
        exact okB_mono hq.2.1 (by omega)
    · exact .inr (by omega)
theorem bmX_ok (l : List UInt8) : okB (bmX l) (bmC l) 1000 := by
  have a1 := dN_lt (dT (bm2 l) 60) 4 (by decide)
  have a2 := dN_ge (dT (bm2 l) 60) 4
  rcases bmS_ok l (bmN l) with h | h
  · exact okB_mono h (by unfold bmN; omega)
  · unfold bmN at h; omega


theorem spec_bnew (ch n d ct cd cg cm q fi : Int) : Spec Try.prog 0 25 [vI .i64 ch, .agg [.d (.int .i64 n), .d (.int .i64 d)], .agg [.d (.int .i64 ct), .d (.int .i64 cd), .d (.int .i64 cg), .d (.int .i64 cm)], vI .i64 q, vI .i64 fi] [] [] (.tup [.agg [.int .i64 (bnR ch n d ⟨ct, cd, cg, cm⟩ q fi).q, .int .i64 (bnR ch n d ⟨ct, cd, cg, cm⟩ q fi).c.t, .int .i64 (bnR ch n d ⟨ct, cd, cg, cm⟩ q fi).c.d, .int .i64 (bnR ch n d ⟨ct, cd, cg, cm⟩ q fi).c.g, .int .i64 (bnR ch n d ⟨ct, cd, cg, cm⟩ q fi).c.m, .int .i64 (bnR ch n d ⟨ct, cd, cg, cm⟩ q fi).r.c, .int .i64 (bnR ch n d ⟨ct, cd, cg, cm⟩ q fi).r.p.n, .int .i64 (bnR ch n d ⟨ct, cd, cg, cm⟩ q fi).r.p.d, .int .i64 (bnR ch n d ⟨ct, cd, cg, cm⟩ q fi).r.p.a, .int .i64 (bnR ch n d ⟨ct, cd, cg, cm⟩ q fi).r.p.p, .int .i64 (bnR ch n d ⟨ct, cd, cg, cm⟩ q fi).r.p.f, .list (LI .i32 (bnR ch n d ⟨ct, cd, cg, cm⟩ q fi).r.l), .int .i64 (bnR ch n d ⟨ct, cd, cg, cm⟩ q fi).lo, .int .i64 (bnR ch n d ⟨ct, cd, cg, cm⟩ q fi).mi], .int .i64 (bnE ch n d ⟨ct, cd, cg, cm⟩ q fi)]) [] [] := by
  refine spec_of_E (X := ⟨Try.prog, tt, Try.f25.ntmps, 1, fun _ => 0, (tab [(60, E_rsnew), (57, E_ctvalid), (61, E_silence), (41, E_feed)])⟩) (M := [(1, [0, 0, 0, 0, 0, 17594331462879, 0, 0, 0, 0, 0, 17594266451167, 0, 0, 0])]) (m := 17593259818207) rfl rfl ⟨tt_ok, tab_ok (tabs_cons E_rsnew_ok (tabs_cons E_ctvalid_ok (tabs_cons E_silence_ok (tabs_cons E_feed_ok tabs_nil)))) _ rfl rfl⟩ tt_mixed Try.func25 rfl (by decide) (by show (5 : Nat) ≤ _; exact Nat.le_of_ble_eq_true rfl) ⟨fun m hm => (V.bare_has rfl m hm).elim, by simp, by simp⟩ ?_
  simp only [↓gPre, gPost, gCore, handV, V.bufs, buildArr, toCs, Nat.reduceShiftRight, Nat.reduceMod, addB, addK, zeroOp, callSem, resName, keepsB, newB, V.pure, C.pure, V.ptrs, C.ptrs, C.bufs, appendSem, appendTo, appendZ, dstOk, lk, V.cells, Op.eff, partV, partD, cut, lay, zeroD, C.toDs, C.toD, V.toD, toDs, buildCells, if_true, if_false, ↓reduceIte, reduceCtorEq, Nat.reduceEqDiff, Nat.reduceLT, Nat.reduceLeDiff, implies_true, forall_const, eq_self, ne_eq, not_true_eq_false, not_false_eq_true, imp_self, Nat.reduceAdd, Nat.reduceMul, Int.reduceLE, Int.reduceLT, Int.reduceNeg, Int.reduceAdd, Int.reduceToNat, E_rsnew_eq, E_ctvalid_eq, E_silence_eq, E_feed_eq, rs_eta, ph_eta, ct_eta, br_eta, Try.ntmps25, Try.results25, gTT]
  refine ⟨fun h => ?_, fun h => ⟨fun h2 => ?_, fun h2 => ?_⟩⟩
  · have e : bnE ch n d ⟨ct, cd, cg, cm⟩ q fi = 2 := by unfold bnE; rw [if_pos h]
    simp [bnR, e, br0, rs0, LI_nil]
  · have e : bnE ch n d ⟨ct, cd, cg, cm⟩ q fi = 1 := by unfold bnE; rw [if_neg (by rw [h]; decide), if_pos (by exact h2)]
    simp [bnR, e, br0, rs0, LI_nil]
  have e : bnE ch n d ⟨ct, cd, cg, cm⟩ q fi = 0 := by unfold bnE; rw [if_neg (by rw [h]; decide), if_neg (by rw [h2]; decide)]
  have hn : nwE ch n d = 0 := by
    simp only [Bool.or_eq_false_iff, bne_eq_false_iff_eq] at h2
    exact h2.1
  obtain ⟨hc, hp⟩ := nwE_in hn
  have hf : 0 ≤ fi ∧ fi ≤ 65536 := by
    simp only [Bool.or_eq_false_iff, decide_eq_false_iff_not] at h
    omega
  obtain ⟨f1, f2, f3, f4, f5⟩ := new_feed hc hp hf
  have hr := (nw_ok hc hp).2
  rw [hr, f2, f3, f1]
  refine ⟨⟨Nat.zero_le _, by rw [List.length_replicate, f4, Int.toNat_natCast]; omega⟩, ?_⟩
  simp [bnR, e]
def E_bnew : List V → Boxes → Toks → Name → Option Ent
  | [.c (.d (.int .i64 ch)), .agg [.d (.int .i64 n), .d (.int .i64 d)], .agg [.d (.int .i64 ct), .d (.int .i64 cd), .d (.int .i64 cg), .d (.int .i64 cm)], .c (.d (.int .i64 q)), .c (.d (.int .i64 fi))], [], [], _ => some ⟨True, .tup [.agg [.int .i64 (bnR ch n d ⟨ct, cd, cg, cm⟩ q fi).q, .int .i64 (bnR ch n d ⟨ct, cd, cg, cm⟩ q fi).c.t, .int .i64 (bnR ch n d ⟨ct, cd, cg, cm⟩ q fi).c.d, .int .i64 (bnR ch n d ⟨ct, cd, cg, cm⟩ q fi).c.g, .int .i64 (bnR ch n d ⟨ct, cd, cg, cm⟩ q fi).c.m, .int .i64 (bnR ch n d ⟨ct, cd, cg, cm⟩ q fi).r.c, .int .i64 (bnR ch n d ⟨ct, cd, cg, cm⟩ q fi).r.p.n, .int .i64 (bnR ch n d ⟨ct, cd, cg, cm⟩ q fi).r.p.d, .int .i64 (bnR ch n d ⟨ct, cd, cg, cm⟩ q fi).r.p.a, .int .i64 (bnR ch n d ⟨ct, cd, cg, cm⟩ q fi).r.p.p, .int .i64 (bnR ch n d ⟨ct, cd, cg, cm⟩ q fi).r.p.f, .list (LI .i32 (bnR ch n d ⟨ct, cd, cg, cm⟩ q fi).r.l), .int .i64 (bnR ch n d ⟨ct, cd, cg, cm⟩ q fi).lo, .int .i64 (bnR ch n d ⟨ct, cd, cg, cm⟩ q fi).mi], .int .i64 (bnE ch n d ⟨ct, cd, cg, cm⟩ q fi)], [], []⟩
  | _, _, _, _ => none
theorem E_bnew_eq {ch n d ct cd cg cm q fi : Int}  {nF : Name} : E_bnew [.c (.d (.int .i64 ch)), .agg [.d (.int .i64 n), .d (.int .i64 d)], .agg [.d (.int .i64 ct), .d (.int .i64 cd), .d (.int .i64 cg), .d (.int .i64 cm)], .c (.d (.int .i64 q)), .c (.d (.int .i64 fi))] [] [] nF = some ⟨True, .tup [.agg [.int .i64 (bnR ch n d ⟨ct, cd, cg, cm⟩ q fi).q, .int .i64 (bnR ch n d ⟨ct, cd, cg, cm⟩ q fi).c.t, .int .i64 (bnR ch n d ⟨ct, cd, cg, cm⟩ q fi).c.d, .int .i64 (bnR ch n d ⟨ct, cd, cg, cm⟩ q fi).c.g, .int .i64 (bnR ch n d ⟨ct, cd, cg, cm⟩ q fi).c.m, .int .i64 (bnR ch n d ⟨ct, cd, cg, cm⟩ q fi).r.c, .int .i64 (bnR ch n d ⟨ct, cd, cg, cm⟩ q fi).r.p.n, .int .i64 (bnR ch n d ⟨ct, cd, cg, cm⟩ q fi).r.p.d, .int .i64 (bnR ch n d ⟨ct, cd, cg, cm⟩ q fi).r.p.a, .int .i64 (bnR ch n d ⟨ct, cd, cg, cm⟩ q fi).r.p.p, .int .i64 (bnR ch n d ⟨ct, cd, cg, cm⟩ q fi).r.p.f, .list (LI .i32 (bnR ch n d ⟨ct, cd, cg, cm⟩ q fi).r.l), .int .i64 (bnR ch n d ⟨ct, cd, cg, cm⟩ q fi).lo, .int .i64 (bnR ch n d ⟨ct, cd, cg, cm⟩ q fi).mi], .int .i64 (bnE ch n d ⟨ct, cd, cg, cm⟩ q fi)], [], []⟩ := Eq.trans rfl rfl
theorem E_bnew_ok : Snd Try.prog 25 E_bnew := by
  intro vs b k n e h hn hp
  unfold E_bnew at h
  split at h
  · cases h; exact (spec_bnew _ _ _ _ _ _ _ _ _).lift rfl _
  · cases h

theorem spec_rbnew (ch n d ct cd cg cm q fi : Int) : Spec Try.prog 0 26 [vI .i64 ch, .agg [.d (.int .i64 n), .d (.int .i64 d)], .agg [.d (.int .i64 ct), .d (.int .i64 cd), .d (.int .i64 cg), .d (.int .i64 cm)], vI .i64 q, vI .i64 fi] [] [] (.tup [.agg [.int .i64 (bnR ch n d ⟨ct, cd, cg, cm⟩ q fi).q, .int .i64 (bnR ch n d ⟨ct, cd, cg, cm⟩ q fi).c.t, .int .i64 (bnR ch n d ⟨ct, cd, cg, cm⟩ q fi).c.d, .int .i64 (bnR ch n d ⟨ct, cd, cg, cm⟩ q fi).c.g, .int .i64 (bnR ch n d ⟨ct, cd, cg, cm⟩ q fi).c.m, .int .i64 (bnR ch n d ⟨ct, cd, cg, cm⟩ q fi).r.c, .int .i64 (bnR ch n d ⟨ct, cd, cg, cm⟩ q fi).r.p.n, .int .i64 (bnR ch n d ⟨ct, cd, cg, cm⟩ q fi).r.p.d, .int .i64 (bnR ch n d ⟨ct, cd, cg, cm⟩ q fi).r.p.a, .int .i64 (bnR ch n d ⟨ct, cd, cg, cm⟩ q fi).r.p.p, .int .i64 (bnR ch n d ⟨ct, cd, cg, cm⟩ q fi).r.p.f, .list (LI .i32 (bnR ch n d ⟨ct, cd, cg, cm⟩ q fi).r.l), .int .i64 (bnR ch n d ⟨ct, cd, cg, cm⟩ q fi).lo, .int .i64 (bnR ch n d ⟨ct, cd, cg, cm⟩ q fi).mi], .int .i64 (bnE ch n d ⟨ct, cd, cg, cm⟩ q fi)]) [] [] := by
  refine spec_of_E (X := ⟨Try.prog, tt, Try.f26.ntmps, 1, fun _ => 0, (tab [(62, E_rrsnew), (59, E_rctvalid)])⟩) (M := [(1, [0, 0, 0, 0, 0, 4398582873311, 0, 0, 0, 0, 0, 4398566620383, 0, 0, 0])]) (m := 4398314962143) rfl rfl ⟨tt_ok, tab_ok (tabs_cons E_rrsnew_ok (tabs_cons E_rctvalid_ok tabs_nil)) _ rfl rfl⟩ tt_mixed Try.func26 rfl (by decide) (by show (5 : Nat) ≤ _; exact Nat.le_of_ble_eq_true rfl) ⟨fun m hm => (V.bare_has rfl m hm).elim, by simp, by simp⟩ ?_
  simp only [↓gPre, gPost, gCore, handV, V.bufs, buildArr, toCs, Nat.reduceShiftRight, Nat.reduceMod, addB, addK, zeroOp, callSem, resName, keepsB, newB, V.pure, C.pure, V.ptrs, C.ptrs, C.bufs, appendSem, appendTo, appendZ, dstOk, lk, V.cells, Op.eff, partV, partD, cut, lay, zeroD, C.toDs, C.toD, V.toD, toDs, buildCells, if_true, if_false, ↓reduceIte, reduceCtorEq, Nat.reduceEqDiff, Nat.reduceLT, Nat.reduceLeDiff, implies_true, forall_const, eq_self, ne_eq, not_true_eq_false, not_false_eq_true, imp_self, Nat.reduceAdd, Nat.reduceMul, Int.reduceLE, Int.reduceLT, Int.reduceNeg, Int.reduceAdd, Int.reduceToNat, E_rrsnew_eq, E_rctvalid_eq, rs_eta, ph_eta, ct_eta, br_eta, Try.ntmps26, Try.results26, gTT]
  refine ⟨fun h => ?_, fun h => ⟨fun h2 => ?_, fun h2 => ?_⟩⟩
  · have e : bnE ch n d ⟨ct, cd, cg, cm⟩ q fi = 2 := by unfold bnE; rw [if_pos h]
    simp [bnR, e, br0, rs0, LI_nil]
  · have e : bnE ch n d ⟨ct, cd, cg, cm⟩ q fi = 1 := by unfold bnE; rw [if_neg (by rw [h]; decide), if_pos (by rw [Bool.or_comm]; exact h2)]
    simp [bnR, e, br0, rs0, LI_nil]
  have e : bnE ch n d ⟨ct, cd, cg, cm⟩ q fi = 0 := by unfold bnE; rw [if_neg (by rw [h]; decide), if_neg (by rw [Bool.or_comm, h2]; decide)]
  have hn : nwE ch n d = 0 := by
    simp only [Bool.or_eq_false_iff, bne_eq_false_iff_eq] at h2
    exact h2.2
  obtain ⟨hc, hp⟩ := nwE_in hn
  have hf : 0 ≤ fi ∧ fi ≤ 65536 := by
    simp only [Bool.or_eq_false_iff, decide_eq_false_iff_not] at h
    omega
  obtain ⟨f1, f2, f3, f4, f5⟩ := new_feed hc hp hf
  have hr := (nw_ok hc hp).2
  rw [hr, f4, IntWalk.i64_in _ (by omega), ← f4]
  refine ⟨⟨by omega, by omega, by omega, by omega⟩, ?_⟩
  simp [bnR, e]
def E_rbnew : List V → Boxes → Toks → Name → Option Ent
  | [.c (.d (.int .i64 ch)), .agg [.d (.int .i64 n), .d (.int .i64 d)], .agg [.d (.int .i64 ct), .d (.int .i64 cd), .d (.int .i64 cg), .d (.int .i64 cm)], .c (.d (.int .i64 q)), .c (.d (.int .i64 fi))], [], [], _ => some ⟨True, .tup [.agg [.int .i64 (bnR ch n d ⟨ct, cd, cg, cm⟩ q fi).q, .int .i64 (bnR ch n d ⟨ct, cd, cg, cm⟩ q fi).c.t, .int .i64 (bnR ch n d ⟨ct, cd, cg, cm⟩ q fi).c.d, .int .i64 (bnR ch n d ⟨ct, cd, cg, cm⟩ q fi).c.g, .int .i64 (bnR ch n d ⟨ct, cd, cg, cm⟩ q fi).c.m, .int .i64 (bnR ch n d ⟨ct, cd, cg, cm⟩ q fi).r.c, .int .i64 (bnR ch n d ⟨ct, cd, cg, cm⟩ q fi).r.p.n, .int .i64 (bnR ch n d ⟨ct, cd, cg, cm⟩ q fi).r.p.d, .int .i64 (bnR ch n d ⟨ct, cd, cg, cm⟩ q fi).r.p.a, .int .i64 (bnR ch n d ⟨ct, cd, cg, cm⟩ q fi).r.p.p, .int .i64 (bnR ch n d ⟨ct, cd, cg, cm⟩ q fi).r.p.f, .list (LI .i32 (bnR ch n d ⟨ct, cd, cg, cm⟩ q fi).r.l), .int .i64 (bnR ch n d ⟨ct, cd, cg, cm⟩ q fi).lo, .int .i64 (bnR ch n d ⟨ct, cd, cg, cm⟩ q fi).mi], .int .i64 (bnE ch n d ⟨ct, cd, cg, cm⟩ q fi)], [], []⟩
  | _, _, _, _ => none
theorem E_rbnew_eq {ch n d ct cd cg cm q fi : Int}  {nF : Name} : E_rbnew [.c (.d (.int .i64 ch)), .agg [.d (.int .i64 n), .d (.int .i64 d)], .agg [.d (.int .i64 ct), .d (.int .i64 cd), .d (.int .i64 cg), .d (.int .i64 cm)], .c (.d (.int .i64 q)), .c (.d (.int .i64 fi))] [] [] nF = some ⟨True, .tup [.agg [.int .i64 (bnR ch n d ⟨ct, cd, cg, cm⟩ q fi).q, .int .i64 (bnR ch n d ⟨ct, cd, cg, cm⟩ q fi).c.t, .int .i64 (bnR ch n d ⟨ct, cd, cg, cm⟩ q fi).c.d, .int .i64 (bnR ch n d ⟨ct, cd, cg, cm⟩ q fi).c.g, .int .i64 (bnR ch n d ⟨ct, cd, cg, cm⟩ q fi).c.m, .int .i64 (bnR ch n d ⟨ct, cd, cg, cm⟩ q fi).r.c, .int .i64 (bnR ch n d ⟨ct, cd, cg, cm⟩ q fi).r.p.n, .int .i64 (bnR ch n d ⟨ct, cd, cg, cm⟩ q fi).r.p.d, .int .i64 (bnR ch n d ⟨ct, cd, cg, cm⟩ q fi).r.p.a, .int .i64 (bnR ch n d ⟨ct, cd, cg, cm⟩ q fi).r.p.p, .int .i64 (bnR ch n d ⟨ct, cd, cg, cm⟩ q fi).r.p.f, .list (LI .i32 (bnR ch n d ⟨ct, cd, cg, cm⟩ q fi).r.l), .int .i64 (bnR ch n d ⟨ct, cd, cg, cm⟩ q fi).lo, .int .i64 (bnR ch n d ⟨ct, cd, cg, cm⟩ q fi).mi], .int .i64 (bnE ch n d ⟨ct, cd, cg, cm⟩ q fi)], [], []⟩ := Eq.trans rfl rfl
theorem E_rbnew_ok : Snd Try.prog 26 E_rbnew := by
  intro vs b k n e h hn hp
  unfold E_rbnew at h
  split at h
  · cases h; exact (spec_rbnew _ _ _ _ _ _ _ _ _).lift rfl _
  · cases h

theorem spec_brsame (q ct cd cg cm c n d a p f : Int) (l : List Int) (lo mi : Int) (q2 ct2 cd2 cg2 cm2 c2 n2 d2 a2 p2 f2 : Int) (l2 : List Int) (lo2 mi2 : Int) (hl : l.length ≤ 1000000000) : Spec Try.prog 0 17 [.agg [.d (.int .i64 q), .d (.int .i64 ct), .d (.int .i64 cd), .d (.int .i64 cg), .d (.int .i64 cm), .d (.int .i64 c), .d (.int .i64 n), .d (.int .i64 d), .d (.int .i64 a), .d (.int .i64 p), .d (.int .i64 f), .d (.list (LI .i32 l)), .d (.int .i64 lo), .d (.int .i64 mi)], .agg [.d (.int .i64 q2), .d (.int .i64 ct2), .d (.int .i64 cd2), .d (.int .i64 cg2), .d (.int .i64 cm2), .d (.int .i64 c2), .d (.int .i64 n2), .d (.int .i64 d2), .d (.int .i64 a2), .d (.int .i64 p2), .d (.int .i64 f2), .d (.list (LI .i32 l2)), .d (.int .i64 lo2), .d (.int .i64 mi2)]] [] [] (vB (q == q2 && (ct == ct2 && (cd == cd2 && (cg == cg2 && cm == cm2))) && lo == lo2 && mi == mi2 && (c == c2 && (n == n2 && (d == d2 && (a == a2 && (p == p2 && f == f2)))) && l == l2))) [] [] := by
  refine spec_of_E (X := ⟨Try.prog, tt, Try.f17.ntmps, 1, fun _ => 0, (tab [(45, E_rssame)])⟩) (M := [(1, [0, 0, 0, 0, 0, 274877905951, 0, 0, 0, 0, 0, 274877841439, 0, 0, 0, 0, 0, 274873843743, 0, 0, 0, 0, 0, 274693357599, 0, 0, 0, 0, 0, 268435456031, 0, 0, 0, 0])]) (m := 31) rfl rfl ⟨tt_ok, tab_ok (tabs_cons E_rssame_ok tabs_nil) _ rfl rfl⟩ tt_mixed Try.func17 rfl (by decide) (by show (2 : Nat) ≤ _; exact Nat.le_of_ble_eq_true rfl) ⟨fun m hm => (V.bare_has rfl m hm).elim, by simp, by simp⟩ ?_
  simp only [↓gPre, gPost, gCore, handV, V.bufs, buildArr, toCs, Nat.reduceShiftRight, Nat.reduceMod, addB, addK, zeroOp, callSem, resName, keepsB, newB, V.pure, C.pure, V.ptrs, C.ptrs, C.bufs, appendSem, appendTo, appendZ, dstOk, lk, V.cells, Op.eff, partV, partD, cut, lay, zeroD, C.toDs, C.toD, V.toD, toDs, buildCells, if_true, if_false, ↓reduceIte, reduceCtorEq, Nat.reduceEqDiff, Nat.reduceLT, Nat.reduceLeDiff, implies_true, forall_const, eq_self, ne_eq, not_true_eq_false, not_false_eq_true, imp_self, Nat.reduceAdd, Nat.reduceMul, Int.reduceLE, Int.reduceLT, Int.reduceNeg, Int.reduceAdd, Int.reduceToNat, E_rssame_eq, rs_eta, ph_eta, ct_eta, br_eta, Try.ntmps17, Try.results17, gTT]
  exact fun _ => hl
def E_brsame : List V → Boxes → Toks → Name → Option Ent
  | [.agg [.d (.int .i64 q), .d (.int .i64 ct), .d (.int .i64 cd), .d (.int .i64 cg), .d (.int .i64 cm), .d (.int .i64 c), .d (.int .i64 n), .d (.int .i64 d), .d (.int .i64 a), .d (.int .i64 p), .d (.int .i64 f), .d (.list q_l), .d (.int .i64 lo), .d (.int .i64 mi)], .agg [.d (.int .i64 q2), .d (.int .i64 ct2), .d (.int .i64 cd2), .d (.int .i64 cg2), .d (.int .i64 cm2), .d (.int .i64 c2), .d (.int .i64 n2), .d (.int .i64 d2), .d (.int .i64 a2), .d (.int .i64 p2), .d (.int .i64 f2), .d (.list q_l2), .d (.int .i64 lo2), .d (.int .i64 mi2)]], [], [], _ => some ⟨(ints q_l).length ≤ 1000000000 ∧ q_l = LI .i32 (ints q_l) ∧ q_l2 = LI .i32 (ints q_l2), vB (q == q2 && (ct == ct2 && (cd == cd2 && (cg == cg2 && cm == cm2))) && lo == lo2 && mi == mi2 && (c == c2 && (n == n2 && (d == d2 && (a == a2 && (p == p2 && f == f2)))) && (ints q_l) == (ints q_l2))), [], []⟩
  | _, _, _, _ => none
theorem E_brsame_eq {q ct cd cg cm c n d a p f : Int} {lo mi : Int} {q2 ct2 cd2 cg2 cm2 c2 n2 d2 a2 p2 f2 : Int} {lo2 mi2 : Int}  {q_l : List D} {q_l2 : List D} {nF : Name} : E_brsame [.agg [.d (.int .i64 q), .d (.int .i64 ct), .d (.int .i64 cd), .d (.int .i64 cg), .d (.int .i64 cm), .d (.int .i64 c), .d (.int .i64 n), .d (.int .i64 d), .d (.int .i64 a), .d (.int .i64 p), .d (.int .i64 f), .d (.list q_l), .d (.int .i64 lo), .d (.int .i64 mi)], .agg [.d (.int .i64 q2), .d (.int .i64 ct2), .d (.int .i64 cd2), .d (.int .i64 cg2), .d (.int .i64 cm2), .d (.int .i64 c2), .d (.int .i64 n2), .d (.int .i64 d2), .d (.int .i64 a2), .d (.int .i64 p2), .d (.int .i64 f2), .d (.list q_l2), .d (.int .i64 lo2), .d (.int .i64 mi2)]] [] [] nF = some ⟨(ints q_l).length ≤ 1000000000 ∧ q_l = LI .i32 (ints q_l) ∧ q_l2 = LI .i32 (ints q_l2), vB (q == q2 && (ct == ct2 && (cd == cd2 && (cg == cg2 && cm == cm2))) && lo == lo2 && mi == mi2 && (c == c2 && (n == n2 && (d == d2 && (a == a2 && (p == p2 && f == f2)))) && (ints q_l) == (ints q_l2))), [], []⟩ := Eq.trans rfl rfl
theorem E_brsame_ok : Snd Try.prog 17 E_brsame := by
  intro vs b k n e h hn hp
  unfold E_brsame at h
  split at h
  · cases h; obtain ⟨hp0, hq0, hq1⟩ := hp; obtain ⟨_, rfl⟩ := LI_ex hq0; obtain ⟨_, rfl⟩ := LI_ex hq1; simp only [ints_LI, bys_LB, blks_LK, lls_LL] at hp0 ⊢; exact (spec_brsame _ _ _ _ _ _ _ _ _ _ _ _ _ _ _ _ _ _ _ _ _ _ _ _ _ _ _ _ hp0).lift rfl _
  · cases h

theorem spec_made (l : List UInt8) : Spec Try.prog 0 12 [.c (.lp ⟨0, 0⟩ 0)] [(⟨0, 0⟩, [.d (.list (LB l))])] [] (.agg [.d (.int .i64 (bmX l).q), .d (.int .i64 (bmX l).c.t), .d (.int .i64 (bmX l).c.d), .d (.int .i64 (bmX l).c.g), .d (.int .i64 (bmX l).c.m), .d (.int .i64 (bmX l).r.c), .d (.int .i64 (bmX l).r.p.n), .d (.int .i64 (bmX l).r.p.d), .d (.int .i64 (bmX l).r.p.a), .d (.int .i64 (bmX l).r.p.p), .d (.int .i64 (bmX l).r.p.f), .d (.list (LI .i32 (bmX l).r.l)), .d (.int .i64 (bmX l).lo), .d (.int .i64 (bmX l).mi)]) [(⟨0, 0⟩, [.d (.list (LB (bmR l)))])] [] := by
  refine spec_of_E (X := ⟨Try.prog, tt, Try.f12.ntmps, 1, fun _ => 0, (tab [(14, E_next), (38, E_base), (26, E_rbnew), (13, E_wave), (16, E_rpush), (19, E_rpull)])⟩) (M := [(1, [0, 0, 0, 0, 0, 73786977394366568029, 0, 0, 0, 0, 0, 73786977394362570333, 0, 0, 0]), (2, [0, 0, 0, 0, 0, 73786977531402913373, 0, 0, 0, 0, 0, 73786977497445828189, 0, 0, 0, 0]), (6, [0, 0, 0, 0, 0, 73804771890533762653, 0, 0, 0, 0, 0, 73795993389697599069, 0, 0]), (7, [0, 0, 0, 0, 0, 108446680126593173213, 0, 0, 0, 0, 0, 106068779523341551197, 0, 0, 0])]) (m := 73786977394349835869) rfl rfl ⟨tt_ok, tab_ok (tabs_cons E_next_ok (tabs_cons E_base_ok (tabs_cons E_rbnew_ok (tabs_cons E_wave_ok (tabs_cons E_rpush_ok (tabs_cons E_rpull_ok tabs_nil)))))) _ rfl rfl⟩ tt_mixed Try.func12 rfl (by decide) (by show (1 : Nat) ≤ _; exact Nat.le_of_ble_eq_true rfl) ⟨by simp [V.has, C.has], by simp [C.has], by simp⟩ ?_
  simp only [↓gPre, gPost, gCore, handV, V.bufs, buildArr, toCs, Nat.reduceShiftRight, Nat.reduceMod, addB, addK, zeroOp, callSem, resName, keepsB, newB, V.pure, C.pure, V.ptrs, C.ptrs, C.bufs, appendSem, appendTo, appendZ, dstOk, lk, V.cells, Op.eff, partV, partD, cut, lay, zeroD, C.toDs, C.toD, V.toD, toDs, buildCells, if_true, if_false, ↓reduceIte, reduceCtorEq, Nat.reduceEqDiff, Nat.reduceLT, Nat.reduceLeDiff, implies_true, forall_const, eq_self, ne_eq, not_true_eq_false, not_false_eq_true, imp_self, Nat.reduceAdd, Nat.reduceMul, Int.reduceLE, Int.reduceLT, Int.reduceNeg, Int.reduceAdd, Int.reduceToNat, E_next_eq, E_base_eq, E_rbnew_eq, E_wave_eq, E_rpush_eq, E_rpull_eq, rs_eta, ph_eta, ct_eta, br_eta, Try.ntmps12, Try.results12, gTT]
  have a1 := dN_lt (bm1 l) 2 (by decide)
  have a2 := dN_ge (bm1 l) 2
  have c1 := dN_lt (dT (dT l 40) 6) 60 (by decide)
  have c2 := dN_ge (dT (dT l 40) 6) 60
  have d1 := dN_lt (dT (dT (dT l 40) 6) 60) 3 (by decide)
  have d2 := dN_ge (dT (dT (dT l 40) 6) 60) 3
  have e1 := dN_lt (bm2 l) 60 (by decide)
  have e2 := dN_ge (bm2 l) 60
  have n1 := dN_ge (dT (bm2 l) 60) 4
  have n2 := dN_lt (dT (bm2 l) 60) 4 (by decide)
  have hN : ((bmN l : Nat) : Int) = dN (dT (bm2 l) 60) 4 := by unfold bmN; omega
  unfold bm2 bm1 at *
  rw [IntWalk.i64_in (1 + dN (dT (dT (dT (dT l 40) 6) 60) 3) 2) (by omega), IntWalk.i64_in (1 + dN (dT (dT l 40) 6) 60) (by omega), IntWalk.i64_in (1 + dN (baR (dT (dT (dT (dT (dT l 40) 6) 60) 3) 2)) 60) (by omega)]
  refine ⟨⟨d2, d1⟩, by kernel_rfl, ?_⟩
  refine ELoop_keep (fun g => ⟨[(6, vI .i64 ((bmN l : Int) - (g : Nat)))], [(⟨0, 0⟩, [.d (.list (LB (bmQ l g)))]), (⟨1, 4⟩, [.d (.int .i64 (bmS l g).q), .d (.int .i64 (bmS l g).c.t), .d (.int .i64 (bmS l g).c.d), .d (.int .i64 (bmS l g).c.g), .d (.int .i64 (bmS l g).c.m), .d (.int .i64 (bmS l g).r.c), .d (.int .i64 (bmS l g).r.p.n), .d (.int .i64 (bmS l g).r.p.d), .d (.int .i64 (bmS l g).r.p.a), .d (.int .i64 (bmS l g).r.p.p), .d (.int .i64 (bmS l g).r.p.f), .d (.list (LI .i32 (bmS l g).r.l)), .d (.int .i64 (bmS l g).lo), .d (.int .i64 (bmS l g).mi)])], []⟩) (fun g => g ≤ bmN l) (fun g => bmN l - g) (· + 1) 0 (Nat.zero_le _) ?_ ?_
  · simp only [↓gPre, gPost, gCore, handV, V.bufs, buildArr, toCs, Nat.reduceShiftRight, Nat.reduceMod, addB, addK, zeroOp, callSem, resName, keepsB, newB, V.pure, C.pure, V.ptrs, C.ptrs, C.bufs, appendSem, appendTo, appendZ, dstOk, lk, V.cells, Op.eff, partV, partD, cut, lay, zeroD, C.toDs, C.toD, V.toD, toDs, buildCells, if_true, if_false, ↓reduceIte, reduceCtorEq, Nat.reduceEqDiff, Nat.reduceLT, Nat.reduceLeDiff, implies_true, forall_const, eq_self, ne_eq, not_true_eq_false, not_false_eq_true, imp_self, Nat.reduceAdd, Nat.reduceMul, Int.reduceLE, Int.reduceLT, Int.reduceNeg, Int.reduceAdd, Int.reduceToNat, E_next_eq, E_base_eq, E_rbnew_eq, E_wave_eq, E_rpush_eq, E_rpull_eq, rs_eta, ph_eta, ct_eta, br_eta, Try.ntmps12, Try.results12, gTT]
    exact ⟨by rw [hN]; simp, rfl, rfl, rfl, rfl, rfl, rfl, rfl, rfl, rfl, rfl, rfl, rfl, rfl, rfl, rfl⟩
  intro g hg
  simp only [↓gPre, gPost, gCore, handV, V.bufs, buildArr, toCs, Nat.reduceShiftRight, Nat.reduceMod, addB, addK, zeroOp, callSem, resName, keepsB, newB, V.pure, C.pure, V.ptrs, C.ptrs, C.bufs, appendSem, appendTo, appendZ, dstOk, lk, V.cells, Op.eff, partV, partD, cut, lay, zeroD, C.toDs, C.toD, V.toD, toDs, buildCells, if_true, if_false, ↓reduceIte, reduceCtorEq, Nat.reduceEqDiff, Nat.reduceLT, Nat.reduceLeDiff, implies_true, forall_const, eq_self, ne_eq, not_true_eq_false, not_false_eq_true, imp_self, Nat.reduceAdd, Nat.reduceMul, Int.reduceLE, Int.reduceLT, Int.reduceNeg, Int.reduceAdd, Int.reduceToNat, E_next_eq, E_base_eq, E_rbnew_eq, E_wave_eq, E_rpush_eq, E_rpull_eq, rs_eta, ph_eta, ct_eta, br_eta, Try.ntmps12, Try.results12, gTT]
  have hbN : bmN l ≤ 3 := by omega
  have ok := (bmS_ok l g).resolve_right (by omega)
  have hcc := bmC_in l
  have hc2 : 1 ≤ (bmS l g).r.c ∧ (bmS l g).r.c ≤ 2 := by rw [ok.c]; exact hcc
  have ok2 : okB (bmS l g) (bmS l g).r.c (100 * (g : Int)) := ⟨ok.v, rfl, ok.len, ok.far, ok.lo, ok.mi⟩
  have m1 := dN_lt (bmQ l g) 30 (by decide)
  have m2 := dN_ge (bmQ l g) 30
  have hP := push_ok ok2 (by omega) (waO_len ((bmN l : Int) - g) (bmS l g).r.c 0 (dN (bmQ l g) 30).toNat) (by omega) (waO_all _ _ _ _) (by omega)
  have hPl := hP.2.1.len
  have hwl := waO_len ((bmN l : Int) - g) (bmS l g).r.c 0 (dN (bmQ l g) 30).toNat
  have hwb := Nat.mul_le_mul (show (dN (bmQ l g) 30).toNat ≤ 30 by omega) (show (bmS l g).r.c.toNat ≤ 8 by omega)
  have hlen := ok.len
  refine ⟨fun h5 => ⟨by kernel_rfl, ⟨⟨by omega, by omega⟩, ⟨by omega, by omega⟩, by omega, by omega⟩, ⟨by omega, by omega⟩, by kernel_rfl, by omega, fun h6 => ?_, fun h6 => ?_⟩, fun h5 => ?_⟩
  · have h8 := of_decide_eq_true h5
    have e : bmS l (g + 1) = plR (puR (bmS l g) (bmS l g).r.c (waO ((bmN l : Int) - g) (bmS l g).r.c 0 (dN (bmQ l g) 30).toNat)) (dN (dT (bmQ l g) 30) 12) := by
      show bmU (bmP _ _ _) _ = _
      unfold bmU bmP
      rw [if_pos (by simpa using h6)]
    rw [e, IntWalk.i64_in ((bmN l : Int) - g - 1) (by omega)]
    exact ⟨⟨by omega, rfl, rfl, rfl, rfl, rfl, rfl, rfl, rfl, rfl, rfl, rfl, rfl, rfl, rfl, rfl⟩, by omega, by omega⟩
  · have h8 := of_decide_eq_true h5
    have e : bmS l (g + 1) = puR (bmS l g) (bmS l g).r.c (waO ((bmN l : Int) - g) (bmS l g).r.c 0 (dN (bmQ l g) 30).toNat) := by
      show bmU (bmP _ _ _) _ = _
      unfold bmU bmP
      rw [if_neg (by simpa using h6)]
    rw [e, IntWalk.i64_in ((bmN l : Int) - g - 1) (by omega)]
    exact ⟨⟨by omega, rfl, rfl, rfl, rfl, rfl, rfl, rfl, rfl, rfl, rfl, rfl, rfl, rfl, rfl, rfl⟩, by omega, by omega⟩
  · have : g = bmN l := by have := of_decide_eq_false h5; omega
    rw [this]
    exact ⟨⟨rfl, rfl, rfl, rfl, rfl, rfl, rfl, rfl, rfl, rfl, rfl, rfl, rfl, rfl⟩, rfl⟩
def E_made : List V → Boxes → Toks → Name → Option Ent
  | [.c (.lp n0 0)], [(m0, [.d (.list q_l)])], [], _ => some ⟨n0.lv ≤ 1 ∧ m0 = n0 ∧ q_l = LB (bys q_l), .agg [.d (.int .i64 (bmX (bys q_l)).q), .d (.int .i64 (bmX (bys q_l)).c.t), .d (.int .i64 (bmX (bys q_l)).c.d), .d (.int .i64 (bmX (bys q_l)).c.g), .d (.int .i64 (bmX (bys q_l)).c.m), .d (.int .i64 (bmX (bys q_l)).r.c), .d (.int .i64 (bmX (bys q_l)).r.p.n), .d (.int .i64 (bmX (bys q_l)).r.p.d), .d (.int .i64 (bmX (bys q_l)).r.p.a), .d (.int .i64 (bmX (bys q_l)).r.p.p), .d (.int .i64 (bmX (bys q_l)).r.p.f), .d (.list (LI .i32 (bmX (bys q_l)).r.l)), .d (.int .i64 (bmX (bys q_l)).lo), .d (.int .i64 (bmX (bys q_l)).mi)], [(n0, [.d (.list (LB (bmR (bys q_l))))])], []⟩
  | _, _, _, _ => none
theorem E_made_eq  {q_l : List D} {n0 : Name} {m0 : Name} {nF : Name} : E_made [.c (.lp n0 0)] [(m0, [.d (.list q_l)])] [] nF = some ⟨n0.lv ≤ 1 ∧ m0 = n0 ∧ q_l = LB (bys q_l), .agg [.d (.int .i64 (bmX (bys q_l)).q), .d (.int .i64 (bmX (bys q_l)).c.t), .d (.int .i64 (bmX (bys q_l)).c.d), .d (.int .i64 (bmX (bys q_l)).c.g), .d (.int .i64 (bmX (bys q_l)).c.m), .d (.int .i64 (bmX (bys q_l)).r.c), .d (.int .i64 (bmX (bys q_l)).r.p.n), .d (.int .i64 (bmX (bys q_l)).r.p.d), .d (.int .i64 (bmX (bys q_l)).r.p.a), .d (.int .i64 (bmX (bys q_l)).r.p.p), .d (.int .i64 (bmX (bys q_l)).r.p.f), .d (.list (LI .i32 (bmX (bys q_l)).r.l)), .d (.int .i64 (bmX (bys q_l)).lo), .d (.int .i64 (bmX (bys q_l)).mi)], [(n0, [.d (.list (LB (bmR (bys q_l))))])], []⟩ := Eq.trans rfl rfl
theorem E_made_ok : Snd Try.prog 12 E_made := by
  intro vs b k n e h hn hp
  unfold E_made at h
  split at h
  · cases h; obtain ⟨hl0, rfl, hq0⟩ := hp; obtain ⟨_, rfl⟩ := LB_ex hq0; simp only [ints_LI, bys_LB, blks_LK, lls_LL]; exact Spec.ren1 (spec_made _) 0 (by simp [supOK, V.names, C.names, namesB, namesK]) hl0 
  · cases h

theorem spec_sane  : Spec Try.prog 0 8 [] [] [] (vB true) [] [] := by
  refine spec_of_E (X := ⟨Try.prog, tt, Try.f8.ntmps, 1, fun _ => 0, (tab [(25, E_bnew), (18, E_pull), (15, E_push), (23, E_brfill), (21, E_brvalid)])⟩) (M := [(2, [0, 0, 0, 0, 0, 7930879, 0, 0, 0, 0, 0, 4195327, 0]), (3, [0, 0, 0, 0, 0, 1887437823, 0, 0, 0, 0, 0, 0]), (4, [0, 0, 0, 0, 0, 18889465931409861379071, 0, 0, 0, 0, 0, 18889465929279557600255, 0, 0, 0, 0, 0, 18889465790741092500479, 0, 0, 0, 0, 0, 18889447917080071373823, 0, 0, 0, 0, 0, 18888313009973974008831, 0, 0, 0, 0, 0, 18852572443331161752575, 0, 0, 0, 0, 0, 15347691069326346945535, 0, 0])]) (m := 1023) rfl rfl ⟨tt_ok, tab_ok (tabs_cons E_bnew_ok (tabs_cons E_pull_ok (tabs_cons E_push_ok (tabs_cons E_brfill_ok (tabs_cons E_brvalid_ok tabs_nil))))) _ rfl rfl⟩ tt_mixed Try.func8 rfl (by decide) (by show (0 : Nat) ≤ _; exact Nat.le_of_ble_eq_true rfl) ⟨fun m hm => (V.bare_has rfl m hm).elim, by simp, by simp⟩ ?_
  simp only [↓gPre, gPost, gCore, handV, V.bufs, buildArr, toCs, Nat.reduceShiftRight, Nat.reduceMod, addB, addK, zeroOp, callSem, resName, keepsB, newB, V.pure, C.pure, V.ptrs, C.ptrs, C.bufs, appendSem, appendTo, appendZ, dstOk, lk, V.cells, Op.eff, partV, partD, cut, lay, zeroD, C.toDs, C.toD, V.toD, toDs, buildCells, if_true, if_false, ↓reduceIte, reduceCtorEq, Nat.reduceEqDiff, Nat.reduceLT, Nat.reduceLeDiff, implies_true, forall_const, eq_self, ne_eq, not_true_eq_false, not_false_eq_true, imp_self, Nat.reduceAdd, Nat.reduceMul, Int.reduceLE, Int.reduceLT, Int.reduceNeg, Int.reduceAdd, Int.reduceToNat, E_bnew_eq, E_pull_eq, E_push_eq, E_brfill_eq, E_brvalid_eq, rs_eta, ph_eta, ct_eta, br_eta, Try.ntmps8, Try.results8, gTT]
  rw [eg1.1, eg1.2, eg2.1, eg2.2.1, eg2.2.2.1, eg2.2.2.2, eg3.1, eg3.2.1, eg3.2.2, eg4.1, eg4.2]
  trace_state
  decide
def E_sane : List V → Boxes → Toks → Name → Option Ent
  | [], [], [], _ => some ⟨True, vB true, [], []⟩
  | _, _, _, _ => none
theorem E_sane_eq  {nF : Name} : E_sane [] [] [] nF = some ⟨True, vB true, [], []⟩ := Eq.trans rfl rfl
theorem E_sane_ok : Snd Try.prog 8 E_sane := by
  intro vs b k n e h hn hp
  unfold E_sane at h
  split at h
  · cases h; exact (spec_sane ).lift rfl _
  · cases h

end Go.Vam
