/- The law StreamDrains gives true. Conditions: none. -/
import Derived.Test.YtdhhjfnmocimmaaStQ
set_option linter.unusedVariables false
set_option linter.defProp false
set_option linter.unusedSimpArgs false
set_option maxRecDepth 40000
set_option maxHeartbeats 4000000
namespace Go.Vam
open Go.Proofs

/-- A resampler of one channel after N frames, the last one held. -/
def rD (P : Ph) (b : List Int) (N : Nat) : Rs := ⟨1, adv P N, b.drop (min b.length (qN P N))⟩
structure drH (P : Ph) (b : List Int) : Prop where
  hp : phV P = true
  h0 : P.p = 0
  hf : P.f = 0
  h1 : P.a = 0
  ha : b.all smpX = true
  hb : 1 ≤ b.length ∧ b.length ≤ 50
  hr : P.d ≤ 20 * P.n
def drX (P : Ph) (b : List Int) : Rs := ⟨1, P, b⟩
def drN (P : Ph) (b : List Int) : Nat := (cnt (drX P b) 65536).toNat
theorem dr_V {P : Ph} {b : List Int} (H : drH P b) : rsV (drX P b) = true := by
  unfold rsV
  have h1 : phV (drX P b).p = true := H.hp
  have h2 : blkV (drX P b).c (drX P b).l = true := blkV_mk (c := 1) (z := b.length) (by decide) (by show b.length = b.length * 1; omega) (by have := H.hb; omega) H.ha
  rw [h1, h2]
  rfl
theorem dr_len (P : Ph) (b : List Int) : (drX P b).l.length / (drX P b).c.toNat = b.length := by
  show b.length / 1 = b.length
  exact Nat.div_one _
theorem dr_lef {P : Ph} {b : List Int} (H : drH P b) : lefX (drX P b) = (b.length : Int) * prt P := by
  unfold lefX
  rw [dr_len]
  show (b.length : Int) * prt P - P.f = _
  rw [H.hf, Int.sub_zero]
theorem dr_cnt {P : Ph} {b : List Int} (H : drH P b) : cnt (drX P b) 65536 = (lefX (drX P b) + stp P - 1) / stp P ∧ 1 ≤ cnt (drX P b) 65536 ∧ cnt (drX P b) 65536 ≤ 1000 := by
  have hpr := prt_in H.hp
  have hst := stp_in H.hp
  have hph := phV_in H.hp
  have hl := dr_lef H
  have e1 : prt P ≤ 20 * stp P := by
    rw [hst.1, H.h1, hph.2.2.2.2.2]
    have := H.hr
    omega
  have hb := H.hb
  have h2 : (b.length : Int) * prt P ≤ 50 * prt P := Int.mul_le_mul_of_nonneg_right (by omega) (by omega)
  have h3 : 1 * prt P ≤ (b.length : Int) * prt P := Int.mul_le_mul_of_nonneg_right (by omega) (by omega)
  have hpos : 0 < lefX (drX P b) := by rw [hl]; omega
  have h4 : (lefX (drX P b) + stp P - 1) / stp P ≤ 1000 := by
    have : (lefX (drX P b) + stp P - 1) / stp P < 1001 := Int.ediv_lt_of_lt_mul (by omega) (by rw [hl]; omega)
    omega
  have h5 : 1 ≤ (lefX (drX P b) + stp P - 1) / stp P := Int.le_ediv_of_mul_le (by omega) (by omega)
  have e : cnt (drX P b) 65536 = min 65536 ((lefX (drX P b) + stp P - 1) / stp P) := if_pos hpos
  rw [e]
  omega
theorem dr_N {P : Ph} {b : List Int} (H : drH P b) : ((drN P b : Nat) : Int) = cnt (drX P b) 65536 ∧ 1 ≤ drN P b ∧ drN P b ≤ 1000 := by
  have := (dr_cnt H).2
  unfold drN
  omega
theorem dr_iff {P : Ph} {b : List Int} (H : drH P b) {k : Nat} (hk : k ≤ 60000) : qN P k < b.length ↔ k < drN P b := by
  have h1 := cnt_iff (dr_V H) (n := 65536) (k := k) (by omega)
  rw [dr_len] at h1
  have h2 := qN_eq H.hp (g := k) (by omega)
  have h3 := (dr_N H).1
  have h4 : qAt (drX P b).p k = qAt P k := rfl
  rw [h4] at h1
  omega
theorem rD_V {P : Ph} {b : List Int} (H : drH P b) {N : Nat} (hN : N ≤ 60000) : rsV (rD P b N) = true ∧ (rD P b N).l.length = b.length - min b.length (qN P N) := by
  have hq := qN_eq H.hp (g := N) (by omega)
  have h1 : phV (rD P b N).p = true := adv_V H.hp (by omega) (by rw [H.h0]; omega)
  have hl : (rD P b N).l.length = b.length - min b.length (qN P N) := by
    show (b.drop _).length = _
    rw [List.length_drop]
  refine ⟨?_, hl⟩
  unfold rsV
  rw [h1]
  have h2 : blkV (rD P b N).c (rD P b N).l = true := blkV_mk (c := 1) (z := (rD P b N).l.length) (by decide) (by show _ = _ * 1; omega) (by have := H.hb; omega) (by
    rw [List.all_eq_true]
    intro x hx
    exact List.all_eq_true.1 H.ha x (List.mem_of_mem_drop hx))
  rw [h2]
  rfl
theorem rD_cnt {P : Ph} {b : List Int} (H : drH P b) {N k : Nat} (hN : N < drN P b) (hk : k ≤ 60000) : cnt (rD P b N) k = ((min k (drN P b - N) : Nat) : Int) := by
  have hH := dr_N H
  have hC := dr_cnt H
  have hst := stp_in H.hp
  have hq := qAt_in H.hp (n := (N : Int)) (by omega)
  have hq2 := qN_eq H.hp (g := N) (by omega)
  have hlt := (dr_iff H (k := N) (by omega)).2 hN
  have hl := (rD_V H (N := N) (by omega)).2
  have hS : stp (rD P b N).p = stp P := rfl
  have hL : lefX (rD P b N) = lefX (drX P b) - (N : Int) * stp P := by
    unfold lefX
    rw [dr_len]
    have e1 : (rD P b N).l.length / (rD P b N).c.toNat = b.length - qN P N := by
      show (rD P b N).l.length / 1 = _
      rw [Nat.div_one, hl]
      omega
    rw [e1]
    show ((b.length - qN P N : Nat) : Int) * prt P - fAt P N = (b.length : Int) * prt P - P.f - (N : Int) * stp P
    have e2 : ahd P N = P.f + (N : Int) * stp P := rfl
    have e3 := hq.2.2.2
    have e4 : ((b.length - qN P N : Nat) : Int) = (b.length : Int) - qAt P N := by omega
    rw [e4, Int.sub_mul]
    omega
  have hdiv : (lefX (rD P b N) + stp P - 1) / stp P = (lefX (drX P b) + stp P - 1) / stp P - N := by
    have e : lefX (rD P b N) + stp P - 1 = (lefX (drX P b) + stp P - 1) + (-(N : Int)) * stp P := by rw [hL, Int.neg_mul]; omega
    rw [e, Int.add_mul_ediv_right _ _ (by omega)]
    omega
  have hpos : 0 < lefX (rD P b N) := by
    apply Classical.byContradiction
    intro hn
    have : (lefX (rD P b N) + stp P - 1) / stp P < 1 := Int.ediv_lt_of_lt_mul (by omega) (by omega)
    omega
  unfold cnt
  rw [if_pos hpos, hS, hdiv]
  omega
theorem rD_gx {P : Ph} {b : List Int} (H : drH P b) {N : Nat} (hN : qN P N < b.length) (k : Nat) : gx (rD P b N) k 0 = gx (drX P b) (k + qN P N) 0 := by
  unfold gx frA
  show ((b.drop (min b.length (qN P N)))[min (k * 1) ((b.drop (min b.length (qN P N))).length - 1) + 0]?).getD 0 = (b[min ((k + qN P N) * 1) (b.length - 1) + 0]?).getD 0
  rw [List.getElem?_drop, List.length_drop]
  congr 2
  omega
theorem rD_outO {P : Ph} {b : List Int} (H : drH P b) {N : Nat} (hN : N < drN P b) : ∀ m : Nat, N + m ≤ 60000 → outO (drX P b) N ++ outO (rD P b N) m = outO (drX P b) (N + m)
  | 0, _ => by simp [outO]
  | m + 1, hm => by
    have ih := rD_outO H hN m (by omega)
    have hlt := (dr_iff H (k := N) (by have := (dr_N H).2; omega)).2 hN
    have e1 : outO (rD P b N) (m + 1) = outO (rD P b N) m ++ outF (rD P b N) m 1 := rfl
    have e2 : outO (drX P b) (N + (m + 1)) = outO (drX P b) (N + m) ++ outF (drX P b) (N + m) 1 := rfl
    rw [e1, e2, ← List.append_assoc, ih]
    congr 1
    have h1 := q_add H.hp (N := N) (i := m) (by omega)
    have e3 : outC (rD P b N) m 0 = outC (drX P b) (N + m) 0 := by
      unfold outC
      have hq : qN (rD P b N).p m + qN P N = qN P (N + m) := by
        have : (rD P b N).p = adv P N := rfl
        rw [this]; omega
      have hq2 : qN (rD P b N).p m + 1 + qN P N = qN P (N + m) + 1 := by omega
      rw [rD_gx H hlt, rD_gx H hlt, hq, hq2]
      show btw _ _ (fAt (adv P N) m) (prt P) = btw _ _ (fAt P ((N + m : Nat) : Int)) (prt P)
      rw [h1.2]
      rfl
    show [outC (rD P b N) m 0] = [outC (drX P b) (N + m) 0]
    rw [e3]
theorem rD_po {P : Ph} {b : List Int} (H : drH P b) {N m : Nat} (hm : N + m ≤ 60000) : poR (rD P b N) m = rD P b (N + m) := by
  have hv := (rD_V H (N := N) (by omega)).1
  have hq := qN_eq H.hp (g := N) (by omega)
  have he := po_go hv (n := (m : Int)) (by omega) (by show P.p + _ ≤ _; rw [H.h0]; omega)
  have h1 := q_add H.hp (N := N) (i := m) (by omega)
  unfold poR
  rw [if_pos he, (adE_ok he).2]
  have hqm := qN_eq (rsV_in hv).1 (g := m) (by omega)
  have e1 : (⟨(rD P b N).p.n, (rD P b N).p.d, (rD P b N).p.a, (rD P b N).p.p + qAt (rD P b N).p m, fAt (rD P b N).p m⟩ : Ph) = adv P (N + m) := by
    show (⟨P.n, P.d, P.a, P.p + ((qN P N : Nat) : Int) + qAt (adv P N) m, fAt (adv P N) m⟩ : Ph) = ⟨P.n, P.d, P.a, P.p + ((qN P (N + m) : Nat) : Int), fAt P ((N + m : Nat) : Int)⟩
    have e2 : ((qN (adv P N) m : Nat) : Int) = qAt (adv P N) m := hqm.1
    rw [h1.1, h1.2, ← e2]
    congr 1
    omega
  rw [e1]
  unfold rD
  show (⟨1, adv P (N + m), (b.drop (min b.length (qN P N))).drop (min (b.drop (min b.length (qN P N))).length (qN (adv P N) ((m : Int).toNat) * 1))⟩ : Rs) = ⟨1, adv P (N + m), b.drop (min b.length (qN P (N + m)))⟩
  rw [List.drop_drop, List.length_drop, Int.toNat_natCast, h1.1]
  congr 2
  omega
/-- The stream, and what it played, after some takes. -/
def drS (P : Ph) (b : List Int) (k g : Nat) : Sm := ⟨1, if g * k < drN P b then 5 else 6, 60, 0, rD P b (min (g * k) (drN P b)), rg0, (b.length : Int), ((g * k : Nat) : Int), 0⟩
def drO (P : Ph) (b : List Int) (k g : Nat) : List Int := outO (drX P b) (min (g * k) (drN P b)) ++ List.replicate (g * k - drN P b) 0
theorem dr_ok {P : Ph} {b : List Int} (H : drH P b) {k g : Nat} (hk : k ≤ 40) (hg : g ≤ 1100) : okS (drS P b k g) 1 1 1 := by
  have hN := (dr_N H).2
  have hb := H.hb
  obtain ⟨v1, v2⟩ := rD_V H (N := min (g * k) (drN P b)) (by omega)
  have hgk := Nat.mul_le_mul hg hk
  have hq := qN_eq H.hp (g := min (g * k) (drN P b)) (by omega)
  have hqb : qN P (min (g * k) (drN P b)) ≤ 62000000000 := by omega
  have hs : 1 ≤ (drS P b k g).st ∧ (drS P b k g).st ≤ 7 := by
    show 1 ≤ (if g * k < drN P b then (5 : Int) else 6) ∧ (if g * k < drN P b then (5 : Int) else 6) ≤ 7
    split <;> omega
  have hB : smB (drS P b k g) = true := smB_mk hs ⟨by show (1 : Int) ≤ 60; decide, by show (60 : Int) ≤ 65536; decide⟩ ⟨by show (0 : Int) ≤ 0; decide, by show (0 : Int) ≤ 60; decide⟩ v1 H.h1 (by show (0 : Int) ≤ (b.length : Int); omega) (by show (0 : Int) ≤ ((g * k : Nat) : Int); omega) (by show (0 : Int) ≤ 0; decide)
  refine ⟨smV_1 hB rfl ?_ rfl, rfl, rfl, by show (rD P b _).l.length ≤ _; omega, Nat.zero_le _, by show (b.length : Int) ≤ _; omega, by show ((g * k : Nat) : Int) ≤ _; omega, by show (0 : Int) ≤ 70000 * ((1 : Nat) : Int); decide, ?_⟩
  · rw [(waN_V (x := (drS P b k g).r) v1 (by show (rD P b _).l.length ≤ _; omega)).1]
    show (((rD P b _).l.length / 1 : Nat) : Int) ≤ 60
    rw [Nat.div_one]
    omega
  · show P.p + ((qN P (min (g * k) (drN P b)) : Nat) : Int) ≤ _
    rw [H.h0]
    omega
theorem dr_take {P : Ph} {b : List Int} (H : drH P b) {k g : Nat} (hk : 1 ≤ k ∧ k ≤ 40) (hg : g ≤ 1000) (hd : g * k < drN P b) :
    skE (drS P b k g) k = 0 ∧ skX (drS P b k g) k = 0 ∧ skR (drS P b k g) k = drS P b k (g + 1) ∧ skC (drS P b k g) k = 1 ∧ drO P b k g ++ skO (drS P b k g) k = drO P b k (g + 1) := by
  have ok := dr_ok H hk.2 (show g ≤ 1100 by omega)
  have hN := (dr_N H).2
  have he := sk_go ok (by decide) (i := (k : Int)) (by omega)
  have hst : (drS P b k g).st = 5 := if_pos hd
  have hmin : min (g * k) (drN P b) = g * k := by omega
  have hr : (drS P b k g).r = rD P b (g * k) := by show rD P b _ = _; rw [hmin]
  have hgk : (g + 1) * k = g * k + k := by rw [Nat.add_mul, Nat.one_mul]
  have hc := rD_cnt H hd (k := k) (by omega)
  have hM : skM (drS P b k g) k = ((min k (drN P b - g * k) : Nat) : Int) := by
    unfold skM
    rw [if_neg (by rw [hst]; decide), if_pos hst, hr, hc]
  have hX : skX (drS P b k g) k = 0 := by unfold skX; rw [if_neg (fun h => by rw [hst] at h; exact absurd h.2 (by decide))]
  have hsum : g * k + min k (drN P b - g * k) = min ((g + 1) * k) (drN P b) := by omega
  have hpo : poR (drS P b k g).r (skM (drS P b k g) k) = rD P b (min ((g + 1) * k) (drN P b)) := by
    rw [hr, hM, rD_po H (by omega), hsum]
  have hpl := ok.pl
  have hgb := Nat.mul_le_mul hg hk.2
  refine ⟨he, hX, ?_, if_pos he, ?_⟩
  · have hS : skS (drS P b k g) k = if (g + 1) * k < drN P b then 5 else 6 := by
      unfold skS
      rw [hpo, hst, (rD_V H (N := min ((g + 1) * k) (drN P b)) (by omega)).2]
      have hif := dr_iff H (k := min ((g + 1) * k) (drN P b)) (by omega)
      by_cases h : (g + 1) * k < drN P b
      · have := hif.2 (by omega)
        rw [if_neg (by omega), if_pos h]
      · have : ¬ qN P (min ((g + 1) * k) (drN P b)) < b.length := fun h2 => by
          have := hif.1 h2
          omega
        rw [if_pos ⟨rfl, by omega⟩, if_neg h]
    unfold skR
    rw [if_pos he, if_pos (Or.inr hst), hS, hpo, hX]
    show (⟨1, _, 60, 0, _, rg0, (b.length : Int), IntKind.i64.wrap (((g * k : Nat) : Int) + (k : Int)), IntKind.i64.wrap (0 + 0)⟩ : Sm) = ⟨1, _, 60, 0, _, rg0, (b.length : Int), (((g + 1) * k : Nat) : Int), 0⟩
    rw [IntWalk.i64_in _ (by omega), IntWalk.i64_in (0 + 0) (by decide), hgk, Int.natCast_add, Int.add_zero]
  · have e : skO (drS P b k g) k = outO (drS P b k g).r (skM (drS P b k g) k).toNat ++ List.replicate (((k : Int).toNat - (skM (drS P b k g) k).toNat) * (drS P b k g).r.c.toNat) 0 := if_pos he
    rw [e, hr, hM, Int.toNat_natCast, Int.toNat_natCast]
    unfold drO
    rw [hmin, show g * k - drN P b = 0 by omega, List.replicate_zero, List.append_nil, ← List.append_assoc, rD_outO H hd _ (by omega), hsum]
    congr 2
    show (k - min k (drN P b - g * k)) * 1 = _
    omega
theorem drO_len (P : Ph) (b : List Int) (k g : Nat) : (drO P b k g).length = g * k := by
  unfold drO
  have h1 : (outO (drX P b) (min (g * k) (drN P b))).length = min (g * k) (drN P b) * 1 := outO_len _ _
  rw [List.length_append, h1, List.length_replicate]
  omega
theorem drO_all {P : Ph} {b : List Int} (H : drH P b) {k g : Nat} (hg : drN P b ≤ 60000) : (drO P b k g).all smpX = true := by
  unfold drO
  rw [List.all_append, outO_all (x := drX P b) H.hp H.ha _ (by omega), Bool.true_and, List.all_eq_true]
  intro z hz
  rw [(List.mem_replicate.1 hz).2]
  decide


theorem spec_drains20 (u : List UInt8) (f w : Int) (hf : 0 ≤ f ∧ f ≤ 255) (hw : 0 ≤ w ∧ w ≤ 255) : Spec Try.prog 0 4 [vL (LB u), vI .u8 f, vI .u8 w] [] [] (vB true) [] [] := by
  refine spec_of_E (X := ⟨Try.prog, tt, Try.f4.ntmps, 1, fun _ => 0, (tab [(7, E_sane), (8, E_new), (9, E_base), (11, E_snew), (12, E_wave), (13, E_swrite), (15, E_sdo), (21, E_rrsnew), (22, E_rfeed), (23, E_rfinish), (17, E_stake), (18, E_join), (19, E_frames)])⟩) (M := [(21, [0, 0, 0, 0, 0, 11972622773360213901814645527690462883789068951977927, 0, 0, 0, 0, 0, 11972622773360213901317726492400996958402361295470535, 0, 0]), (26, [0, 0, 0, 0, 0, 11972622795660703886126047608138557339396212851834823, 0, 0, 0, 0, 0, 11972622795652792321095135788863033879773424240918471, 0, 0, 0, 0, 0, 11972622795138285382310676832106411473336590705196999, 0, 0, 0, 0]), (31, [0, 0, 0, 0, 0, 23945152842522637423862813589760182327036096068288455, 0, 0, 0, 0, 0, 23921860160177676158603942362738766566410329643384775, 0, 0, 0, 0, 0, 23243723400456137204557432600358411245289976943443911, 0, 0, 0])]) (m := 11972622773360213899370615170450436597703425172012999) rfl rfl ⟨tt_ok, tab_ok (tabs_cons E_sane_ok (tabs_cons E_new_ok (tabs_cons E_base_ok (tabs_cons E_snew_ok (tabs_cons E_wave_ok (tabs_cons E_swrite_ok (tabs_cons E_sdo_ok (tabs_cons E_rrsnew_ok (tabs_cons E_rfeed_ok (tabs_cons E_rfinish_ok (tabs_cons E_stake_ok (tabs_cons E_join_ok (tabs_cons E_frames_ok tabs_nil))))))))))))) _ rfl rfl⟩ tt_mixed Try.func4 rfl (by decide) (by show (3 : Nat) ≤ _; exact Nat.le_of_ble_eq_true rfl) ⟨fun m hm => (V.bare_has rfl m hm).elim, by simp, by simp⟩ ?_
  simp only [↓gPre, gPost, gCore, gDef, Nat.reduceShiftRight, Nat.reduceMod, if_true, if_false, ↓reduceIte, reduceCtorEq, Nat.reduceEqDiff, Nat.reduceLT, Nat.reduceLeDiff, implies_true, forall_const, eq_self, ne_eq, not_true_eq_false, not_false_eq_true, imp_self, Nat.reduceAdd, Nat.reduceMul, Int.reduceLE, Int.reduceLT, Int.reduceNeg, Int.reduceAdd, Int.reduceToNat, E_sane_eq, E_new_eq, E_base_eq, E_snew_eq, E_wave_eq, E_swrite_eq, E_sdo_eq, E_rrsnew_eq, E_rfeed_eq, E_rfinish_eq, E_stake_eq, E_join_eq, E_frames_eq, rg_eta, sm_eta, ph_eta, rs_eta, smD_eq, smC_eq, Try.ntmps4, Try.results4, gTT]
  refine fun h0 => ?_
  have hph := ba_ok (u.take 300)
  have hpi := phV_in hph
  simp only at hpi
  have hg := of_decide_eq_false h0
  rw [IntWalk.i64_in (20 * baN (u.take 300)) (by omega)] at hg
  have tf : 0 ≤ f.tmod 50 ∧ f.tmod 50 < 50 := by rw [Int.tmod_eq_emod_of_nonneg hf.1]; omega
  have tw : 0 ≤ w.tmod 40 ∧ w.tmod 40 < 40 := by rw [Int.tmod_eq_emod_of_nonneg hw.1]; omega
  rw [IntWalk.i64_in (f.tmod 50) (by omega), IntWalk.i64_in (w.tmod 40) (by omega), IntWalk.i64_in (1 + f.tmod 50) (by omega), IntWalk.i64_in (1 + w.tmod 40) (by omega)]
  have htn : ((1 + f.tmod 50).toNat : Int) = 1 + f.tmod 50 := by omega
  generalize hF0 : (1 + f.tmod 50).toNat = F at *
  have hF : 1 ≤ F ∧ F ≤ 50 := by omega
  generalize hK0 : (1 + w.tmod 40).toNat = k
  have hK : (1 + w.tmod 40) = (k : Int) := by omega
  have hk : 1 ≤ k ∧ k ≤ 40 := by omega
  rw [hK]
  obtain ⟨n1, n2⟩ := new_ok (di := 1) (s0 := 0) (q := 60) (ch := 1) hph (by decide) (by decide) (by decide) (.inl rfl)
  have okn := nw_S (st := 1) (q := 60) (s0 := 0) (di := 1) (ch := 1) hph (by decide) (by decide) (by decide) (by decide) (.inl rfl)
  generalize hP : (⟨baN (u.take 300), baD (u.take 300), 0, 0, 0⟩ : Ph) = P at *
  have hPn : baN (u.take 300) = P.n := by rw [← hP]
  have hPd : baD (u.take 300) = P.d := by rw [← hP]
  have H : drH P (waO 6 1 0 F) := ⟨hph, by rw [← hP], by rw [← hP], by rw [← hP], waO_all _ _ _ _, by rw [waO_len]; show 1 ≤ F * 1 ∧ F * 1 ≤ 50; omega, by rw [← hPn, ← hPd]; omega⟩
  have hBl : (waO 6 1 0 F).length = F := by rw [waO_len]; exact Nat.mul_one F
  generalize waO 6 1 0 F = B at *
  have hBb : blkV 1 B = true := blkV_mk (z := F) (by decide) (by rw [hBl]; exact (Nat.mul_one F).symm) (by omega) H.ha
  have hsn : swN 1 B = F := swN_of (by decide) (by rw [hBl]; exact (Nat.mul_one F).symm)
  have hnr : (nwS 1 1 (baN (u.take 300)) (baD (u.take 300)) 60 0 1).r = ⟨1, P, []⟩ := by rw [← hP]; rfl
  have hw0 : waN (⟨1, P, []⟩ : Rs) = 0 := by
    have := (waN_V (smB_in okn.b).2.2.2.1 okn.lr).1
    rw [hnr] at this
    rw [this]
    simp
  have e1 : swE (nwS 1 1 (baN (u.take 300)) (baD (u.take 300)) 60 0 1) 1 B = 0 := by
    have hO : smO (nwS 1 1 (baN (u.take 300)) (baD (u.take 300)) 60 0 1) = 60 - smN (nwS 1 1 (baN (u.take 300)) (baD (u.take 300)) 60 0 1) := if_neg (by rw [okn.v]; decide)
    rw [swE_all okn (by show (1 : Int) ≤ 4; decide) hBb, hsn, hO, okn.N, hnr, hw0, if_neg (by omega)]
  obtain ⟨f1, f2, f3, f4⟩ := sw_fl okn (by decide) (by omega) e1
  have okw := sw_ok okn (by decide) (by omega) e1
  have e2 : swR (nwS 1 1 (baN (u.take 300)) (baD (u.take 300)) 60 0 1) 1 B = ⟨1, 2, 60, 0, drX P B, rg0, (F : Int), 0, 0⟩ := by
    rw [f1, f3, hnr, hsn]
    show (⟨1, (if (1 : Int) = 1 ∧ (0 : Int) < (F : Int) then 2 else 1), 60, 0, ⟨1, P, [] ++ B⟩, rg0, 0 + (F : Int), 0, 0⟩ : Sm) = _
    rw [if_pos ⟨rfl, by omega⟩, Int.zero_add]
    rfl
  have hD : doE (⟨1, 2, 60, 0, drX P B, rg0, (F : Int), 0, 0⟩ : Sm) 4 = 0 ∧ doR (⟨1, 2, 60, 0, drX P B, rg0, (F : Int), 0, 0⟩ : Sm) 4 = drS P B k 0 := by
    rw [e2] at okw
    have e := do0 okw.v (by decide : (1 : Int) ≤ 4 ∧ (4 : Int) ≤ 7) rfl (fun h => absurd h.1 (by decide))
    refine ⟨e, ?_⟩
    unfold doR
    rw [if_pos e, if_neg (by decide)]
    have hr : rD P B (min (0 * k) (drN P B)) = drX P B := by
      obtain ⟨z1, z2⟩ := adv_zero H.hp
      rw [Nat.zero_mul, Nat.zero_min]
      unfold rD drX
      rw [z1, z2, Nat.min_zero, List.drop_zero]
    unfold drS setS
    rw [hr, if_pos (by rw [Nat.zero_mul]; exact (dr_N H).2.1), hBl, Nat.zero_mul]
    rfl
  have hN := (dr_N H).2
  have hX : feR (⟨1, P, []⟩ : Rs) 1 B = drX P B := by
    have := f3
    rw [hnr] at this
    rw [this]
    rfl
  have hnw : nwR 1 (baN (u.take 300)) (baD (u.take 300)) = ⟨1, P, []⟩ := by
    unfold nwR
    rw [hP, if_pos (by have := (smB_in okn.b).2.2.2.1; rw [hnr] at this; exact this)]
  have hXl : (drX P B).l.length ≤ 1000000 := by show B.length ≤ _; omega
  have hfi : fiE (drX P B) 65536 = 0 := fi_go (dr_V H) hXl (by decide) (by show P.p ≤ _; rw [H.h0]; decide)
  have hfc : fiC (drX P B) 65536 = 1 := if_pos hfi
  have hfo : fiO (drX P B) 65536 = outO (drX P B) (drN P B) := if_pos hfi
  rw [hnw, hX, n1, n2, e1, e2, hD.1, hD.2]
  refine ⟨by decide, ⟨by omega, by omega⟩, ⟨okn.lr, okn.lg, by omega⟩, ⟨hXl, Nat.zero_le _⟩, fun h => absurd h (by decide), fun _ => ⟨⟨Nat.zero_le _, by omega⟩, hXl, by decide, ?_⟩⟩
  refine ELoop_keep (fun g => ⟨[(21, vI .i64 (g : Nat))], [(⟨1, 9⟩, [.d (.int .i64 (drS P B k g).di), .d (.int .i64 (drS P B k g).st), .d (.int .i64 (drS P B k g).q), .d (.int .i64 (drS P B k g).s0), .d (.int .i64 (drS P B k g).r.c), .d (.int .i64 (drS P B k g).r.p.n), .d (.int .i64 (drS P B k g).r.p.d), .d (.int .i64 (drS P B k g).r.p.a), .d (.int .i64 (drS P B k g).r.p.p), .d (.int .i64 (drS P B k g).r.p.f), .d (.list (LI .i32 (drS P B k g).r.l)), .d (.int .i64 (drS P B k g).g.c), .d (.int .i64 (drS P B k g).g.q), .d (.int .i64 (drS P B k g).g.w), .d (.int .i64 (drS P B k g).g.r), .d (.list (LI .i32 (drS P B k g).g.l)), .d (.int .i64 (drS P B k g).wr), .d (.int .i64 (drS P B k g).pl), .d (.int .i64 (drS P B k g).mi)]), (⟨1, 19⟩, [.d (.int .i64 1), .d (.list (LI .i32 (drO P B k g)))])], []⟩) (fun g => g = 0 ∨ (g - 1) * k < drN P B) (fun g => 1100 - g) (· + 1) 0 (.inl rfl) ?_ ?_
  · simp only [↓gPre, gPost, gCore, gDef, Nat.reduceShiftRight, Nat.reduceMod, if_true, if_false, ↓reduceIte, reduceCtorEq, Nat.reduceEqDiff, Nat.reduceLT, Nat.reduceLeDiff, implies_true, forall_const, eq_self, ne_eq, not_true_eq_false, not_false_eq_true, imp_self, Nat.reduceAdd, Nat.reduceMul, Int.reduceLE, Int.reduceLT, Int.reduceNeg, Int.reduceAdd, Int.reduceToNat, E_sane_eq, E_new_eq, E_base_eq, E_snew_eq, E_wave_eq, E_swrite_eq, E_sdo_eq, E_rrsnew_eq, E_rfeed_eq, E_rfinish_eq, E_stake_eq, E_join_eq, E_frames_eq, rg_eta, sm_eta, ph_eta, rs_eta, smD_eq, smC_eq, Try.ntmps4, Try.results4, gTT]
    refine ⟨rfl, ?_⟩
    unfold drO
    rw [Nat.zero_mul, Nat.zero_min, Nat.zero_sub, List.replicate_zero, List.append_nil]
    rfl
  intro g hg
  simp only [↓gPre, gPost, gCore, gDef, Nat.reduceShiftRight, Nat.reduceMod, if_true, if_false, ↓reduceIte, reduceCtorEq, Nat.reduceEqDiff, Nat.reduceLT, Nat.reduceLeDiff, implies_true, forall_const, eq_self, ne_eq, not_true_eq_false, not_false_eq_true, imp_self, Nat.reduceAdd, Nat.reduceMul, Int.reduceLE, Int.reduceLT, Int.reduceNeg, Int.reduceAdd, Int.reduceToNat, E_sane_eq, E_new_eq, E_base_eq, E_snew_eq, E_wave_eq, E_swrite_eq, E_sdo_eq, E_rrsnew_eq, E_rfeed_eq, E_rfinish_eq, E_stake_eq, E_join_eq, E_frames_eq, rg_eta, sm_eta, ph_eta, rs_eta, smD_eq, smC_eq, Try.ntmps4, Try.results4, gTT]
  have hk1 : ∀ a : Nat, a ≤ a * k := fun a => Nat.le_mul_of_pos_right a hk.1
  have hgb : g ≤ 1000 := by
    rcases hg with rfl | hg
    · exact Nat.zero_le _
    · have := hk1 (g - 1)
      omega
  have hgk := Nat.mul_le_mul hgb hk.2
  have ok := dr_ok H hk.2 (show g ≤ 1100 by omega)
  have hOl := drO_len P B k g
  have hOa := drO_all H (k := k) (g := g) (by omega)
  refine ⟨fun h1 => ?_, fun h1 => ?_⟩
  · rw [Bool.and_eq_true] at h1
    have h5 : (drS P B k g).st = 5 := by simpa using h1.2
    have hd : g * k < drN P B := Classical.byContradiction fun h => by
      have h6 : (drS P B k g).st = 6 := if_neg h
      rw [h6] at h5
      exact absurd h5 (by decide)
    obtain ⟨a1, a2, a3, a4, a5⟩ := dr_take H hk hgb hd
    rw [a1, a2, a3]
    refine ⟨⟨ok.lr, ok.lg⟩, fun h => absurd h (by decide), fun _ => ⟨by kernel_rfl, ?_, ⟨(wrapN _ (by omega)).symm, ⟨rfl, rfl, rfl, rfl, rfl, rfl, rfl, rfl, rfl, rfl, rfl, rfl, rfl, rfl, rfl, rfl, rfl, rfl, rfl⟩, a5.symm⟩, by rw [Nat.add_sub_cancel]; exact hd, by omega⟩⟩
    rw [← List.length_append, a5, drO_len]
    have := Nat.mul_le_mul (show g + 1 ≤ 1001 by omega) hk.2
    omega
  have hd : ¬ g * k < drN P B := fun h => by
    have h5 : (drS P B k g).st = 5 := if_pos h
    rw [h5, decide_eq_true (show (g : Int) < 1100 by omega)] at h1
    exact absurd h1 (by decide)
  have hs6 : (drS P B k g).st = 6 := if_neg hd
  have hm0 : (drS P B k g).mi = 0 := rfl
  have hg1 : (g - 1) * k < drN P B := by
    rcases hg with rfl | hg
    · rw [Nat.zero_mul] at hd
      omega
    · exact hg
  have hg0 : 1 ≤ g := by
    rcases Nat.eq_zero_or_pos g with rfl | h
    · rw [Nat.zero_mul] at hd
      omega
    · exact h
  have hgs : g * k = (g - 1) * k + k := by rw [Nat.sub_mul, Nat.one_mul]; have := hk1 g; have := Nat.mul_le_mul_right k hg0; omega
  have hfr1 : (if blkV 1 (drO P B k g) = true then (((drO P B k g).length / 1 : Nat) : Int) else 0) = ((g * k : Nat) : Int) := by
    rw [if_pos (blkV_mk (z := g * k) (by decide) (by rw [hOl]; exact (Nat.mul_one _).symm) (by omega) hOa), Nat.div_one, hOl]
  have hwl : (outO (drX P B) (drN P B)).length = drN P B := by
    have : (outO (drX P B) (drN P B)).length = drN P B * 1 := outO_len _ _
    omega
  have hfr2 : (if blkV (fiC (drX P B) 65536) (fiO (drX P B) 65536) = true then (((fiO (drX P B) 65536).length / (fiC (drX P B) 65536).toNat : Nat) : Int) else 0) = ((drN P B : Nat) : Int) := by
    rw [hfc, hfo]
    exact frames_of (c := 1) (n := drN P B) (by decide) (by rw [hwl]; exact (Nat.mul_one _).symm) (by omega) (outO_all (x := drX P B) H.hp H.ha _ (by omega))
  rw [hs6, hm0, hfr1, hfr2, IntWalk.i64_in (((drN P B : Nat) : Int) + k) (by omega)]
  refine ⟨by rw [hfo, hwl]; omega, fun _ => by omega, fun _ => by omega, fun h => ?_, fun _ => ?_⟩
  · simp only [bne_self_eq_false, Bool.false_or, Bool.or_eq_true, decide_eq_true_eq] at h
    omega
  refine ELoop_keep (fun j => ⟨[(148, vI .i64 (j : Nat))], [], []⟩) (fun j => j ≤ g * k) (fun j => g * k - j) (· + 1) 0 (Nat.zero_le _) ?_ ?_
  · simp only [↓gPre, gPost, gCore, gDef, Nat.reduceShiftRight, Nat.reduceMod, if_true, if_false, ↓reduceIte, reduceCtorEq, Nat.reduceEqDiff, Nat.reduceLT, Nat.reduceLeDiff, implies_true, forall_const, eq_self, ne_eq, not_true_eq_false, not_false_eq_true, imp_self, Nat.reduceAdd, Nat.reduceMul, Int.reduceLE, Int.reduceLT, Int.reduceNeg, Int.reduceAdd, Int.reduceToNat, E_sane_eq, E_new_eq, E_base_eq, E_snew_eq, E_wave_eq, E_swrite_eq, E_sdo_eq, E_rrsnew_eq, E_rfeed_eq, E_rfinish_eq, E_stake_eq, E_join_eq, E_frames_eq, rg_eta, sm_eta, ph_eta, rs_eta, smD_eq, smC_eq, Try.ntmps4, Try.results4, gTT]
    rfl
  intro j hj
  simp only [↓gPre, gPost, gCore, gDef, Nat.reduceShiftRight, Nat.reduceMod, if_true, if_false, ↓reduceIte, reduceCtorEq, Nat.reduceEqDiff, Nat.reduceLT, Nat.reduceLeDiff, implies_true, forall_const, eq_self, ne_eq, not_true_eq_false, not_false_eq_true, imp_self, Nat.reduceAdd, Nat.reduceMul, Int.reduceLE, Int.reduceLT, Int.reduceNeg, Int.reduceAdd, Int.reduceToNat, E_sane_eq, E_new_eq, E_base_eq, E_snew_eq, E_wave_eq, E_swrite_eq, E_sdo_eq, E_rrsnew_eq, E_rfeed_eq, E_rfinish_eq, E_stake_eq, E_join_eq, E_frames_eq, rg_eta, sm_eta, ph_eta, rs_eta, smD_eq, smC_eq, Try.ntmps4, Try.results4, gTT]
  have hmin : min (g * k) (drN P B) = drN P B := by omega
  have hA : j < drN P B → (drO P B k g)[j]?.getD 0 = (outO (drX P B) (drN P B))[j]?.getD 0 := fun h => by
    unfold drO
    rw [hmin, List.getElem?_append_left (by omega)]
  have hB : ¬ j < drN P B → (drO P B k g)[j]?.getD 0 = 0 := fun h => by
    unfold drO
    rw [hmin, List.getElem?_append_right (by omega), List.getElem?_replicate]
    split <;> rfl
  refine fun h2 => ⟨⟨by omega, of_decide_eq_true h2⟩, fun h3 => ⟨by omega, by rw [hfo, hwl]; exact of_decide_eq_true h3⟩, fun a b => by rw [a, b]; rfl, fun h3 => ?_, fun _ => ⟨(wrapN _ (by omega)).symm, by have := of_decide_eq_true h2; omega, by have := of_decide_eq_true h2; omega⟩⟩
  by_cases hj2 : j < drN P B
  · have e : decide (((drN P B : Nat) : Int) ≤ (j : Int)) = false := decide_eq_false (by omega)
    rw [hfo, hA hj2, e] at h3
    simp at h3
  · have e : decide ((j : Int) < ((drN P B : Nat) : Int)) = false := decide_eq_false (by omega)
    rw [e, hB hj2] at h3
    simp at h3

end Go.Vam
