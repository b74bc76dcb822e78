/- The law StreamPieces gives true. Conditions: none. -/
import Derived.Test.YtdhhjfnmocimmaaStQ
set_option linter.unusedVariables false
set_option linter.defProp false
set_option linter.unusedSimpArgs false
set_option maxRecDepth 40000
set_option maxHeartbeats 4000000
namespace Go.Vam
open Go.Proofs

theorem ba_few (l : List UInt8) : baD l ≤ 800 * baN l := by
  have h1 := dN_lt l 10 (by decide)
  have h2 := dN_lt (dT l 10) 10 (by decide)
  have h3 := dN_ge l 10
  have h4 := dN_ge (dT l 10) 10
  have key : ∀ i, i < 10 → ∀ j, j < 10 → mqD (baT i) (baT j) ≤ 800 * mqN (baT i) (baT j) := by decide +kernel
  exact key _ (by omega) _ (by omega)
theorem mk_few2 {p : Ph} (h : phV p = true) (hr : p.d ≤ 800 * p.n) {W : Nat} (hW : W ≤ 60) : mkN p (W : Int) < 65536 := by
  obtain ⟨h1, h2, h3, _, h5, h6⟩ := phV_in h
  have hs := stp_in h
  have hp := prt_in h
  have hq : 60 < qAt p 65536 := by
    have e : 61 * prt p ≤ ahd p 65536 := by
      have e1 : 61440 * p.n ≤ stp p := by
        rw [hs.1, Int.mul_comm]
        exact Int.mul_le_mul_of_nonneg_left (by omega) (by omega)
      unfold ahd
      omega
    have := Int.le_ediv_of_mul_le (by omega) e
    unfold qAt
    omega
  have hn : ¬ ned p ((65536 : Nat) : Int) ≤ (W : Int) := by
    unfold ned
    rw [if_neg (by decide)]
    show ¬ max _ (qAt p 65536) ≤ _
    omega
  have h7 := mkN_le h (n := (W : Int)) (Int.natCast_nonneg _)
  have h8 := mkN_iff h (n := (W : Int)) (Int.natCast_nonneg _) (k := 65536) (Nat.le_refl _)
  have h9 : ¬ 65536 ≤ mkN p (W : Int) := fun h => hn (h8.1 h)
  omega

theorem ooL_all {p : Ph} (h : phV p = true) (c : Int) {s : List Int} (ha : s.all smpX = true) : ∀ N : Nat, N ≤ 65536 → (ooL p c s N).all smpX = true
  | 0, _ => rfl
  | N + 1, hN => by
    rw [ooL, List.all_append, ooL_all h c ha N (by omega), Bool.true_and, List.all_eq_true]
    intro x hx
    rw [List.mem_map] at hx
    obtain ⟨j, _, rfl⟩ := hx
    have hp := prt_in h
    have hq := qAt_in h (n := (N : Int)) (by omega)
    have := btw_in (a := s[qN p N * c.toNat + j]?.getD 0) (b := s[(qN p N + 1) * c.toNat + j]?.getD 0) (f := fAt p N) (P := prt p) (by omega) ⟨hq.2.1, hq.2.2.1⟩ (smp_get ha _) (smp_get ha _)
    simp only [smpX, Bool.and_eq_true, decide_eq_true_eq]
    exact this


def pcS (P : Ph) (ch : Int) (b : List Int) (st : Int) (T N : Nat) : Sm := ⟨1, st, 100, 0, stR P ch (b.take (T * ch.toNat)) N, rg0, (T : Int), (N : Int), 0⟩
structure pcH (P : Ph) (ch : Int) (b : List Int) (F : Nat) : Prop where
  hp : phV P = true
  h0 : P.p = 0
  h1 : P.a = 0
  hc : 1 ≤ ch ∧ ch ≤ 8
  hb : b.length = F * ch.toNat
  ha : b.all smpX = true
  hF : F ≤ 60
  hf : ∀ q : Nat, q ≤ F → mkN P (q : Int) < 65536
theorem pc_l {P : Ph} {ch : Int} {b : List Int} {F : Nat} (H : pcH P ch b F) {T : Nat} (hT : T ≤ F) : (b.take (T * ch.toNat)).length = T * ch.toNat ∧ (b.take (T * ch.toNat)).all smpX = true := by
  have := Nat.mul_le_mul_right ch.toNat hT
  refine ⟨by rw [List.length_take, H.hb]; omega, ?_⟩
  rw [List.all_eq_true]
  intro x hx
  exact List.all_eq_true.1 H.ha x (List.mem_of_mem_take hx)
theorem pc_V {P : Ph} {ch : Int} {b : List Int} {F : Nat} (H : pcH P ch b F) {st : Int} {T N : Nat} (hs : 1 ≤ st ∧ st ≤ 7) (hT : T ≤ F) (hN6 : N ≤ 65536) (hN : ned P N ≤ T) :
    okS (pcS P ch b st T N) 1 ch 1 ∧ waN (pcS P ch b st T N).r = ((T - qN P N : Nat) : Int) ∧ qN P N ≤ T := by
  obtain ⟨l1, l2⟩ := pc_l H hT
  have hF := H.hF
  obtain ⟨v1, v2, v3, v4⟩ := stR_V H.hp H.hc l1 l2 (by omega) hN6 hN (by rw [H.h0]; omega)
  have hle := Nat.mul_le_mul (show T - qN P N ≤ 60 by omega) (show ch.toNat ≤ 8 by have := H.hc; omega)
  have hlen : (stR P ch (b.take (T * ch.toNat)) N).l.length ≤ 480 := by rw [v2]; exact hle
  have hw : waN (pcS P ch b st T N).r = ((T - qN P N : Nat) : Int) := by
    rw [(waN_V (x := (pcS P ch b st T N).r) v1 (by show (stR P ch (b.take (T * ch.toNat)) N).l.length ≤ _; omega)).1]
    show (((stR P ch (b.take (T * ch.toNat)) N).l.length / ch.toNat : Nat) : Int) = _
    rw [v3]
  have hB : smB (pcS P ch b st T N) = true := smB_mk hs ⟨by show (1 : Int) ≤ 100; decide, by show (100 : Int) ≤ 65536; decide⟩ ⟨by show (0 : Int) ≤ 0; decide, by show (0 : Int) ≤ 100; decide⟩ v1 H.h1 (by show (0 : Int) ≤ (T : Int); omega) (by show (0 : Int) ≤ (N : Int); omega) (by show (0 : Int) ≤ 0; decide)
  refine ⟨⟨smV_1 hB rfl (by rw [hw]; show _ ≤ (100 : Int); omega) rfl, rfl, rfl, by show (stR P ch (b.take (T * ch.toNat)) N).l.length ≤ _; omega, Nat.zero_le _, by show (T : Int) ≤ _; omega, by show (N : Int) ≤ _; omega, by show (0 : Int) ≤ 70000 * ((1 : Nat) : Int); decide, ?_⟩, hw, v4⟩
  show P.p + ((qN P N : Nat) : Int) ≤ _
  rw [H.h0]
  omega
theorem pc_zero {P : Ph} {ch : Int} {b : List Int} {F : Nat} (H : pcH P ch b F) (st : Int) : pcS P ch b st 0 0 = ⟨1, st, 100, 0, ⟨ch, P, []⟩, rg0, 0, 0, 0⟩ := by
  unfold pcS
  rw [stR_zero H.hp, Nat.zero_mul, List.take_zero]
  rfl
theorem pc_write {P : Ph} {ch : Int} {b : List Int} {F : Nat} (H : pcH P ch b F) {st : Int} {T m : Nat} (hs : 1 ≤ st ∧ st ≤ 4) (hT : T ≤ m) (hm : m ≤ F) :
    swE (pcS P ch b st T 0) ch (cutK ch b T m) = 0 ∧ swR (pcS P ch b st T 0) ch (cutK ch b T m) = pcS P ch b (if st = 1 ∧ T < m then 2 else st) m 0 := by
  obtain ⟨l1, l2⟩ := pc_l H (T := T) (by omega)
  have hF := H.hF
  have hc := H.hc
  have hN0 : ned P ((0 : Nat) : Int) ≤ T := by rw [ned_zero]; omega
  obtain ⟨ok, hw, hq⟩ := pc_V H (st := st) (T := T) (N := 0) ⟨by omega, by omega⟩ (by omega) (by decide) hN0
  have hq0 : qN P 0 = 0 := (adv_zero H.hp).2
  have hmB : m * ch.toNat ≤ b.length := by rw [H.hb]; exact Nat.mul_le_mul_right _ hm
  have hcl := cutK_len (f := T) hmB
  have hca : (cutK ch b T m).all smpX = true := by
    rw [List.all_eq_true]
    intro x hx
    exact List.all_eq_true.1 H.ha x (List.mem_of_mem_drop (List.mem_of_mem_take hx))
  have hcb : blkV ch (cutK ch b T m) = true := blkV_mk hc hcl (by omega) hca
  have hN := swN_of hc hcl
  have hle := Nat.mul_le_mul (show m - T ≤ 60 by omega) (show ch.toNat ≤ 8 by omega)
  have hO : smO (pcS P ch b st T 0) = 100 - (T : Int) := by
    unfold smO
    rw [if_neg (by rw [ok.v]; decide), ok.N, hw, hq0]
    rfl
  have hE := swE_all ok (by show st ≤ 4; omega) hcb
  rw [if_neg (by rw [hO, hN]; omega)] at hE
  obtain ⟨f1, f2, f3, f4⟩ := sw_fl ok (by decide) (by omega) hE
  have hfe := (fe_step H.hp (N := 0) hc l1 l2 hcl hca (by omega) (by decide) hN0 (by rw [H.h0]; omega)).2
  refine ⟨hE, ?_⟩
  rw [f1, hN]
  have e : b.take (T * ch.toNat) ++ cutK ch b T m = b.take (m * ch.toNat) := by
    unfold cutK
    have e : m * ch.toNat = T * ch.toNat + (m - T) * ch.toNat := by rw [← Nat.add_mul]; congr 1; omega
    rw [e, ← List.take_add]
  rw [e] at hfe
  have hfe2 : feR (pcS P ch b st T 0).r ch (cutK ch b T m) = stR P ch (b.take (m * ch.toNat)) 0 := hfe
  rw [hfe2]
  unfold pcS
  simp only
  congr 1
  · by_cases h : st = 1 ∧ T < m
    · rw [if_pos h, if_pos ⟨h.1, by omega⟩]
    · rw [if_neg h, if_neg (fun h2 => h ⟨h2.1, by omega⟩)]
  · omega
theorem pc_start {P : Ph} {ch : Int} {b : List Int} {F : Nat} (H : pcH P ch b F) : doE (pcS P ch b 2 F 0) 1 = 0 ∧ doR (pcS P ch b 2 F 0) 1 = pcS P ch b 3 F 0 := by
  obtain ⟨ok, hw, hq⟩ := pc_V H (st := 2) (T := F) (N := 0) (by decide) (Nat.le_refl _) (by decide) (by rw [ned_zero]; omega)
  have ha : doA (pcS P ch b 2 F 0) 1 = true := by simp [doA, pcS]
  have e := do0 ok.v (by decide : (1 : Int) ≤ 1 ∧ (1 : Int) ≤ 7) ha (fun h => by
    have h4 := h.2.2.2
    rw [ok.N, hw] at h4
    have h5 : ((F - qN P 0 : Nat) : Int) < 0 := h4
    omega)
  refine ⟨e, ?_⟩
  unfold doR
  rw [if_pos e]
  simp [doT, setS, pcS]
theorem pc_take {P : Ph} {ch : Int} {b : List Int} {F : Nat} (H : pcH P ch b F) {N i : Nat} (hN : ned P N ≤ F) (hi : N + i ≤ 60000) :
    skE (pcS P ch b 3 F N) i = 0 ∧ (skX (pcS P ch b 3 F N) i = 0 ↔ ned P ((N + i : Nat) : Int) ≤ F) ∧ (ned P ((N + i : Nat) : Int) ≤ F → skR (pcS P ch b 3 F N) i = pcS P ch b 3 F (N + i) ∧ skC (pcS P ch b 3 F N) i = ch ∧ ooL P ch b N ++ skO (pcS P ch b 3 F N) i = ooL P ch b (N + i)) := by
  have hF := H.hF
  have hc := H.hc
  obtain ⟨ok, hw, hq⟩ := pc_V H (st := 3) (T := F) (N := N) (by decide) (Nat.le_refl _) (by omega) hN
  have he := sk_go ok (by decide) (i := (i : Int)) (by omega)
  have hbt : b.take (F * ch.toNat) = b := by rw [← H.hb, List.take_length]
  obtain ⟨m1, m2, m3⟩ := mk_add H.hp (W := F) (adv_V H.hp (N := N) (by omega) (by rw [H.h0]; omega)) hN (by omega) (H.hf F (Nat.le_refl _))
  have hK : skK (pcS P ch b 3 F N) i = min ((mkN P (F : Int) - N : Nat) : Int) i := by
    show min ((mkN (adv P N) (waN (pcS P ch b 3 F N).r) : Nat) : Int) (i : Int) = _
    rw [hw, m3]
  have hX : skX (pcS P ch b 3 F N) i = (i : Int) - skK (pcS P ch b 3 F N) i := if_pos ⟨he, rfl⟩
  have hiff := mkN_iff H.hp (n := (F : Int)) (by omega) (k := N + i) (by omega)
  refine ⟨he, ?_, fun h => ?_⟩
  · rw [hX, hK, ← hiff]
    omega
  · have h2 := hiff.2 h
    have hKi : skK (pcS P ch b 3 F N) i = (i : Int) := by rw [hK]; omega
    obtain ⟨f1, f2, f3⟩ := sk_fl ok (by decide) rfl (i := (i : Int)) (by omega)
    obtain ⟨t1, t2, t3, t4⟩ := tk_step H.hp (N := N) (n := i) hc H.hb H.ha (by omega) (by omega) h (by rw [H.h0]; omega)
    have hpo : poR (pcS P ch b 3 F N).r i = stR P ch b (N + i) := by
      rw [← t3]
      show poR (stR P ch (b.take (F * ch.toNat)) N) i = _
      rw [hbt]
      exact (if_pos t1).symm
    have hX0 : skX (pcS P ch b 3 F N) i = 0 := by rw [hX, hKi]; omega
    refine ⟨?_, if_pos he, ?_⟩
    · rw [f1, hKi, hpo, hX0]
      unfold pcS
      rw [hbt]
      simp
    · rw [← t4]
      congr 1
      have hM : skM (pcS P ch b 3 F N) i = (i : Int) := (show skM (pcS P ch b 3 F N) i = skK (pcS P ch b 3 F N) i from if_pos rfl).trans hKi
      have e : skO (pcS P ch b 3 F N) i = outO (pcS P ch b 3 F N).r (skM (pcS P ch b 3 F N) i).toNat ++ List.replicate (((i : Int).toNat - (skM (pcS P ch b 3 F N) i).toNat) * (pcS P ch b 3 F N).r.c.toNat) 0 := if_pos he
      rw [e, hM, Nat.sub_self, Nat.zero_mul, List.replicate_zero, List.append_nil]
      show outO (stR P ch (b.take (F * ch.toNat)) N) _ = _
      rw [hbt]
      exact (if_pos t1).symm
theorem cut_all {ch : Int} {b : List Int} {F : Nat} (hb : b.length = F * ch.toNat) : cutK ch b 0 F = b := by
  unfold cutK
  rw [Nat.zero_mul, List.drop_zero, Nat.sub_zero, ← hb, List.take_length]


theorem spec_pieces20 (u p t : List UInt8) : Spec Try.prog 0 3 [vL (LB u), vL (LB p), vL (LB t)] [] [] (vB true) [] [] := by
  refine spec_of_E (X := ⟨Try.prog, tt, Try.f3.ntmps, 1, fun _ => 0, (tab [(7, E_sane), (8, E_new), (10, E_next), (9, E_base), (11, E_snew), (12, E_wave), (13, E_swrite), (14, E_mcut), (15, E_sdo), (16, E_rssame20), (17, E_stake), (18, E_join), (19, E_frames), (20, E_same)])⟩) (M := [(23, [0, 0, 0, 0, 0, 13611611366381244983925066698012110061511, 0, 0, 0, 0, 0, 0]), (29, [0, 0, 0, 0, 0, 14888996914746939077675151865587859161031, 0, 0, 0, 0, 0, 14887667686751154161802248058527578816455, 0, 0, 0, 0]), (36, [0, 0, 0, 0, 0, 335221687874224226731132579879026342334791623, 0, 0, 0, 0, 0, 312224044388239521616423870410357719531749319, 0, 0, 0]), (37, [0, 0, 0, 0, 0, 23372608229364407823008125959519525634062306738119, 0, 0, 0, 0, 0, 22653275392240604042954749830916980085325402439623, 0, 0, 0, 0, 0])]) (m := 13611608810797634923814593280658448023495) rfl rfl ⟨tt_ok, tab_ok (tabs_cons E_sane_ok (tabs_cons E_new_ok (tabs_cons E_next_ok (tabs_cons E_base_ok (tabs_cons E_snew_ok (tabs_cons E_wave_ok (tabs_cons E_swrite_ok (tabs_cons E_mcut_ok (tabs_cons E_sdo_ok (tabs_cons E_rssame20_ok (tabs_cons E_stake_ok (tabs_cons E_join_ok (tabs_cons E_frames_ok (tabs_cons E_same_ok tabs_nil)))))))))))))) _ rfl rfl⟩ tt_mixed Try.func3 rfl (by decide) (by show (3 : Nat) ≤ _; exact Nat.le_of_ble_eq_true rfl) ⟨fun m hm => (V.bare_has rfl m hm).elim, by simp, by simp⟩ ?_
  simp only [↓gPre, gPost, gCore, gDef, Nat.reduceShiftRight, Nat.reduceMod, if_true, if_false, ↓reduceIte, reduceCtorEq, Nat.reduceEqDiff, Nat.reduceLT, Nat.reduceLeDiff, implies_true, forall_const, eq_self, ne_eq, not_true_eq_false, not_false_eq_true, imp_self, Nat.reduceAdd, Nat.reduceMul, Int.reduceLE, Int.reduceLT, Int.reduceNeg, Int.reduceAdd, Int.reduceToNat, E_sane_eq, E_new_eq, E_next_eq, E_base_eq, E_snew_eq, E_wave_eq, E_swrite_eq, E_mcut_eq, E_sdo_eq, E_rssame20_eq, E_stake_eq, E_join_eq, E_frames_eq, E_same_eq, rg_eta, sm_eta, ph_eta, rs_eta, smD_eq, smC_eq, Try.ntmps3, Try.results3, gTT]
  refine fun h0 => ?_
  have c1 := dN_lt (baR (u.take 300)) 2 (by decide)
  have c2 := dN_ge (baR (u.take 300)) 2
  have d1 := dN_lt (dT (baR (u.take 300)) 2) 60 (by decide)
  have d2 := dN_ge (dT (baR (u.take 300)) 2) 60
  have hph := ba_ok (u.take 300)
  have hfew := ba_few (u.take 300)
  rw [IntWalk.i64_in (1 + dN (baR (u.take 300)) 2) (by omega), IntWalk.i64_in (1 + dN (dT (baR (u.take 300)) 2) 60) (by omega)]
  have hch : 1 ≤ 1 + dN (baR (u.take 300)) 2 ∧ 1 + dN (baR (u.take 300)) 2 ≤ 2 := by omega
  generalize 1 + dN (baR (u.take 300)) 2 = ch at *
  generalize hF0 : (1 + dN (dT (baR (u.take 300)) 2) 60).toNat = F at *
  have hF : 1 ≤ F ∧ F ≤ 60 := by omega
  obtain ⟨n1, n2⟩ := new_ok (di := 1) (s0 := 0) (q := 100) hph (ch := ch) (by omega) (by decide) (by decide) (.inl rfl)
  generalize hP : (⟨baN (u.take 300), baD (u.take 300), 0, 0, 0⟩ : Ph) = P at *
  have hPn : baN (u.take 300) = P.n := by rw [← hP]
  have hPd : baD (u.take 300) = P.d := by rw [← hP]
  have hfew2 : P.d ≤ 800 * P.n := by rw [← hPn, ← hPd]; exact hfew
  have H : pcH P ch (waO 5 ch 0 F) F := ⟨hph, by rw [← hP], by rw [← hP], by omega, waO_len _ _ _ _, waO_all _ _ _ _, hF.2, fun q hq => mk_few2 hph hfew2 (by omega)⟩
  have hz : nwS 1 ch (baN (u.take 300)) (baD (u.take 300)) 100 0 1 = pcS P ch (waO 5 ch 0 F) 1 0 0 := by rw [pc_zero H, ← hP]; rfl
  rw [n1, n2, hz]
  generalize waO 5 ch 0 F = B at *
  obtain ⟨w1, w2⟩ := pc_write H (st := 1) (T := 0) (m := F) (by decide) (Nat.zero_le _) (Nat.le_refl _)
  rw [cut_all H.hb, if_pos ⟨rfl, by omega⟩] at w2
  rw [cut_all H.hb] at w1
  rw [w1, w2]
  have hBd : B.length / ch.toNat = F := by rw [H.hb, Nat.mul_div_cancel _ (by omega)]
  have hBle : B.length ≤ 200 := by
    have := Nat.mul_le_mul H.hF (show ch.toNat ≤ 2 by omega)
    have := H.hb
    omega
  have hBb : blkV ch B = true := blkV_mk (by omega) H.hb (by omega) H.ha
  have hlens : p.length ≤ 8 ∧ t.length ≤ 8 := by
    simp only [Bool.or_eq_false_iff, decide_eq_false_iff_not] at h0
    omega
  have ok10 := (pc_V H (st := 1) (T := 0) (N := 0) (by decide) (Nat.zero_le _) (by decide) (by rw [ned_zero]; omega)).1
  rw [hBd]
  refine ⟨⟨⟨by omega, by omega⟩, by omega, by omega⟩, ⟨ok10.lr, ok10.lg, by omega⟩, fun h => absurd h (by decide), fun _ => ⟨⟨by omega, hBb, by omega⟩, ?_⟩⟩
  have hch2 := chain_parts ch B F p p.length
  have hpl : 1 ≤ (cqL ch B F p p.length ++ [(ch, cutK ch B (cqP F p p.length) F)]).length ∧ (cqL ch B F p p.length ++ [(ch, cutK ch B (cqP F p p.length) F)]).length ≤ 11 := by
    have := cqL_len ch B F p p.length
    rw [List.length_append, List.length_singleton]
    omega
  generalize cqL ch B F p p.length ++ [(ch, cutK ch B (cqP F p p.length) F)] = L at *
  refine ELoop_keep (fun g : Nat × Nat => ⟨[(76, vI .i64 (g.1 : Nat))], [(⟨1, 10⟩, [.d (.int .i64 (pcS P ch B (if g.2 = 0 then 1 else 2) g.2 0).di), .d (.int .i64 (pcS P ch B (if g.2 = 0 then 1 else 2) g.2 0).st), .d (.int .i64 (pcS P ch B (if g.2 = 0 then 1 else 2) g.2 0).q), .d (.int .i64 (pcS P ch B (if g.2 = 0 then 1 else 2) g.2 0).s0), .d (.int .i64 (pcS P ch B (if g.2 = 0 then 1 else 2) g.2 0).r.c), .d (.int .i64 (pcS P ch B (if g.2 = 0 then 1 else 2) g.2 0).r.p.n), .d (.int .i64 (pcS P ch B (if g.2 = 0 then 1 else 2) g.2 0).r.p.d), .d (.int .i64 (pcS P ch B (if g.2 = 0 then 1 else 2) g.2 0).r.p.a), .d (.int .i64 (pcS P ch B (if g.2 = 0 then 1 else 2) g.2 0).r.p.p), .d (.int .i64 (pcS P ch B (if g.2 = 0 then 1 else 2) g.2 0).r.p.f), .d (.list (LI .i32 (pcS P ch B (if g.2 = 0 then 1 else 2) g.2 0).r.l)), .d (.int .i64 (pcS P ch B (if g.2 = 0 then 1 else 2) g.2 0).g.c), .d (.int .i64 (pcS P ch B (if g.2 = 0 then 1 else 2) g.2 0).g.q), .d (.int .i64 (pcS P ch B (if g.2 = 0 then 1 else 2) g.2 0).g.w), .d (.int .i64 (pcS P ch B (if g.2 = 0 then 1 else 2) g.2 0).g.r), .d (.list (LI .i32 (pcS P ch B (if g.2 = 0 then 1 else 2) g.2 0).g.l)), .d (.int .i64 (pcS P ch B (if g.2 = 0 then 1 else 2) g.2 0).wr), .d (.int .i64 (pcS P ch B (if g.2 = 0 then 1 else 2) g.2 0).pl), .d (.int .i64 (pcS P ch B (if g.2 = 0 then 1 else 2) g.2 0).mi)])], []⟩) (fun g => g.1 ≤ L.length ∧ g.2 ≤ F ∧ chain ch B F g.2 (L.drop g.1)) (fun g => L.length - g.1) (fun g => (g.1 + 1, g.2 + (L[g.1]?.getD (0, [])).2.length / ch.toNat)) (0, 0) ⟨Nat.zero_le _, Nat.zero_le _, hch2⟩ ?_ ?_
  · simp only [↓gPre, gPost, gCore, gDef, Nat.reduceShiftRight, Nat.reduceMod, if_true, if_false, ↓reduceIte, reduceCtorEq, Nat.reduceEqDiff, Nat.reduceLT, Nat.reduceLeDiff, implies_true, forall_const, eq_self, ne_eq, not_true_eq_false, not_false_eq_true, imp_self, Nat.reduceAdd, Nat.reduceMul, Int.reduceLE, Int.reduceLT, Int.reduceNeg, Int.reduceAdd, Int.reduceToNat, E_sane_eq, E_new_eq, E_next_eq, E_base_eq, E_snew_eq, E_wave_eq, E_swrite_eq, E_mcut_eq, E_sdo_eq, E_rssame20_eq, E_stake_eq, E_join_eq, E_frames_eq, E_same_eq, rg_eta, sm_eta, ph_eta, rs_eta, smD_eq, smC_eq, Try.ntmps3, Try.results3, gTT]
    first | exact rfl | exact ⟨rfl, rfl, rfl, rfl, rfl, rfl, rfl, rfl, rfl, rfl, rfl, rfl, rfl, rfl, rfl, rfl, rfl, rfl, rfl, rfl⟩
  rintro ⟨i, q⟩ ⟨hi, hq, hc⟩
  simp only [↓gPre, gPost, gCore, gDef, Nat.reduceShiftRight, Nat.reduceMod, if_true, if_false, ↓reduceIte, reduceCtorEq, Nat.reduceEqDiff, Nat.reduceLT, Nat.reduceLeDiff, implies_true, forall_const, eq_self, ne_eq, not_true_eq_false, not_false_eq_true, imp_self, Nat.reduceAdd, Nat.reduceMul, Int.reduceLE, Int.reduceLT, Int.reduceNeg, Int.reduceAdd, Int.reduceToNat, E_sane_eq, E_new_eq, E_next_eq, E_base_eq, E_snew_eq, E_wave_eq, E_swrite_eq, E_mcut_eq, E_sdo_eq, E_rssame20_eq, E_stake_eq, E_join_eq, E_frames_eq, E_same_eq, rg_eta, sm_eta, ph_eta, rs_eta, smD_eq, smC_eq, Try.ntmps3, Try.results3, gTT]
  replace hi : i ≤ L.length := hi
  replace hq : q ≤ F := hq
  replace hc : chain ch B F q (L.drop i) := hc
  have hsq : 1 ≤ (if q = 0 then (1 : Int) else 2) ∧ (if q = 0 then (1 : Int) else 2) ≤ 2 := by split <;> omega
  have okq := (pc_V H (st := if q = 0 then 1 else 2) (T := q) (N := 0) ⟨by omega, by omega⟩ hq (by decide) (by rw [ned_zero]; omega)).1
  refine ⟨fun h1 => ?_, fun h1 => ?_⟩
  · have hlt : i < L.length := by have := of_decide_eq_true h1; omega
    rw [List.drop_eq_getElem_cons hlt] at hc
    obtain ⟨m, m1, m2, m3, m4⟩ := hc
    have hgx : L[i]?.getD (0, []) = (ch, cutK ch B q m) := by rw [List.getElem?_eq_getElem hlt]; exact m3
    have hmB : m * ch.toNat ≤ B.length := by rw [H.hb]; exact Nat.mul_le_mul_right _ m2
    have hcl := cutK_len (f := q) hmB
    have hdl : (cutK ch B q m).length / ch.toNat = m - q := by rw [hcl]; exact Nat.mul_div_cancel _ (by omega)
    have hqm : q + (m - q) = m := by omega
    obtain ⟨v1, v2⟩ := pc_write H (st := if q = 0 then 1 else 2) (T := q) (m := m) ⟨by omega, by omega⟩ m1 m2
    have hst : (if (if q = 0 then (1 : Int) else 2) = 1 ∧ q < m then (2 : Int) else (if q = 0 then 1 else 2)) = if m = 0 then 1 else 2 := by
      by_cases hq0 : q = 0
      · rw [if_pos hq0]
        by_cases hm0 : m = 0
        · rw [if_neg (by omega), if_pos hm0]
        · rw [if_pos ⟨rfl, by omega⟩, if_neg hm0]
      · rw [if_neg hq0, if_neg (fun h => absurd h.1 (by decide)), if_neg (by omega)]
    rw [hst] at v2
    have hcle : (cutK ch B q m).length ≤ B.length := by unfold cutK; rw [List.length_take, List.length_drop]; omega
    rw [hgx]
    simp only [hdl, hqm]
    rw [v1, v2]
    exact ⟨⟨by omega, by omega⟩, ⟨okq.lr, okq.lg, by omega⟩, fun h => absurd h (by decide), fun _ => ⟨⟨(wrapN _ (by omega)).symm, rfl, rfl, rfl, rfl, rfl, rfl, rfl, rfl, rfl, rfl, rfl, rfl, rfl, rfl, rfl, rfl, rfl, rfl, rfl⟩, ⟨by omega, m2, m4⟩, by omega⟩⟩
  · have hil : i = L.length := by have := of_decide_eq_false h1; omega
    rw [hil, List.drop_length] at hc
    have hqF : q = F := hc
    subst hqF
    have hif : (if q = 0 then (1 : Int) else 2) = 2 := if_neg (by omega)
    obtain ⟨s1, s2⟩ := pc_start H
    rw [hif, s1, s2]
    have ok2 := (pc_V H (st := 2) (T := q) (N := 0) (by decide) (Nat.le_refl _) (by decide) (by rw [ned_zero]; omega)).1
    have ok3 := (pc_V H (st := 3) (T := q) (N := 0) (by decide) (Nat.le_refl _) (by decide) (by rw [ned_zero]; omega)).1
    refine ⟨⟨ok2.lr, ok2.lg⟩, ⟨ok2.lr, ok2.lg⟩, fun _ => ⟨by have := ok3.lr; omega, by have := ok3.lg; omega⟩, fun h => ?_, fun _ => ?_⟩
    · simp at h
    refine ELoop_keep (fun g : Nat × Nat => ⟨[(116, vI .i64 (g.1 : Nat))], [(⟨1, 10⟩, [.d (.int .i64 (pcS P ch B 3 q g.2).di), .d (.int .i64 (pcS P ch B 3 q g.2).st), .d (.int .i64 (pcS P ch B 3 q g.2).q), .d (.int .i64 (pcS P ch B 3 q g.2).s0), .d (.int .i64 (pcS P ch B 3 q g.2).r.c), .d (.int .i64 (pcS P ch B 3 q g.2).r.p.n), .d (.int .i64 (pcS P ch B 3 q g.2).r.p.d), .d (.int .i64 (pcS P ch B 3 q g.2).r.p.a), .d (.int .i64 (pcS P ch B 3 q g.2).r.p.p), .d (.int .i64 (pcS P ch B 3 q g.2).r.p.f), .d (.list (LI .i32 (pcS P ch B 3 q g.2).r.l)), .d (.int .i64 (pcS P ch B 3 q g.2).g.c), .d (.int .i64 (pcS P ch B 3 q g.2).g.q), .d (.int .i64 (pcS P ch B 3 q g.2).g.w), .d (.int .i64 (pcS P ch B 3 q g.2).g.r), .d (.list (LI .i32 (pcS P ch B 3 q g.2).g.l)), .d (.int .i64 (pcS P ch B 3 q g.2).wr), .d (.int .i64 (pcS P ch B 3 q g.2).pl), .d (.int .i64 (pcS P ch B 3 q g.2).mi)]), (⟨1, 21⟩, [.d (.int .i64 ch), .d (.list (LI .i32 (ooL P ch B g.2)))])], []⟩) (fun g => g.1 ≤ t.length ∧ g.2 ≤ 9 * g.1 ∧ ned P g.2 ≤ (q : Int)) (fun g => t.length - g.1) (fun g => (g.1 + 1, g.2 + (t[g.1]?.getD 0).toNat % 10)) (0, 0) ⟨Nat.zero_le _, Nat.zero_le _, by rw [ned_zero]; omega⟩ ?_ ?_
    · simp only [↓gPre, gPost, gCore, gDef, Nat.reduceShiftRight, Nat.reduceMod, if_true, if_false, ↓reduceIte, reduceCtorEq, Nat.reduceEqDiff, Nat.reduceLT, Nat.reduceLeDiff, implies_true, forall_const, eq_self, ne_eq, not_true_eq_false, not_false_eq_true, imp_self, Nat.reduceAdd, Nat.reduceMul, Int.reduceLE, Int.reduceLT, Int.reduceNeg, Int.reduceAdd, Int.reduceToNat, E_sane_eq, E_new_eq, E_next_eq, E_base_eq, E_snew_eq, E_wave_eq, E_swrite_eq, E_mcut_eq, E_sdo_eq, E_rssame20_eq, E_stake_eq, E_join_eq, E_frames_eq, E_same_eq, rg_eta, sm_eta, ph_eta, rs_eta, smD_eq, smC_eq, Try.ntmps3, Try.results3, gTT]
      exact ⟨rfl, rfl⟩
    rintro ⟨j, N⟩ ⟨hj, hN9, hN⟩
    simp only [↓gPre, gPost, gCore, gDef, Nat.reduceShiftRight, Nat.reduceMod, if_true, if_false, ↓reduceIte, reduceCtorEq, Nat.reduceEqDiff, Nat.reduceLT, Nat.reduceLeDiff, implies_true, forall_const, eq_self, ne_eq, not_true_eq_false, not_false_eq_true, imp_self, Nat.reduceAdd, Nat.reduceMul, Int.reduceLE, Int.reduceLT, Int.reduceNeg, Int.reduceAdd, Int.reduceToNat, E_sane_eq, E_new_eq, E_next_eq, E_base_eq, E_snew_eq, E_wave_eq, E_swrite_eq, E_mcut_eq, E_sdo_eq, E_rssame20_eq, E_stake_eq, E_join_eq, E_frames_eq, E_same_eq, rg_eta, sm_eta, ph_eta, rs_eta, smD_eq, smC_eq, Try.ntmps3, Try.results3, gTT]
    replace hj : j ≤ t.length := hj
    replace hN9 : N ≤ 9 * j := hN9
    replace hN : ned P N ≤ (q : Int) := hN
    have hkm : IntKind.i64.wrap ((((t[j]?.getD 0).toNat : Nat) : Int).tmod 10) = (((t[j]?.getD 0).toNat % 10 : Nat) : Int) := by
      rw [Int.tmod_eq_emod_of_nonneg (Int.natCast_nonneg _), IntWalk.i64_in _ (by omega)]
      omega
    rw [hkm]
    have hooA := ooL_all H.hp ch H.ha N (by omega)
    have hooL := ooL_len P ch B N
    have hoob := Nat.mul_le_mul (show N ≤ 80 by omega) (show ch.toNat ≤ 2 by omega)
    have okN := (pc_V H (st := 3) (T := q) (N := N) (by decide) (Nat.le_refl _) (by omega) hN).1
    refine ⟨fun h1 => ?_, fun h1 => ?_⟩
    · have hk10 : (t[j]?.getD 0).toNat % 10 ≤ 9 := by omega
      generalize (t[j]?.getD 0).toNat % 10 = k at *
      obtain ⟨a1, a2, a3⟩ := pc_take H (N := N) (i := k) hN (by omega)
      have h1' := of_decide_eq_true h1
      rw [a1]
      refine ⟨⟨by omega, h1'⟩, by decide, ⟨okN.lr, okN.lg⟩, fun h => absurd h (by decide), fun _ h2 => ?_⟩
      have hX : skX (pcS P ch B 3 q N) k = 0 := by
        have := of_decide_eq_false h2
        have := (skX_in a1).1
        omega
      have hne := a2.1 hX
      obtain ⟨b1, b2, b3⟩ := a3 hne
      refine ⟨by kernel_rfl, ?_, ?_, ?_, by omega⟩
      · rw [← List.length_append, b3, ooL_len]
        have := Nat.mul_le_mul (show N + k ≤ 100 by omega) (show ch.toNat ≤ 2 by omega)
        omega
      · rw [b1, b3]
        exact ⟨(wrapN _ (by omega)).symm, ⟨rfl, rfl, rfl, rfl, rfl, rfl, rfl, rfl, rfl, rfl, rfl, rfl, rfl, rfl, rfl, rfl, rfl, rfl, rfl⟩, rfl⟩
      · exact ⟨by omega, by omega, hne⟩
    · have hfr := frames_of (c := ch) (l := ooL P ch B N) (n := N) (by omega) hooL (by omega) hooA
      obtain ⟨a1, a2, a3⟩ := pc_take H (N := 0) (i := N) (by rw [ned_zero]; omega) (by omega)
      rw [Nat.zero_add] at a2 a3
      obtain ⟨b1, b2, b3⟩ := a3 hN
      have hX := a2.2 hN
      have b3' : skO (pcS P ch B 3 q 0) N = ooL P ch B N := b3
      rw [hfr]
      refine ⟨by kernel_rfl, by omega, ⟨ok3.lr, ok3.lg⟩, fun _ => by rw [b3']; omega, fun _ => ⟨by have := okN.lr; omega, by have := okN.lg; omega⟩, ?_⟩
      rw [a1, hX, b1, b2, b3']
      simp

end Go.Vam
