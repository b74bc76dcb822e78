/- A part of the proof. Conditions: none. -/
import Derived.Test.YtmpbpijnbmpbhaaGreatDs
set_option linter.unusedVariables false
set_option linter.defProp false
set_option linter.unusedSimpArgs false
set_option maxRecDepth 40000
set_option maxHeartbeats 4000000
namespace Go.Vam
open Go.Proofs
theorem bkO_len (l : List UInt8) (n : Nat) : (bkO l n).length = n := by simp [bkO]
theorem bkO_all (l : List UInt8) (n : Nat) : (bkO l n).all smpX = true := by
  rw [List.all_eq_true]
  intro x hx
  simp only [bkO, List.mem_map] at hx
  obtain ⟨i, _, rfl⟩ := hx
  have := sV_in (bkR l i)
  simp only [smpX, Bool.and_eq_true, decide_eq_true_eq]
  exact this
def eqQ (l : List UInt8) (m : Nat) : Nat → List UInt8
  | 0 => l
  | k + 1 => bkR (eqQ l m k) m
def eqS (z : List Int) (l : List UInt8) (m : Nat) : Nat → List Int
  | 0 => z
  | k + 1 => eqS z l m k ++ bkO (eqQ l m k) m
theorem eqS_ok {z : List Int} (l : List UInt8) {ch : Int} {T n : Nat} (hz : z.length = T * ch.toNat) (hza : z.all smpX = true) : ∀ k : Nat, (eqS z l (n * ch.toNat) k).length = (T + k * n) * ch.toNat ∧ (eqS z l (n * ch.toNat) k).all smpX = true
  | 0 => by simpa [eqS] using ⟨hz, List.all_eq_true.1 hza⟩
  | k + 1 => by
    obtain ⟨h1, h2⟩ := eqS_ok l hz hza k (n := n)
    refine ⟨?_, ?_⟩
    · rw [eqS, List.length_append, h1, bkO_len, ← Nat.add_mul]
      congr 1
      rw [Nat.add_mul, Nat.one_mul, Nat.add_assoc]
    · rw [eqS, List.all_append, h2, bkO_all]
      rfl
theorem rec_take {Sg X : List Int} {a b : Nat} (h : a ≤ b) (ha : a ≤ Sg.length) : List.take b (Sg ++ X) = List.take a Sg ++ List.drop a (List.take b (Sg ++ X)) := by
  have e : List.take a Sg = List.take a (List.take b (Sg ++ X)) := by
    rw [List.take_take, Nat.min_eq_left h, List.take_append_of_le_length ha]
  rw [e, List.take_append_drop]
theorem spec_toprec (s : List UInt8) (w : Int) (hw : 0 ≤ w ∧ w ≤ 255) : Spec Tryz.prog 0 3 [vL (LB s), vI .u8 w] [] [] (vB true) [] [] := by
  refine sE (md := fun _ => 0) (L := [(6, E_aware), (7, E_new), (8, E_mmap), (9, E_opened), (10, E_snew), (11, E_sdo), (13, E_brfill), (12, E_rsilence), (14, E_mblock), (15, E_dvrec), (16, E_sgive), (17, E_sread), (18, E_join), (19, E_begins), (20, E_frames)]) [(10, [0, 0, 0, 0, 0, 340282366920938615615578491902775779315, 0, 0, 0, 0, 0, 0]), (16, [0, 0, 0, 0, 0, 340282367237058209299645134401395744755, 0, 0, 0, 0, 0, 340282367227967087136143123007605301235, 0, 0, 0, 0, 0, 340282367198237183380180162343231021043, 0, 0, 0]), (19, [0, 0, 0, 0, 0, 680481657092140520801573100256327884787, 0, 0, 0, 0, 0, 677906277850307246297821974077034717171, 0, 0, 0, 0, 0, 0]), (21, [0, 0, 0, 0, 0, 155509041682868877953879075969652131618803, 0, 0, 0, 0, 0, 0]), (22, [0, 0, 0, 0, 0, 45667745117148358622964727655462703562292715507, 0, 0, 0, 0, 0, 45428012106264154424193218684031733676103426035, 0, 0, 0, 0, 0, 22835963423577725017871190091446902947951140851, 0])] 340282366920938614580254980765827194867 (tabs_cons E_aware_ok (tabs_cons E_new_ok (tabs_cons E_mmap_ok (tabs_cons E_opened_ok (tabs_cons E_snew_ok (tabs_cons E_sdo_ok (tabs_cons E_brfill_ok (tabs_cons E_rsilence_ok (tabs_cons E_mblock_ok (tabs_cons E_dvrec_ok (tabs_cons E_sgive_ok (tabs_cons E_sread_ok (tabs_cons E_join_ok (tabs_cons E_begins_ok (tabs_cons E_frames_ok tabs_nil))))))))))))))) Tryz.func3 rfl rfl rfl ?_
  simp (maxSteps := 1000000) only [↓gPre, gPost, gCore, gDef, gSt, gS0, Nat.reduceShiftRight, Nat.reduceMod, ↓reduceIte, reduceCtorEq, Nat.reduceEqDiff, Nat.reduceLT, Nat.reduceLeDiff, Nat.reduceAdd, Nat.reduceMul, Int.reduceLE, Int.reduceLT, Int.reduceNeg, Int.reduceAdd, Int.reduceToNat, E_aware_eq, E_new_eq, E_mmap_eq, E_opened_eq, E_snew_eq, E_sdo_eq, E_brfill_eq, E_rsilence_eq, E_mblock_eq, E_dvrec_eq, E_sgive_eq, E_sread_eq, E_join_eq, E_begins_eq, E_frames_eq, gE1, gE2, gE3, Tryz.ntmps3, Tryz.results3, gTT]
  have hmV := mapV_V (s.take 300)
  have hlen := chV_len hmV
  generalize mapV (s.take 300) = m at *
  generalize dT (s.take 300) 7 = l7 at *
  have hc : 1 ≤ ((m.length : Nat) : Int) ∧ ((m.length : Nat) : Int) ≤ 8 := by omega
  obtain ⟨n1, n2⟩ := smNew_ok (di := 2) (ch := (m.length : Nat)) (n := 1) (d := 1) (q := 64) (s0 := 0) p1_V hc (by decide) (by decide) (.inr rfl)
  obtain ⟨n3, n4⟩ := start_ok (di := 2) (ch := (m.length : Nat)) (n := 1) (d := 1) (q := 64) p1_V hc (by decide) (.inr rfl)
  have okn := nw_S (di := 2) (ch := (m.length : Nat)) (n := 1) (d := 1) (q := 64) (s0 := 0) (st := 1) p1_V hc (by decide) (by decide) (by decide) (.inr rfl)
  have hZl := rep_len 13 m.length
  have hZa := rep_all (13 * m.length)
  have hZ8 : 13 * m.length ≤ 13 * 8 := Nat.mul_le_mul_left 13 hlen.2
  obtain ⟨o1, o2⟩ := eq_ok (q := 37) (ct := ctT) (ch := (m.length : Nat)) (s := List.replicate (13 * m.length) 0) (N := 0) (W := 13) hc ctT_V hZl hZa (by decide) (by decide) (by decide)
  have hbi : biN (eqB 37 ctT (m.length : Nat) (List.replicate (13 * m.length) 0) 0) = 13 := by unfold biN; rw [if_pos o1.v, o2]; rfl
  obtain ⟨s1, s2, s3⟩ := silO_eq hc (n := 13) (by decide)
  have s3' : silO (m.length : Nat) 13 = List.replicate (13 * m.length) 0 := by rw [s3, Int.toNat_natCast]; rfl
  rw [n1, n2, n3, n4, rc_zero, dv_new hmV, hbi, s1, s3']
  refine ⟨hmV, ⟨by have := okn.ll; omega, by have := okn.gl; omega⟩, fun h => absurd h (by decide), fun _ => ⟨by have := o1.len; omega, ?_⟩⟩
  generalize List.replicate (13 * m.length) (0 : Int) = Z at *
  refine ELoop_keep (fun g : Nat => ⟨[(15, vI .i64 (g : Nat))], [(⟨1, 7⟩, [.d (.int .u64 7), .d (.str dacS), .d (.int .i64 2), .d (.int .i64 0), .d (.int .i64 0), .d (.int .i64 0), .d (.int .i64 0), .d (.list (boxL m)), .d (.int .i64 2), .d (.int .i64 48000), .d (.list (LI .i64 m)), .d (.int .i64 48000), .d (.int .i64 48000), .d (.int .i64 16), .d (.list segL), .d (.bool true), .d (.int .i64 0), .d (.int .i64 (eqB 37 ctT (m.length : Nat) (eqS Z l7 (16 * m.length) g) (16 * g)).q), .d (.int .i64 (eqB 37 ctT (m.length : Nat) (eqS Z l7 (16 * m.length) g) (16 * g)).c.t), .d (.int .i64 (eqB 37 ctT (m.length : Nat) (eqS Z l7 (16 * m.length) g) (16 * g)).c.d), .d (.int .i64 (eqB 37 ctT (m.length : Nat) (eqS Z l7 (16 * m.length) g) (16 * g)).c.g), .d (.int .i64 (eqB 37 ctT (m.length : Nat) (eqS Z l7 (16 * m.length) g) (16 * g)).c.m), .d (.int .i64 (eqB 37 ctT (m.length : Nat) (eqS Z l7 (16 * m.length) g) (16 * g)).r.c), .d (.int .i64 (eqB 37 ctT (m.length : Nat) (eqS Z l7 (16 * m.length) g) (16 * g)).r.p.n), .d (.int .i64 (eqB 37 ctT (m.length : Nat) (eqS Z l7 (16 * m.length) g) (16 * g)).r.p.d), .d (.int .i64 (eqB 37 ctT (m.length : Nat) (eqS Z l7 (16 * m.length) g) (16 * g)).r.p.a), .d (.int .i64 (eqB 37 ctT (m.length : Nat) (eqS Z l7 (16 * m.length) g) (16 * g)).r.p.p), .d (.int .i64 (eqB 37 ctT (m.length : Nat) (eqS Z l7 (16 * m.length) g) (16 * g)).r.p.f), .d (.list (LI .i32 (eqB 37 ctT (m.length : Nat) (eqS Z l7 (16 * m.length) g) (16 * g)).r.l)), .d (.int .i64 (eqB 37 ctT (m.length : Nat) (eqS Z l7 (16 * m.length) g) (16 * g)).lo), .d (.int .i64 (eqB 37 ctT (m.length : Nat) (eqS Z l7 (16 * m.length) g) (16 * g)).mi)]), (⟨1, 9⟩, [.d (.int .i64 (rcS (m.length : Nat) ((eqS Z l7 (16 * m.length) g).take (16 * g * m.length)) (16 * g) (16 * g - 1)).di), .d (.int .i64 (rcS (m.length : Nat) ((eqS Z l7 (16 * m.length) g).take (16 * g * m.length)) (16 * g) (16 * g - 1)).st), .d (.int .i64 (rcS (m.length : Nat) ((eqS Z l7 (16 * m.length) g).take (16 * g * m.length)) (16 * g) (16 * g - 1)).q), .d (.int .i64 (rcS (m.length : Nat) ((eqS Z l7 (16 * m.length) g).take (16 * g * m.length)) (16 * g) (16 * g - 1)).s0), .d (.int .i64 (rcS (m.length : Nat) ((eqS Z l7 (16 * m.length) g).take (16 * g * m.length)) (16 * g) (16 * g - 1)).r.c), .d (.int .i64 (rcS (m.length : Nat) ((eqS Z l7 (16 * m.length) g).take (16 * g * m.length)) (16 * g) (16 * g - 1)).r.p.n), .d (.int .i64 (rcS (m.length : Nat) ((eqS Z l7 (16 * m.length) g).take (16 * g * m.length)) (16 * g) (16 * g - 1)).r.p.d), .d (.int .i64 (rcS (m.length : Nat) ((eqS Z l7 (16 * m.length) g).take (16 * g * m.length)) (16 * g) (16 * g - 1)).r.p.a), .d (.int .i64 (rcS (m.length : Nat) ((eqS Z l7 (16 * m.length) g).take (16 * g * m.length)) (16 * g) (16 * g - 1)).r.p.p), .d (.int .i64 (rcS (m.length : Nat) ((eqS Z l7 (16 * m.length) g).take (16 * g * m.length)) (16 * g) (16 * g - 1)).r.p.f), .d (.list (LI .i32 (rcS (m.length : Nat) ((eqS Z l7 (16 * m.length) g).take (16 * g * m.length)) (16 * g) (16 * g - 1)).r.l)), .d (.int .i64 (rcS (m.length : Nat) ((eqS Z l7 (16 * m.length) g).take (16 * g * m.length)) (16 * g) (16 * g - 1)).g.c), .d (.int .i64 (rcS (m.length : Nat) ((eqS Z l7 (16 * m.length) g).take (16 * g * m.length)) (16 * g) (16 * g - 1)).g.q), .d (.int .i64 (rcS (m.length : Nat) ((eqS Z l7 (16 * m.length) g).take (16 * g * m.length)) (16 * g) (16 * g - 1)).g.w), .d (.int .i64 (rcS (m.length : Nat) ((eqS Z l7 (16 * m.length) g).take (16 * g * m.length)) (16 * g) (16 * g - 1)).g.r), .d (.list (LI .i32 (rcS (m.length : Nat) ((eqS Z l7 (16 * m.length) g).take (16 * g * m.length)) (16 * g) (16 * g - 1)).g.l)), .d (.int .i64 (rcS (m.length : Nat) ((eqS Z l7 (16 * m.length) g).take (16 * g * m.length)) (16 * g) (16 * g - 1)).wr), .d (.int .i64 (rcS (m.length : Nat) ((eqS Z l7 (16 * m.length) g).take (16 * g * m.length)) (16 * g) (16 * g - 1)).pl), .d (.int .i64 (rcS (m.length : Nat) ((eqS Z l7 (16 * m.length) g).take (16 * g * m.length)) (16 * g) (16 * g - 1)).mi)]), (⟨1, 31⟩, [.d (.list (LB (eqQ l7 (16 * m.length) g)))]), (⟨1, 12⟩, [.d (.int .i64 (m.length : Nat)), .d (.list (LI .i32 (eqS Z l7 (16 * m.length) g)))]), (⟨1, 14⟩, [.d (.int .i64 (m.length : Nat)), .d (.list (LI .i32 ((eqS Z l7 (16 * m.length) g).take ((16 * g - 1) * m.length))))])], []⟩) (fun g => (g : Int) ≤ w.tmod 14) (fun g => 14 - g) (· + 1) 0 (by rw [Int.tmod_eq_emod_of_nonneg hw.1]; omega) ?_ ?_
  · simp (maxSteps := 1000000) only [↓gPre, gPost, gCore, gDef, gSt, gS0, Nat.reduceShiftRight, Nat.reduceMod, ↓reduceIte, reduceCtorEq, Nat.reduceEqDiff, Nat.reduceLT, Nat.reduceLeDiff, Nat.reduceAdd, Nat.reduceMul, Int.reduceLE, Int.reduceLT, Int.reduceNeg, Int.reduceAdd, Int.reduceToNat, E_aware_eq, E_new_eq, E_mmap_eq, E_opened_eq, E_snew_eq, E_sdo_eq, E_brfill_eq, E_rsilence_eq, E_mblock_eq, E_dvrec_eq, E_sgive_eq, E_sread_eq, E_join_eq, E_begins_eq, E_frames_eq, gE1, gE2, gE3, Tryz.ntmps3, Tryz.results3, gTT]
    rw [Nat.zero_mul, List.take_zero, Nat.zero_sub]
    exact ⟨rfl, ⟨rfl, rfl, rfl, rfl, rfl, rfl, rfl, rfl, rfl, rfl, rfl, rfl, rfl, rfl, rfl⟩, ⟨rfl, rfl, rfl, rfl, rfl, rfl, rfl, rfl, rfl, rfl, rfl, rfl, rfl, rfl, rfl, rfl, rfl, rfl, rfl⟩, rfl, rfl, rfl⟩
  intro g hg
  simp (maxSteps := 1000000) only [↓gPre, gPost, gCore, gDef, gSt, gS0, Nat.reduceShiftRight, Nat.reduceMod, ↓reduceIte, reduceCtorEq, Nat.reduceEqDiff, Nat.reduceLT, Nat.reduceLeDiff, Nat.reduceAdd, Nat.reduceMul, Int.reduceLE, Int.reduceLT, Int.reduceNeg, Int.reduceAdd, Int.reduceToNat, E_aware_eq, E_new_eq, E_mmap_eq, E_opened_eq, E_snew_eq, E_sdo_eq, E_brfill_eq, E_rsilence_eq, E_mblock_eq, E_dvrec_eq, E_sgive_eq, E_sread_eq, E_join_eq, E_begins_eq, E_frames_eq, gE1, gE2, gE3, Tryz.ntmps3, Tryz.results3, gTT]
  obtain ⟨Q, hQ⟩ : ∃ Q : Nat, w.tmod 14 = (Q : Int) := ⟨(w.tmod 14).toNat, by rw [Int.tmod_eq_emod_of_nonneg hw.1]; omega⟩
  have hQ14 : Q < 14 := by rw [Int.tmod_eq_emod_of_nonneg hw.1] at hQ; omega
  rw [hQ] at hg
  have ht : ((m.length : Nat) : Int).toNat = m.length := Int.toNat_natCast _
  have hmm : ((m.length : Nat) : Int) * 16 = ((16 * m.length : Nat) : Int) := by omega
  have i1 : IntKind.i64.wrap (16 * (g : Int)) = 16 * (g : Int) := IntWalk.i64_in _ (by omega)
  have i2 : IntKind.i64.wrap (16 * (g : Int) + 16) = 16 * (g : Int) + 16 := IntWalk.i64_in _ (by omega)
  have i3 : 16 * (g : Int) + 16 - 16 * (g : Int) = 16 := by omega
  rw [hQ, hmm, Int.toNat_natCast, i1, i2, i3, IntWalk.i64_in (Q : Int) (by omega)]
  have hg13 : g ≤ 13 := by omega
  obtain ⟨e1, e2⟩ := eqS_ok l7 hZl hZa g (n := 16)
  have hS : eqS Z l7 (16 * m.length) (g + 1) = eqS Z l7 (16 * m.length) g ++ bkO (eqQ l7 (16 * m.length) g) (16 * m.length) := rfl
  have hQ2 : eqQ l7 (16 * m.length) (g + 1) = bkR (eqQ l7 (16 * m.length) g) (16 * m.length) := rfl
  rw [hS, hQ2]
  have xl := bkO_len (eqQ l7 (16 * m.length) g) (16 * m.length)
  have xa := bkO_all (eqQ l7 (16 * m.length) g) (16 * m.length)
  rw [ht] at e1 e2
  generalize bkO (eqQ l7 (16 * m.length) g) (16 * m.length) = X at *
  generalize eqS Z l7 (16 * m.length) g = Sg at *
  rw [Nat.mul_comm g 16] at e1
  obtain ⟨d1, d2, d3, d4, d5, d6, d7, d8, d9, d10, d11, d12⟩ := dv_step (c := (m.length : Nat)) (s := Sg) (y := X) (k := g) hc (by rw [ht]; exact e1) e2 (by rw [ht]; exact xl) xa (by omega)
  rw [ht] at d7 d11
  have hXb : blkV (m.length : Nat) X = true := blkV_mk (z := 16) hc (by rw [ht]; exact xl) (by decide) xa
  have h8a := Nat.mul_le_mul (show 13 + 16 * g ≤ 221 by omega) hlen.2
  have h8b := Nat.mul_le_mul_left 16 hlen.2
  have hle1 : 16 * g * m.length ≤ (13 + 16 * g) * m.length := Nat.mul_le_mul_right _ (by omega)
  have hle2 : (16 * g + 16) * m.length ≤ (Sg ++ X).length := by rw [d11]; exact Nat.mul_le_mul_right _ (by omega)
  rw [Nat.add_mul] at hle2
  have hOl : (((Sg ++ X).drop (16 * g * m.length)).take (16 * m.length)).length = 16 * m.length := by rw [List.length_take, List.length_drop]; omega
  have hOa : (((Sg ++ X).drop (16 * g * m.length)).take (16 * m.length)).all smpX = true := all_take (all_drop d12 _) _
  have htl : (Sg.take (16 * g * m.length)).length = 16 * g * m.length := by rw [List.length_take, e1]; omega
  have H : rcH (m.length : Nat) (Sg.take (16 * g * m.length)) (16 * g) (16 * g - 1) := ⟨hc, by rw [ht]; exact htl, all_take e2 _, by omega, Nat.le_refl _, by omega⟩
  obtain ⟨hV, _, _, hl1, hl2⟩ := rc_V H
  obtain ⟨r1, r2, r3, r4⟩ := rc_give H (y := ((Sg ++ X).drop (16 * g * m.length)).take (16 * m.length)) (n := 16) (by rw [ht]; exact hOl) hOa (by decide) (by omega)
  obtain ⟨_, _, _, hl3, hl4⟩ := rc_V r4
  obtain ⟨q1, q2, q3, q4, q5⟩ := rc_read r4
  have hcat : Sg.take (16 * g * m.length) ++ ((Sg ++ X).drop (16 * g * m.length)).take (16 * m.length) = (Sg ++ X).take (16 * (g + 1) * m.length) := by
    have e : 16 * (g + 1) * m.length = 16 * g * m.length + 16 * m.length := by rw [← Nat.add_mul]; rfl
    rw [e, List.take_add, List.take_append_of_le_length (by rw [e1]; exact hle1)]
  rw [ht] at q3
  rw [hcat] at r3 r4 q1 q2 q3 q4 q5 hl3 hl4
  rw [d1, d2, d3, d4, d5, d6, d7, r1, r2, r3, q1, q3, q4]
  have h16 : 16 * g + 16 = 16 * (g + 1) := rfl
  rw [h16] at hl3 hl4 ⊢
  have h8c := Nat.mul_le_mul (show 13 + 16 * (g + 1) ≤ 237 by omega) hlen.2
  have h8d : (16 * g - 1) * m.length ≤ (13 + 16 * g) * m.length := Nat.mul_le_mul_right _ (by omega)
  have h8e : (16 * g - 1) * m.length ≤ (16 * (g + 1) - 1) * m.length := Nat.mul_le_mul_right _ (by omega)
  have h8f : (16 * (g + 1) - 1) * m.length ≤ 16 * (g + 1) * m.length := Nat.mul_le_mul_right _ (by omega)
  have hml : 0 < m.length := hlen.1
  refine ⟨by decide, fun h1 => ⟨⟨by omega, by omega⟩, ⟨⟨rfl, .inr rfl, rfl, rfl, rfl, rfl⟩, ⟨rfl, hmV, rfl, rfl, rfl, rfl, rfl, rfl⟩, d9, d10, ⟨rfl, rfl, rfl⟩, ⟨by omega, by omega, by omega, by decide⟩, ?_, ⟨rfl, hXb, by omega⟩, rfl, rfl, d8⟩, ⟨by omega, by omega, by omega⟩, ⟨by omega, by omega⟩, fun h => absurd h (by decide), fun _ => ⟨by kernel_rfl, by omega, ?_, ⟨(wrapN _ (by omega)).symm, ⟨rfl, rfl, rfl, rfl, rfl, rfl, rfl, rfl, rfl, rfl, rfl, rfl, rfl, rfl, rfl⟩, ⟨rfl, rfl, rfl, rfl, rfl, rfl, rfl, rfl, rfl, rfl, rfl, rfl, rfl, rfl, rfl, rfl, rfl, rfl, rfl⟩, rfl, rfl, ?_⟩, ?_, by omega⟩⟩, fun h1 => ?_⟩
  · rw [xl, Nat.mul_div_cancel _ hml]
    rfl
  · simp only [List.length_take, List.length_drop]
    omega
  · rw [List.take_take, Nat.min_eq_left h8f]
    exact rec_take h8e (by omega)
  · have := of_decide_eq_true h1
    omega
  have hgQ : g = Q := by have := of_decide_eq_false h1; omega
  have hol : (List.take ((16 * g - 1) * m.length) Sg).length = (16 * g - 1) * m.length := by rw [List.length_take]; omega
  have hob : blkV (m.length : Nat) (List.take ((16 * g - 1) * m.length) Sg) = true := blkV_mk (z := 16 * g - 1) hc (by rw [ht]; exact hol) (by omega) (all_take e2 _)
  have hSb : blkV (m.length : Nat) Sg = true := blkV_mk (z := 13 + 16 * g) hc (by rw [ht]; exact e1) (by omega) e2
  rw [if_pos hob, hol, Nat.mul_div_cancel _ hml]
  refine ⟨⟨hob, by omega, by omega, rfl, hSb⟩, by decide, fun _ => by omega, fun _ => by decide, ?_⟩
  rcases Nat.eq_zero_or_pos Q with h0 | h0
  · rw [h0]
    rfl
  · rw [IntWalk.i64_in (16 * (Q : Int)) (by omega), IntWalk.i64_in (16 * (Q : Int) - 1) (by omega)]
    have e : ((16 * g - 1 : Nat) : Int) = 16 * (Q : Int) - 1 := by omega
    rw [e]
    simp
end Go.Vam
