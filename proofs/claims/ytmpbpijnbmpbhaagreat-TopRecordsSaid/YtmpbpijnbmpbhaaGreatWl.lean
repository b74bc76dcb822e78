/- A part of the proof. Conditions: none. -/
import Derived.Test.YtmpbpijnbmpbhaaGreatWk
set_option linter.unusedVariables false
set_option linter.defProp false
set_option linter.unusedSimpArgs false
set_option maxRecDepth 40000
set_option maxHeartbeats 4000000
namespace Go.Vam
open Go.Proofs
def silB (c n : Int) : Bool := decide (c < 1) || decide (8 < c) || decide (n < 0) || decide (65536 < n)
def silC (c n : Int) : Int := if silB c n = true then 0 else c
def silO (c n : Int) : List Int := if silB c n = true then [] else List.replicate (c * n).toNat 0
def silE (c n : Int) : Int := if silB c n = true then 2 else 0
theorem spec_silence (c n : Int) : Spec Tryz.prog 0 58 [vI .i64 c, vI .i64 n] [] [] (.tup [.agg [.int .i64 (silC c n), .list (LI .i32 (silO c n))], .int .i64 (silE c n)]) [] [] := by
  refine sE (md := fun _ => 0) (L := []) [(1, [0, 0, 0, 0, 0, 1046579, 0, 0, 0, 0, 0, 983091, 0, 0])] 524339 tabs_nil Tryz.func58 rfl rfl rfl ?_
  simp (maxSteps := 1000000) only [↓gPre, gPost, gCore, gDef, gSt, gS0, Nat.reduceShiftRight, Nat.reduceMod, ↓reduceIte, reduceCtorEq, Nat.reduceEqDiff, Nat.reduceLT, Nat.reduceLeDiff, Nat.reduceAdd, Nat.reduceMul, Int.reduceLE, Int.reduceLT, Int.reduceNeg, Int.reduceAdd, Int.reduceToNat, gE1, Tryz.ntmps58, Tryz.results58, gTT]
  refine ⟨fun h => ?_, fun h => ?_⟩
  · have e : silB c n = true := h
    simp only [silC, silO, silE, e, if_true, LI_nil]
  · have e : silB c n = false := h
    have h2 := e
    simp only [silB, Bool.or_eq_false_iff, decide_eq_false_iff_not] at h2
    have h0 : 0 ≤ c * n := Int.mul_nonneg (by omega) (by omega)
    have h1 : c * n ≤ 8 * 65536 := Int.mul_le_mul (by omega) (by omega) (by omega) (by decide)
    rw [IntWalk.i64_in (c * n) (by omega)]
    refine ⟨⟨h0, by omega, by omega⟩, ?_⟩
    simp [silC, silO, silE, e]
def E_silence : List V → Boxes → Toks → Name → Option Ent
  | [.c (.d (.int .i64 c)), .c (.d (.int .i64 n))], [], [], _ => some ⟨True, .tup [.agg [.int .i64 (silC c n), .list (LI .i32 (silO c n))], .int .i64 (silE c n)], [], []⟩
  | _, _, _, _ => none
def E_silence_eq := And.intro (@E_silence.eq_1) (@E_silence.eq_1)
theorem E_silence_ok : Snd Tryz.prog 58 E_silence := by
  intro vs b k n e h hn hp
  unfold E_silence at h
  split at h
  · cases h; exact (spec_silence _ _).lift rfl _
  · cases h
theorem spec_rsilence (c n : Int) : Spec Tryz.prog 0 12 [vI .i64 c, vI .i64 n] [] [] (.tup [.agg [.int .i64 (silC c n), .list (LI .i32 (silO c n))], .int .i64 (silE c n)]) [] [] := by
  refine sE (md := fun _ => 0) (L := []) [(1, [0, 0, 0, 0, 0, 1046579, 0, 0, 0, 0, 0, 983091, 0, 0])] 524339 tabs_nil Tryz.func12 rfl rfl rfl ?_
  simp (maxSteps := 1000000) only [↓gPre, gPost, gCore, gDef, gSt, gS0, Nat.reduceShiftRight, Nat.reduceMod, ↓reduceIte, reduceCtorEq, Nat.reduceEqDiff, Nat.reduceLT, Nat.reduceLeDiff, Nat.reduceAdd, Nat.reduceMul, Int.reduceLE, Int.reduceLT, Int.reduceNeg, Int.reduceAdd, Int.reduceToNat, gE1, Tryz.ntmps12, Tryz.results12, gTT]
  refine ⟨fun h => ?_, fun h => ?_⟩
  · have e : silB c n = true := h
    simp only [silC, silO, silE, e, if_true, LI_nil]
  · have e : silB c n = false := h
    have h2 := e
    simp only [silB, Bool.or_eq_false_iff, decide_eq_false_iff_not] at h2
    have h0 : 0 ≤ c * n := Int.mul_nonneg (by omega) (by omega)
    have h1 : c * n ≤ 8 * 65536 := Int.mul_le_mul (by omega) (by omega) (by omega) (by decide)
    rw [IntWalk.i64_in (c * n) (by omega)]
    refine ⟨⟨h0, by omega, by omega⟩, ?_⟩
    simp [silC, silO, silE, e]
def E_rsilence : List V → Boxes → Toks → Name → Option Ent
  | [.c (.d (.int .i64 c)), .c (.d (.int .i64 n))], [], [], _ => some ⟨True, .tup [.agg [.int .i64 (silC c n), .list (LI .i32 (silO c n))], .int .i64 (silE c n)], [], []⟩
  | _, _, _, _ => none
def E_rsilence_eq := And.intro (@E_rsilence.eq_1) (@E_rsilence.eq_1)
theorem E_rsilence_ok : Snd Tryz.prog 12 E_rsilence := by
  intro vs b k n e h hn hp
  unfold E_rsilence at h
  split at h
  · cases h; exact (spec_rsilence _ _).lift rfl _
  · cases h
def gvE (x : Sm) (k : Int) (y : List Int) : Int := if (!smR x || !blkV k y) = true then 1 else if k ≠ x.r.c then 11 else if x.st ≠ 3 then 0 else if cvE x.r k y ≠ 0 then cvE x.r k y else rwE x.g (cvC x.r k y) (cvO x.r k y)
def gvL (x : Sm) (k : Int) (y : List Int) : Int := if gvE x k y = 0 ∧ x.st = 3 then rwL x.g (cvC x.r k y) (cvO x.r k y) else 0
def gvR (x : Sm) (k : Int) (y : List Int) : Sm := if gvE x k y = 0 then (if x.st = 3 then ⟨x.di, x.st, x.q, x.s0, cvR x.r k y, rwR x.g (cvC x.r k y) (cvO x.r k y), x.wr, IntKind.i64.wrap (x.pl + swN k y), IntKind.i64.wrap (x.mi + gvL x k y)⟩ else x) else sm0
theorem silO_eq {c n : Int} (hc : 1 ≤ c ∧ c ≤ 8) (hn : 0 ≤ n ∧ n ≤ 65536) : silC c n = c ∧ silE c n = 0 ∧ silO c n = List.replicate (n.toNat * c.toNat) 0 := by
  have hb : silB c n = false := by
    simp only [silB, Bool.or_eq_false_iff, decide_eq_false_iff_not]
    omega
  have hm : (c * n).toNat = n.toNat * c.toNat := by rw [Int.mul_comm, Int.toNat_mul (by omega) (by omega)]
  unfold silC silE silO
  rw [if_neg (by rw [hb]; decide), if_neg (by rw [hb]; decide), if_neg (by rw [hb]; decide), hm]
  exact ⟨rfl, rfl, rfl⟩
theorem spec_produceO (c n d a p f : Int) (l : List Int) (i : Int) (hl : l.length ≤ 1000000) (hv : rsV ⟨c, ⟨n, d, a, p, f⟩, l⟩ = true) (hi : 0 ≤ i ∧ i ≤ 65536) (hne : 0 < i → 0 < l.length) (he0 : poE ⟨c, ⟨n, d, a, p, f⟩, l⟩ i = 0) : Spec Tryz.prog 0 164 [.agg [.d (.int .i64 c), .d (.int .i64 n), .d (.int .i64 d), .d (.int .i64 a), .d (.int .i64 p), .d (.int .i64 f), .d (.list (LI .i32 l))], vI .i64 i] [] [] (.ts [some 2, some 7, none] [.d (.int .i64 (poC ⟨c, ⟨n, d, a, p, f⟩, l⟩ i)), .own ⟨0, 9⟩ (LI .i32 (poO ⟨c, ⟨n, d, a, p, f⟩, l⟩ i)), .d (.int .i64 (poR ⟨c, ⟨n, d, a, p, f⟩, l⟩ i).c), .d (.int .i64 (poR ⟨c, ⟨n, d, a, p, f⟩, l⟩ i).p.n), .d (.int .i64 (poR ⟨c, ⟨n, d, a, p, f⟩, l⟩ i).p.d), .d (.int .i64 (poR ⟨c, ⟨n, d, a, p, f⟩, l⟩ i).p.a), .d (.int .i64 (poR ⟨c, ⟨n, d, a, p, f⟩, l⟩ i).p.p), .d (.int .i64 (poR ⟨c, ⟨n, d, a, p, f⟩, l⟩ i).p.f), .d (.list (LI .i32 (poR ⟨c, ⟨n, d, a, p, f⟩, l⟩ i).l)), .d (.int .i64 (poE ⟨c, ⟨n, d, a, p, f⟩, l⟩ i))]) [] [(⟨0, 9⟩, ⟨false, 1, LI .i32 (poO ⟨c, ⟨n, d, a, p, f⟩, l⟩ i)⟩)] := by
  refine spec_of_E_new (X := ⟨Tryz.prog, tt, Tryz.f164.ntmps, 1, fun s => if s = 45 then 1 else 0, (tab [(218, E_padv), (219, E_pat), (220, E_frame), (131, E_clone)])⟩) (M := [(15, [0, 0, 0, 0, 0, 5149829387557928694202194968567, 0, 0, 0, 0, 0, 5149695196791951470363802583031, 0, 0, 0, 0, 0, 5144878836326606787731773177847, 0, 0, 0]), (22, [0, 0, 0, 0, 0, 169891958281861993975001811129907265527, 0, 0, 0, 0, 0, 127688969415690915010305936966006325239, 0, 0])]) (m := 5070602433969483971237825724407) (r0 := .ts [some 2, some 7, none] [.d (.int .i64 (poC ⟨c, ⟨n, d, a, p, f⟩, l⟩ i)), .own ⟨1, 45⟩ (LI .i32 (poO ⟨c, ⟨n, d, a, p, f⟩, l⟩ i)), .d (.int .i64 (poR ⟨c, ⟨n, d, a, p, f⟩, l⟩ i).c), .d (.int .i64 (poR ⟨c, ⟨n, d, a, p, f⟩, l⟩ i).p.n), .d (.int .i64 (poR ⟨c, ⟨n, d, a, p, f⟩, l⟩ i).p.d), .d (.int .i64 (poR ⟨c, ⟨n, d, a, p, f⟩, l⟩ i).p.a), .d (.int .i64 (poR ⟨c, ⟨n, d, a, p, f⟩, l⟩ i).p.p), .d (.int .i64 (poR ⟨c, ⟨n, d, a, p, f⟩, l⟩ i).p.f), .d (.list (LI .i32 (poR ⟨c, ⟨n, d, a, p, f⟩, l⟩ i).l)), .d (.int .i64 (poE ⟨c, ⟨n, d, a, p, f⟩, l⟩ i))]) (b0 := []) (k0 := [(⟨1, 45⟩, ⟨false, 1, LI .i32 (poO ⟨c, ⟨n, d, a, p, f⟩, l⟩ i)⟩)]) ⟨1, 45⟩ ⟨0, 9⟩ rfl rfl ⟨tt_ok, tab_ok (tabs_cons E_padv_ok (tabs_cons E_pat_ok (tabs_cons E_frame_ok (tabs_cons E_clone_ok tabs_nil)))) _ rfl rfl⟩ tt_mixed Tryz.func164 rfl (by decide) (by show (2 : Nat) ≤ _; exact Nat.le_of_ble_eq_true rfl) rfl rfl rfl ⟨by simp [V.has, C.has, smC_eq], by simp [C.has], by simp⟩ (by decide) (by simp [V.names, C.names, namesB, namesK]) (by simp [lk]) (by simp [lk]) (by simp [lk]) ?_
  simp (maxSteps := 1000000) only [↓gPre, gPost, gCore, gDef, gSt, gS0, Nat.reduceShiftRight, Nat.reduceMod, ↓reduceIte, reduceCtorEq, Nat.reduceEqDiff, Nat.reduceLT, Nat.reduceLeDiff, Nat.reduceAdd, Nat.reduceMul, Int.reduceLE, Int.reduceLT, Int.reduceNeg, Int.reduceAdd, Int.reduceToNat, E_padv_eq, E_pat_eq, E_frame_eq, E_clone_eq, gE1, Tryz.ntmps164, Tryz.results164, gTT]
  obtain ⟨⟨k1, k2⟩, k3, k4, k5⟩ := blk_in (rsV_in hv).2 hl
  have hp := (rsV_in hv).1
  simp only at k1 k2 hp k3
  have hc : (c.toNat : Int) = c := by omega
  have hi2 : (i.toNat : Int) = i := by omega
  have hm : i * c = ((i.toNat * c.toNat : Nat) : Int) := by rw [Int.natCast_mul, hc, hi2]
  have hmb := Nat.mul_le_mul (show i.toNat ≤ 65536 by omega) (show c.toNat ≤ 8 by omega)
  have hd := phV_in hp
  simp only at hd
  have hpr := prt_in hp
  have hP : IntKind.i64.wrap (d * 65536) = prt ⟨n, d, a, p, f⟩ := rfl
  rw [hP]
  refine ⟨fun h => ?_, fun h => ⟨by kernel_rfl, ?_⟩⟩
  · have hne : adE ⟨n, d, a, p, f⟩ i ≠ 0 := by simpa using h
    exact absurd he0 hne
  have he : adE ⟨n, d, a, p, f⟩ i = 0 := by simpa using h
  obtain ⟨he0, hadP⟩ := adE_ok he
  rw [hm, IntWalk.i64_in ((i.toNat * c.toNat : Nat) : Int) (by omega)]
  refine ⟨⟨by omega, by omega, by omega⟩, ?_⟩
  refine ELoop_keep (fun g => ⟨[(48, vI .i64 (g : Nat))], [(⟨1, 10⟩, [.d (.int .i64 c), .own ⟨1, 45⟩ (LI .i32 (outO ⟨c, ⟨n, d, a, p, f⟩, l⟩ g))])], [(⟨1, 45⟩, ⟨false, 1, LI .i32 (outO ⟨c, ⟨n, d, a, p, f⟩, l⟩ g)⟩)]⟩) (fun g => g ≤ i.toNat) (fun g => i.toNat - g) (· + 1) 0 (Nat.zero_le _) ?_ ?_
  · simp (maxSteps := 1000000) only [↓gPre, gPost, gCore, gDef, gSt, gS0, Nat.reduceShiftRight, Nat.reduceMod, ↓reduceIte, reduceCtorEq, Nat.reduceEqDiff, Nat.reduceLT, Nat.reduceLeDiff, Nat.reduceAdd, Nat.reduceMul, Int.reduceLE, Int.reduceLT, Int.reduceNeg, Int.reduceAdd, Int.reduceToNat, E_padv_eq, E_pat_eq, E_frame_eq, E_clone_eq, gE1, Tryz.ntmps164, Tryz.results164, gTT]
    exact ⟨rfl, rfl, rfl⟩
  intro g hg
  simp (maxSteps := 1000000) only [↓gPre, gPost, gCore, gDef, gSt, gS0, Nat.reduceShiftRight, Nat.reduceMod, ↓reduceIte, reduceCtorEq, Nat.reduceEqDiff, Nat.reduceLT, Nat.reduceLeDiff, Nat.reduceAdd, Nat.reduceMul, Int.reduceLE, Int.reduceLT, Int.reduceNeg, Int.reduceAdd, Int.reduceToNat, E_padv_eq, E_pat_eq, E_frame_eq, E_clone_eq, gE1, Tryz.ntmps164, Tryz.results164, gTT]
  refine ⟨fun h1 => ?_, fun h1 => ?_⟩
  · have hgi : (g : Int) < i := of_decide_eq_true h1
    have hg6 : g ≤ 65536 := by omega
    obtain ⟨q1, q2, q3⟩ := at_eq hp hg6
    have q4 := (qN_eq hp hg6).2
    simp only at q3
    rw [q3]
    have q5 : IntKind.i64.wrap (((qN ⟨n, d, a, p, f⟩ g : Nat) : Int) + 1) = ((qN ⟨n, d, a, p, f⟩ g + 1 : Nat) : Int) := by rw [IntWalk.i64_in _ (by omega)]; rfl
    rw [q5]
    have hl0 : 0 < l.length := hne (by omega)
    have hfa := frA_in hv hl hl0 (qN ⟨n, d, a, p, f⟩ g)
    have hfb := frA_in hv hl hl0 (qN ⟨n, d, a, p, f⟩ g + 1)
    simp only at hfa hfb
    have hfr0 := (qAt_in hp (n := (g : Int)) (by omega)).2
    have hfr : 0 ≤ fAt ⟨n, d, a, p, f⟩ g ∧ fAt ⟨n, d, a, p, f⟩ g < prt ⟨n, d, a, p, f⟩ := ⟨hfr0.1, hfr0.2.1⟩
    refine ⟨by kernel_rfl, ⟨hl, hv, hl0, by omega, by omega⟩, ⟨hl, hv, hl0, by omega, by omega⟩, ?_⟩
    rw [Int.toNat_natCast, Int.toNat_natCast]
    have hA : ∀ j, j < c.toNat → (List.take c.toNat (List.drop (frA ⟨c, ⟨n, d, a, p, f⟩, l⟩ (qN ⟨n, d, a, p, f⟩ g)) l))[j]?.getD 0 = gx ⟨c, ⟨n, d, a, p, f⟩, l⟩ (qN ⟨n, d, a, p, f⟩ g) j := fun j hj => by
      rw [List.getElem?_take_of_lt hj, List.getElem?_drop]; rfl
    have hB : ∀ j, j < c.toNat → (List.take c.toNat (List.drop (frA ⟨c, ⟨n, d, a, p, f⟩, l⟩ (qN ⟨n, d, a, p, f⟩ g + 1)) l))[j]?.getD 0 = gx ⟨c, ⟨n, d, a, p, f⟩, l⟩ (qN ⟨n, d, a, p, f⟩ g + 1) j := fun j hj => by
      rw [List.getElem?_take_of_lt hj, List.getElem?_drop]; rfl
    have hlA : (List.take c.toNat (List.drop (frA ⟨c, ⟨n, d, a, p, f⟩, l⟩ (qN ⟨n, d, a, p, f⟩ g)) l)).length = c.toNat := by rw [List.length_take, List.length_drop]; omega
    have hlB : (List.take c.toNat (List.drop (frA ⟨c, ⟨n, d, a, p, f⟩, l⟩ (qN ⟨n, d, a, p, f⟩ g + 1)) l)).length = c.toNat := by rw [List.length_take, List.length_drop]; omega
    generalize List.take c.toNat (List.drop (frA ⟨c, ⟨n, d, a, p, f⟩, l⟩ (qN ⟨n, d, a, p, f⟩ g)) l) = FA at *
    generalize List.take c.toNat (List.drop (frA ⟨c, ⟨n, d, a, p, f⟩, l⟩ (qN ⟨n, d, a, p, f⟩ g + 1)) l) = FB at *
    have hol := outO_len ⟨c, ⟨n, d, a, p, f⟩, l⟩ g
    simp only at hol
    have hgc := Nat.mul_le_mul (show g ≤ 65536 by omega) (show c.toNat ≤ 8 by omega)
    refine ELoop_keep (fun j => ⟨[(73, vI .i64 (j : Nat))], [(⟨1, 10⟩, [.d (.int .i64 c), .own ⟨1, 45⟩ (LI .i32 (outO ⟨c, ⟨n, d, a, p, f⟩, l⟩ g ++ outF ⟨c, ⟨n, d, a, p, f⟩, l⟩ g j))])], [(⟨1, 45⟩, ⟨false, 1, LI .i32 (outO ⟨c, ⟨n, d, a, p, f⟩, l⟩ g ++ outF ⟨c, ⟨n, d, a, p, f⟩, l⟩ g j)⟩)]⟩) (fun j => j ≤ c.toNat) (fun j => c.toNat - j) (· + 1) 0 (Nat.zero_le _) ?_ ?_
    · simp (maxSteps := 1000000) only [↓gPre, gPost, gCore, gDef, gSt, gS0, Nat.reduceShiftRight, Nat.reduceMod, ↓reduceIte, reduceCtorEq, Nat.reduceEqDiff, Nat.reduceLT, Nat.reduceLeDiff, Nat.reduceAdd, Nat.reduceMul, Int.reduceLE, Int.reduceLT, Int.reduceNeg, Int.reduceAdd, Int.reduceToNat, E_padv_eq, E_pat_eq, E_frame_eq, E_clone_eq, gE1, Tryz.ntmps164, Tryz.results164, gTT]
      simp [outF]
    intro j hj
    simp (maxSteps := 1000000) only [↓gPre, gPost, gCore, gDef, gSt, gS0, Nat.reduceShiftRight, Nat.reduceMod, ↓reduceIte, reduceCtorEq, Nat.reduceEqDiff, Nat.reduceLT, Nat.reduceLeDiff, Nat.reduceAdd, Nat.reduceMul, Int.reduceLE, Int.reduceLT, Int.reduceNeg, Int.reduceAdd, Int.reduceToNat, E_padv_eq, E_pat_eq, E_frame_eq, E_clone_eq, gE1, Tryz.ntmps164, Tryz.results164, gTT]
    have hfl := outF_len ⟨c, ⟨n, d, a, p, f⟩, l⟩ g j
    refine ⟨fun h2 => ?_, fun h2 => ?_⟩
    · have hjc : j < c.toNat := by have := of_decide_eq_true h2; omega
      have sA := smp_get k5 (frA ⟨c, ⟨n, d, a, p, f⟩, l⟩ (qN ⟨n, d, a, p, f⟩ g) + j)
      have sB := smp_get k5 (frA ⟨c, ⟨n, d, a, p, f⟩, l⟩ (qN ⟨n, d, a, p, f⟩ g + 1) + j)
      have hq := sumG_q (a := gx ⟨c, ⟨n, d, a, p, f⟩, l⟩ (qN ⟨n, d, a, p, f⟩ g) j) (b := gx ⟨c, ⟨n, d, a, p, f⟩, l⟩ (qN ⟨n, d, a, p, f⟩ g + 1) j) hpr hfr sA sB
      refine ⟨by kernel_rfl, ?_⟩
      rw [hA j hjc, hB j hjc, q2]
      have hs : outO ⟨c, ⟨n, d, a, p, f⟩, l⟩ g ++ outF ⟨c, ⟨n, d, a, p, f⟩, l⟩ g (j + 1) = outO ⟨c, ⟨n, d, a, p, f⟩, l⟩ g ++ outF ⟨c, ⟨n, d, a, p, f⟩, l⟩ g j ++ [btw (gx ⟨c, ⟨n, d, a, p, f⟩, l⟩ (qN ⟨n, d, a, p, f⟩ g) j) (gx ⟨c, ⟨n, d, a, p, f⟩, l⟩ (qN ⟨n, d, a, p, f⟩ g + 1) j) (fAt ⟨n, d, a, p, f⟩ g) (prt ⟨n, d, a, p, f⟩)] := by
        rw [outF_succ, List.append_assoc]; rfl
      rw [hs]
      unfold sumG at hq
      refine ⟨by omega, by omega, by decide, by omega, by omega, fun h3 => ?_, fun h3 => ?_⟩
      · rw [hq.1 h3]
        exact ⟨by unfold roomOK; rw [List.length_append]; omega, ⟨(wrapN _ (by omega)).symm, rfl, rfl⟩, by omega, by omega⟩
      · rw [hq.2 h3]
        exact ⟨by unfold roomOK; rw [List.length_append]; omega, ⟨(wrapN _ (by omega)).symm, rfl, rfl⟩, by omega, by omega⟩
    · have hjc : j = c.toNat := by have := of_decide_eq_false h2; omega
      subst hjc
      exact ⟨⟨(wrapN _ (by omega)).symm, rfl, rfl⟩, by omega, by omega⟩
  · have hgi : g = i.toNat := by have := of_decide_eq_false h1; omega
    have hq := qN_eq hp (g := i.toNat) (by omega)
    rw [hi2] at hq
    refine ⟨by kernel_rfl, ?_⟩
    have hpp : (adP ⟨n, d, a, p, f⟩ i).p - p = ((qN ⟨n, d, a, p, f⟩ i.toNat : Nat) : Int) := by rw [hadP, hq.1]; show p + _ - p = _; omega
    rw [hpp]
    have hgone : (if IntKind.i64.wrap (IntKind.i64.wrap ((qN ⟨n, d, a, p, f⟩ i.toNat : Nat) : Int) * c) < (l.length : Int) then IntKind.i64.wrap (IntKind.i64.wrap ((qN ⟨n, d, a, p, f⟩ i.toNat : Nat) : Int) * c) else (l.length : Int)) = ((min l.length (qN ⟨n, d, a, p, f⟩ i.toNat * c.toNat) : Nat) : Int) := by
      have hqc := Nat.mul_le_mul hq.2 (show c.toNat ≤ 8 by omega)
      rw [IntWalk.i64_in ((qN ⟨n, d, a, p, f⟩ i.toNat : Nat) : Int) (by omega)]
      have e : ((qN ⟨n, d, a, p, f⟩ i.toNat : Nat) : Int) * c = ((qN ⟨n, d, a, p, f⟩ i.toNat * c.toNat : Nat) : Int) := by rw [Int.natCast_mul, hc]
      rw [e, IntWalk.i64_in _ (by omega)]
      split <;> omega
    rw [hgone, Int.toNat_natCast]
    have htk : ∀ m, List.take (l.length - m) (List.drop m l) = List.drop m l := fun m => List.take_of_length_le (by rw [List.length_drop]; omega)
    rw [htk]
    refine ⟨⟨by omega, by omega, by omega⟩, by rw [List.length_drop]; omega, by kernel_rfl, ?_⟩
    simp [poC, poO, poR, poE, he, hgi]
def E_produceO : List V → Boxes → Toks → Name → Option Ent
  | [.agg [.d (.int .i64 c), .d (.int .i64 n), .d (.int .i64 d), .d (.int .i64 a), .d (.int .i64 p), .d (.int .i64 f), .d (.list q_l)], .c (.d (.int .i64 i))], [], [], nF => some ⟨(ints q_l).length ≤ 1000000 ∧ rsV ⟨c, ⟨n, d, a, p, f⟩, (ints q_l)⟩ = true ∧ (0 ≤ i ∧ i ≤ 65536) ∧ (0 < i → 0 < (ints q_l).length) ∧ poE ⟨c, ⟨n, d, a, p, f⟩, (ints q_l)⟩ i = 0 ∧ q_l = LI .i32 (ints q_l), .ts [some 2, some 7, none] [.d (.int .i64 (poC ⟨c, ⟨n, d, a, p, f⟩, (ints q_l)⟩ i)), .own nF (LI .i32 (poO ⟨c, ⟨n, d, a, p, f⟩, (ints q_l)⟩ i)), .d (.int .i64 (poR ⟨c, ⟨n, d, a, p, f⟩, (ints q_l)⟩ i).c), .d (.int .i64 (poR ⟨c, ⟨n, d, a, p, f⟩, (ints q_l)⟩ i).p.n), .d (.int .i64 (poR ⟨c, ⟨n, d, a, p, f⟩, (ints q_l)⟩ i).p.d), .d (.int .i64 (poR ⟨c, ⟨n, d, a, p, f⟩, (ints q_l)⟩ i).p.a), .d (.int .i64 (poR ⟨c, ⟨n, d, a, p, f⟩, (ints q_l)⟩ i).p.p), .d (.int .i64 (poR ⟨c, ⟨n, d, a, p, f⟩, (ints q_l)⟩ i).p.f), .d (.list (LI .i32 (poR ⟨c, ⟨n, d, a, p, f⟩, (ints q_l)⟩ i).l)), .d (.int .i64 (poE ⟨c, ⟨n, d, a, p, f⟩, (ints q_l)⟩ i))], [], [(nF, ⟨false, 1, LI .i32 (poO ⟨c, ⟨n, d, a, p, f⟩, (ints q_l)⟩ i)⟩)]⟩
  | _, _, _, _ => none
def E_produceO_eq := And.intro (@E_produceO.eq_1) (@E_produceO.eq_1)
theorem E_produceO_ok : Snd Tryz.prog 164 E_produceO := by
  intro vs b k n e h hn hp
  unfold E_produceO at h
  split at h
  · cases h; obtain ⟨hp0, hp1, hp2, hp3, hp4, hq0⟩ := hp; obtain ⟨_, rfl⟩ := LI_ex hq0; simp only [ints_LI, bys_LB, blks_LK, lls_LL] at hp0 hp1 hp2 hp3 hp4 ⊢; exact Spec.ren1 (spec_produceO _ _ _ _ _ _ _ _ hp0 hp1 hp2 hp3 hp4) 9 (by simp [supOK, V.names, C.names, namesB, namesK, smC_eq]) (Nat.le_of_eq hn) 
  · cases h
theorem spec_takeO (c n d a p f : Int) (l : List Int) (i : Int) (hl : l.length ≤ 1000000) (ht : tkE ⟨c, ⟨n, d, a, p, f⟩, l⟩ i = 0) : Spec Tryz.prog 0 92 [.agg [.d (.int .i64 c), .d (.int .i64 n), .d (.int .i64 d), .d (.int .i64 a), .d (.int .i64 p), .d (.int .i64 f), .d (.list (LI .i32 l))], vI .i64 i] [] [] (.ts [some 2, some 7, none] [.d (.int .i64 (tkC ⟨c, ⟨n, d, a, p, f⟩, l⟩ i)), .own ⟨0, 9⟩ (LI .i32 (tkO ⟨c, ⟨n, d, a, p, f⟩, l⟩ i)), .d (.int .i64 (tkR ⟨c, ⟨n, d, a, p, f⟩, l⟩ i).c), .d (.int .i64 (tkR ⟨c, ⟨n, d, a, p, f⟩, l⟩ i).p.n), .d (.int .i64 (tkR ⟨c, ⟨n, d, a, p, f⟩, l⟩ i).p.d), .d (.int .i64 (tkR ⟨c, ⟨n, d, a, p, f⟩, l⟩ i).p.a), .d (.int .i64 (tkR ⟨c, ⟨n, d, a, p, f⟩, l⟩ i).p.p), .d (.int .i64 (tkR ⟨c, ⟨n, d, a, p, f⟩, l⟩ i).p.f), .d (.list (LI .i32 (tkR ⟨c, ⟨n, d, a, p, f⟩, l⟩ i).l)), .d (.int .i64 (tkE ⟨c, ⟨n, d, a, p, f⟩, l⟩ i))]) [] [(⟨0, 9⟩, ⟨false, 1, LI .i32 (tkO ⟨c, ⟨n, d, a, p, f⟩, l⟩ i)⟩)] := by
  refine spec_of_E_new (X := ⟨Tryz.prog, tt, Tryz.f92.ntmps, 1, fun _ => 0, (tab [(163, E_rscheck), (90, E_pneed), (164, E_produceO)])⟩) (M := []) (m := 4294984183) (r0 := .ts [some 2, some 7, none] [.d (.int .i64 (tkC ⟨c, ⟨n, d, a, p, f⟩, l⟩ i)), .own ⟨1, 37⟩ (LI .i32 (tkO ⟨c, ⟨n, d, a, p, f⟩, l⟩ i)), .d (.int .i64 (tkR ⟨c, ⟨n, d, a, p, f⟩, l⟩ i).c), .d (.int .i64 (tkR ⟨c, ⟨n, d, a, p, f⟩, l⟩ i).p.n), .d (.int .i64 (tkR ⟨c, ⟨n, d, a, p, f⟩, l⟩ i).p.d), .d (.int .i64 (tkR ⟨c, ⟨n, d, a, p, f⟩, l⟩ i).p.a), .d (.int .i64 (tkR ⟨c, ⟨n, d, a, p, f⟩, l⟩ i).p.p), .d (.int .i64 (tkR ⟨c, ⟨n, d, a, p, f⟩, l⟩ i).p.f), .d (.list (LI .i32 (tkR ⟨c, ⟨n, d, a, p, f⟩, l⟩ i).l)), .d (.int .i64 (tkE ⟨c, ⟨n, d, a, p, f⟩, l⟩ i))]) (b0 := []) (k0 := [(⟨1, 37⟩, ⟨false, 1, LI .i32 (tkO ⟨c, ⟨n, d, a, p, f⟩, l⟩ i)⟩)]) ⟨1, 37⟩ ⟨0, 9⟩ rfl rfl ⟨tt_ok, tab_ok (tabs_cons E_rscheck_ok (tabs_cons E_pneed_ok (tabs_cons E_produceO_ok tabs_nil))) _ rfl rfl⟩ tt_mixed Tryz.func92 rfl (by decide) (by show (2 : Nat) ≤ _; exact Nat.le_of_ble_eq_true rfl) rfl rfl rfl ⟨by simp [V.has, C.has, smC_eq], by simp [C.has], by simp⟩ (by decide) (by simp [V.names, C.names, namesB, namesK]) (by simp [lk]) (by simp [lk]) (by simp [lk]) ?_
  simp (maxSteps := 1000000) only [↓gPre, gPost, gCore, gDef, gSt, gS0, Nat.reduceShiftRight, Nat.reduceMod, ↓reduceIte, reduceCtorEq, Nat.reduceEqDiff, Nat.reduceLT, Nat.reduceLeDiff, Nat.reduceAdd, Nat.reduceMul, Int.reduceLE, Int.reduceLT, Int.reduceNeg, Int.reduceAdd, Int.reduceToNat, E_rscheck_eq, E_pneed_eq, E_produceO_eq, gE1, Tryz.ntmps92, Tryz.results92, gTT]
  refine ⟨hl, fun h => ?_, fun h => ?_⟩
  · have hne : rcE ⟨c, ⟨n, d, a, p, f⟩, l⟩ i ≠ 0 := by simpa using h
    exact absurd (tkE_po ht).1 hne
  have he : rcE ⟨c, ⟨n, d, a, p, f⟩, l⟩ i = 0 := by simpa using h
  obtain ⟨hv, hi⟩ := rcE_ok he
  obtain ⟨⟨k1, k2⟩, k3, k4, k5⟩ := blk_in (rsV_in hv).2 hl
  have hp := (rsV_in hv).1
  simp only at k1 k2 hp k3
  have hN : neE ⟨n, d, a, p, f⟩ i = ned ⟨n, d, a, p, f⟩ i := by unfold neE; rw [if_pos (phC_of hp hi)]
  have hpo := tkE_po ht
  simp only at hpo
  rw [len_div k1 (by omega), hN]
  refine ⟨by omega, fun h2 => ?_, fun h2 => ?_⟩
  · have := of_decide_eq_true h2
    omega
  have hne : 0 < i → 0 < l.length := fun h0 => by
    have h3 := ned_two hp (n := i) (by omega)
    have h4 := of_decide_eq_false h2
    rcases Nat.eq_zero_or_pos l.length with h5 | h5
    · rw [h5, Nat.zero_div] at h4; simp at h4; omega
    · exact h5
  refine ⟨⟨hl, hv, hi, hne, hpo.2.1⟩, ?_⟩
  simp [tkC, tkO, tkR, ht, hpo.2.1, poC, poO]
def E_takeO : List V → Boxes → Toks → Name → Option Ent
  | [.agg [.d (.int .i64 c), .d (.int .i64 n), .d (.int .i64 d), .d (.int .i64 a), .d (.int .i64 p), .d (.int .i64 f), .d (.list q_l)], .c (.d (.int .i64 i))], [], [], nF => some ⟨(ints q_l).length ≤ 1000000 ∧ tkE ⟨c, ⟨n, d, a, p, f⟩, (ints q_l)⟩ i = 0 ∧ q_l = LI .i32 (ints q_l), .ts [some 2, some 7, none] [.d (.int .i64 (tkC ⟨c, ⟨n, d, a, p, f⟩, (ints q_l)⟩ i)), .own nF (LI .i32 (tkO ⟨c, ⟨n, d, a, p, f⟩, (ints q_l)⟩ i)), .d (.int .i64 (tkR ⟨c, ⟨n, d, a, p, f⟩, (ints q_l)⟩ i).c), .d (.int .i64 (tkR ⟨c, ⟨n, d, a, p, f⟩, (ints q_l)⟩ i).p.n), .d (.int .i64 (tkR ⟨c, ⟨n, d, a, p, f⟩, (ints q_l)⟩ i).p.d), .d (.int .i64 (tkR ⟨c, ⟨n, d, a, p, f⟩, (ints q_l)⟩ i).p.a), .d (.int .i64 (tkR ⟨c, ⟨n, d, a, p, f⟩, (ints q_l)⟩ i).p.p), .d (.int .i64 (tkR ⟨c, ⟨n, d, a, p, f⟩, (ints q_l)⟩ i).p.f), .d (.list (LI .i32 (tkR ⟨c, ⟨n, d, a, p, f⟩, (ints q_l)⟩ i).l)), .d (.int .i64 (tkE ⟨c, ⟨n, d, a, p, f⟩, (ints q_l)⟩ i))], [], [(nF, ⟨false, 1, LI .i32 (tkO ⟨c, ⟨n, d, a, p, f⟩, (ints q_l)⟩ i)⟩)]⟩
  | _, _, _, _ => none
def E_takeO_eq := And.intro (@E_takeO.eq_1) (@E_takeO.eq_1)
theorem E_takeO_ok : Snd Tryz.prog 92 E_takeO := by
  intro vs b k n e h hn hp
  unfold E_takeO at h
  split at h
  · cases h; obtain ⟨hp0, hp1, hq0⟩ := hp; obtain ⟨_, rfl⟩ := LI_ex hq0; simp only [ints_LI, bys_LB, blks_LK, lls_LL] at hp0 hp1 ⊢; exact Spec.ren1 (spec_takeO _ _ _ _ _ _ _ _ hp0 hp1) 9 (by simp [supOK, V.names, C.names, namesB, namesK, smC_eq]) (Nat.le_of_eq hn) 
  · cases h
theorem spec_join (c d : Int) (a b : List Int) (hl : a.length + b.length ≤ 1000000) : Spec Tryz.prog 0 18 [.agg [.d (.int .i64 c), .d (.list (LI .i32 a))], .agg [.d (.int .i64 d), .d (.list (LI .i32 b))]] [] [] (.agg [.d (.int .i64 c), .d (.list (LI .i32 (a ++ b)))]) [] [] := by
  refine sE (md := fun _ => 0) (L := []) [] 31 tabs_nil Tryz.func18 rfl rfl rfl ?_
  simp (maxSteps := 1000000) only [↓gPre, gPost, gCore, gDef, gSt, gS0, Nat.reduceShiftRight, Nat.reduceMod, ↓reduceIte, reduceCtorEq, Nat.reduceEqDiff, Nat.reduceLT, Nat.reduceLeDiff, Nat.reduceAdd, Nat.reduceMul, Int.reduceLE, Int.reduceLT, Int.reduceNeg, Int.reduceAdd, Int.reduceToNat, gE1, Tryz.ntmps18, Tryz.results18, gTT]
  exact ⟨by kernel_rfl, by unfold roomOK; omega, by unfold roomOK; omega⟩
def E_join : List V → Boxes → Toks → Name → Option Ent
  | [.agg [.d (.int .i64 c), .d (.list q_a)], .agg [.d (.int .i64 d), .d (.list q_b)]], [], [], _ => some ⟨(ints q_a).length + (ints q_b).length ≤ 1000000 ∧ q_a = LI .i32 (ints q_a) ∧ q_b = LI .i32 (ints q_b), .agg [.d (.int .i64 c), .d (.list (LI .i32 ((ints q_a) ++ (ints q_b))))], [], []⟩
  | _, _, _, _ => none
def E_join_eq := And.intro (@E_join.eq_1) (@E_join.eq_1)
theorem E_join_ok : Snd Tryz.prog 18 E_join := by
  intro vs b k n e h hn hp
  unfold E_join at h
  split at h
  · cases h; obtain ⟨hp0, hq0, hq1⟩ := hp; obtain ⟨_, rfl⟩ := LI_ex hq0; obtain ⟨_, rfl⟩ := LI_ex hq1; simp only [ints_LI, bys_LB, blks_LK, lls_LL] at hp0 ⊢; exact (spec_join _ _ _ _ hp0).lift rfl _
  · cases h
def cutK (k : Int) (l : List Int) (f t : Nat) : List Int := (l.drop (f * k.toNat)).take ((t - f) * k.toNat)
theorem spec_cut (k : Int) (l : List Int) (f t : Int) (hl : l.length ≤ 1000000) (hk : 1 ≤ k ∧ k ≤ 8) (hf : 0 ≤ f ∧ f ≤ t) (ht : t.toNat * k.toNat ≤ l.length) : Spec Tryz.prog 0 67 [.agg [.d (.int .i64 k), .d (.list (LI .i32 l))], vI .i64 f, vI .i64 t] [] [] (.agg [.d (.int .i64 k), .d (.list (LI .i32 (cutK k l f.toNat t.toNat)))]) [] [] := by
  refine spec_of_E (X := ⟨Tryz.prog, tt, Tryz.f67.ntmps, 1, fun _ => 0, (tab [])⟩) (M := [(1, [0, 0, 0, 0, 0, 4193615, 0, 0, 0, 0, 0, 3949903, 0, 0, 0, 0])]) (m := 79) rfl rfl ⟨tt_ok, tab_ok tabs_nil _ rfl rfl⟩ tt_mixed Tryz.func67 rfl (by decide) (by show (3 : Nat) ≤ _; exact Nat.le_of_ble_eq_true rfl) ⟨by simp [V.has, C.has, smC_eq], by simp [C.has], by simp⟩ ?_
  simp (maxSteps := 1000000) only [↓gPre, gPost, gCore, gDef, gSt, gS0, Nat.reduceShiftRight, Nat.reduceMod, ↓reduceIte, reduceCtorEq, Nat.reduceEqDiff, Nat.reduceLT, Nat.reduceLeDiff, Nat.reduceAdd, Nat.reduceMul, Int.reduceLE, Int.reduceLT, Int.reduceNeg, Int.reduceAdd, Int.reduceToNat, gE1, Tryz.ntmps67, Tryz.results67, gTT]
  have hkm : (k.toNat : Int) = k := by omega
  have hfm : (f.toNat : Int) = f := by omega
  have htm : (t.toNat : Int) = t := by omega
  have hle : f.toNat * k.toNat ≤ t.toNat * k.toNat := Nat.mul_le_mul_right _ (by omega)
  have c1 : f * k = ((f.toNat * k.toNat : Nat) : Int) := by rw [Int.natCast_mul, hkm, hfm]
  have c2 : t * k = ((t.toNat * k.toNat : Nat) : Int) := by rw [Int.natCast_mul, hkm, htm]
  have hsub : (t.toNat - f.toNat) * k.toNat = t.toNat * k.toNat - f.toNat * k.toNat := Nat.sub_mul ..
  refine ⟨by kernel_rfl, ?_⟩
  unfold cutK
  rw [c1, c2, hsub]
  generalize f.toNat * k.toNat = x at *
  generalize t.toNat * k.toNat = y at *
  rw [IntWalk.i64_in (x : Int) (by omega), IntWalk.i64_in (y : Int) (by omega)]
  refine ⟨by omega, ?_, rfl⟩
  have : (List.take ((y : Int).toNat - (x : Int).toNat) (List.drop (x : Int).toNat l)).length ≤ l.length := by rw [List.length_take, List.length_drop]; omega
  unfold roomOK
  omega
def E_cut : List V → Boxes → Toks → Name → Option Ent
  | [.agg [.d (.int .i64 k), .d (.list q_l)], .c (.d (.int .i64 f)), .c (.d (.int .i64 t))], [], [], _ => some ⟨(ints q_l).length ≤ 1000000 ∧ (1 ≤ k ∧ k ≤ 8) ∧ (0 ≤ f ∧ f ≤ t) ∧ t.toNat * k.toNat ≤ (ints q_l).length ∧ q_l = LI .i32 (ints q_l), .agg [.d (.int .i64 k), .d (.list (LI .i32 (cutK k (ints q_l) f.toNat t.toNat)))], [], []⟩
  | _, _, _, _ => none
def E_cut_eq := And.intro (@E_cut.eq_1) (@E_cut.eq_1)
theorem E_cut_ok : Snd Tryz.prog 67 E_cut := by
  intro vs b k n e h hn hp
  unfold E_cut at h
  split at h
  · cases h; obtain ⟨hp0, hp1, hp2, hp3, hq0⟩ := hp; obtain ⟨_, rfl⟩ := LI_ex hq0; simp only [ints_LI, bys_LB, blks_LK, lls_LL] at hp0 hp1 hp2 hp3 ⊢; exact (spec_cut _ _ _ _ hp0 hp1 hp2 hp3).lift rfl _
  · cases h
end Go.Vam
