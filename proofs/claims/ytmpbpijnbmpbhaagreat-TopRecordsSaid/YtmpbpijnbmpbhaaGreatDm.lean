/- A part of the proof. Conditions: none. -/
import Derived.Test.YtmpbpijnbmpbhaaGreatDl
set_option linter.unusedVariables false
set_option linter.defProp false
set_option linter.unusedSimpArgs false
set_option maxRecDepth 40000
set_option maxHeartbeats 4000000
namespace Go.Vam
open Go.Proofs
theorem spec_dvdue (di : Int) (s : ByteArray) (dd dm dl dt dj : Int) (bx : List D) (ck cr : Int) (mp : List Int) (cz : Int) (ra pe : Int) (sg : List D) (ru : Bool) (si : Int) (q ct cd cg cm c n d a p f : Int) (l : List Int) (lo mi : Int) (fr to : Int) (hs : dsOK s dd dm dl dt dj) (hv : dvOK bx ck cr mp cz ra pe sg) (hb : brV ⟨q, ⟨ct, cd, cg, cm⟩, ⟨c, ⟨n, d, a, p, f⟩, l⟩, lo, mi⟩ = true) (hl : l.length ≤ 1000000) (hc : c = mp.length ∧ n = 1 ∧ d = 1) (hru : ru = true ∧ si = 0) (hft : 0 ≤ fr ∧ fr < to ∧ to ≤ 1099511627776 ∧ to - fr ≤ 65536) : Spec Tryz.prog 0 134 [.agg [.d (.int .u64 di), .d (.str s), .d (.int .i64 dd), .d (.int .i64 dm), .d (.int .i64 dl), .d (.int .i64 dt), .d (.int .i64 dj), .d (.list bx), .d (.int .i64 ck), .d (.int .i64 cr), .d (.list (LI .i64 mp)), .d (.int .i64 cz), .d (.int .i64 ra), .d (.int .i64 pe), .d (.list sg), .d (.bool ru), .d (.int .i64 si), .d (.int .i64 q), .d (.int .i64 ct), .d (.int .i64 cd), .d (.int .i64 cg), .d (.int .i64 cm), .d (.int .i64 c), .d (.int .i64 n), .d (.int .i64 d), .d (.int .i64 a), .d (.int .i64 p), .d (.int .i64 f), .d (.list (LI .i32 l)), .d (.int .i64 lo), .d (.int .i64 mi)], vI .i64 fr, vI .i64 to] [] [] (.tup [.int .i64 (to - fr), .int .i64 0]) [] [] := by
  refine sE (md := fun _ => 0) (L := [(121, E_dvvalid), (200, E_clkbtw)]) [(3, [0, 0, 0, 0, 0, 140874993386959, 0, 0, 0, 0, 0, 0])] 140874927326671 (tabs_cons E_dvvalid_ok (tabs_cons E_clkbtw_ok tabs_nil)) Tryz.func134 rfl rfl rfl ?_
  simp (maxSteps := 1000000) only [↓gPre, gPost, gCore, gDef, gSt, gS0, Nat.reduceShiftRight, Nat.reduceMod, ↓reduceIte, reduceCtorEq, Nat.reduceEqDiff, Nat.reduceLT, Nat.reduceLeDiff, Nat.reduceAdd, Nat.reduceMul, Int.reduceLE, Int.reduceLT, Int.reduceNeg, Int.reduceAdd, Int.reduceToNat, E_dvvalid_eq, E_clkbtw_eq, gE1, gE2, Tryz.ntmps134, Tryz.results134, gTT]
  obtain ⟨hr, h0⟩ := hru
  have e : (if fr < si then si else fr) = fr := if_neg (by omega)
  simp only [e]
  refine ⟨⟨hs, hv, hb, hl, hc, by omega⟩, fun h => ?_, fun _ => ⟨fun h => ?_, fun _ => ⟨⟨hv.2.2.2.2.2.2.2, by omega, by omega, by omega⟩, fun h => ?_, fun _ => trivial⟩⟩⟩
  · simp only [Bool.or_eq_true, decide_eq_true_eq] at h
    omega
  · rw [hr] at h
    simp only [Bool.not_true, Bool.false_or, decide_eq_true_eq] at h
    omega
  · have := of_decide_eq_true h
    omega
def E_dvdue : List V → Boxes → Toks → Name → Option Ent
  | [.agg [.d (.int .u64 di), .d (.str s), .d (.int .i64 dd), .d (.int .i64 dm), .d (.int .i64 dl), .d (.int .i64 dt), .d (.int .i64 dj), .d (.list bx), .d (.int .i64 ck), .d (.int .i64 cr), .d (.list q_mp), .d (.int .i64 cz), .d (.int .i64 ra), .d (.int .i64 pe), .d (.list sg), .d (.bool ru), .d (.int .i64 si), .d (.int .i64 q), .d (.int .i64 ct), .d (.int .i64 cd), .d (.int .i64 cg), .d (.int .i64 cm), .d (.int .i64 c), .d (.int .i64 n), .d (.int .i64 d), .d (.int .i64 a), .d (.int .i64 p), .d (.int .i64 f), .d (.list q_l), .d (.int .i64 lo), .d (.int .i64 mi)], .c (.d (.int .i64 fr)), .c (.d (.int .i64 to))], [], [], _ => some ⟨dsOK s dd dm dl dt dj ∧ dvOK bx ck cr (ints q_mp) cz ra pe sg ∧ brV ⟨q, ⟨ct, cd, cg, cm⟩, ⟨c, ⟨n, d, a, p, f⟩, (ints q_l)⟩, lo, mi⟩ = true ∧ (ints q_l).length ≤ 1000000 ∧ (c = (ints q_mp).length ∧ n = 1 ∧ d = 1) ∧ (ru = true ∧ si = 0) ∧ (0 ≤ fr ∧ fr < to ∧ to ≤ 1099511627776 ∧ to - fr ≤ 65536) ∧ q_mp = LI .i64 (ints q_mp) ∧ q_l = LI .i32 (ints q_l), .tup [.int .i64 (to - fr), .int .i64 0], [], []⟩
  | _, _, _, _ => none
def E_dvdue_eq := And.intro (@E_dvdue.eq_1) (@E_dvdue.eq_1)
theorem E_dvdue_ok : Snd Tryz.prog 134 E_dvdue := by
  intro vs b k n e h hn hp
  unfold E_dvdue at h
  split at h
  · cases h; obtain ⟨hp0, hp1, hp2, hp3, hp4, hp5, hp6, hq0, hq1⟩ := hp; obtain ⟨_, rfl⟩ := LI_ex hq0; obtain ⟨_, rfl⟩ := LI_ex hq1; simp only [ints_LI, bys_LB, blks_LK, lls_LL] at hp0 hp1 hp2 hp3 hp4 hp5 hp6 ⊢; exact (spec_dvdue _ _ _ _ _ _ _ _ _ _ _ _ _ _ _ _ _ _ _ _ _ _ _ _ _ _ _ _ _ _ _ _ _ hp0 hp1 hp2 hp3 hp4 hp5 hp6).lift rfl _
  · cases h
theorem spec_dvcheck (di : Int) (s : ByteArray) (dd dm dl dt dj : Int) (bx : List D) (ck cr : Int) (mp : List Int) (cz : Int) (ra pe : Int) (sg : List D) (ru : Bool) (si : Int) (q ct cd cg cm c n d a p f : Int) (l : List Int) (lo mi : Int) (x k : Int) (y : List Int) (fr to : Int) (hs : dsOK s dd dm dl dt dj) (hv : dvOK bx ck cr mp cz ra pe sg) (hb : brV ⟨q, ⟨ct, cd, cg, cm⟩, ⟨c, ⟨n, d, a, p, f⟩, l⟩, lo, mi⟩ = true) (hl : l.length ≤ 1000000) (hc : c = mp.length ∧ n = 1 ∧ d = 1) (hru : ru = true ∧ si = 0) (hft : 0 ≤ fr ∧ fr < to ∧ to ≤ 1099511627776 ∧ to - fr ≤ 65536) (hx : x = dd) (hk : k = c ∧ blkV k y = true ∧ y.length ≤ 1000000) : Spec Tryz.prog 0 57 [.agg [.d (.int .u64 di), .d (.str s), .d (.int .i64 dd), .d (.int .i64 dm), .d (.int .i64 dl), .d (.int .i64 dt), .d (.int .i64 dj), .d (.list bx), .d (.int .i64 ck), .d (.int .i64 cr), .d (.list (LI .i64 mp)), .d (.int .i64 cz), .d (.int .i64 ra), .d (.int .i64 pe), .d (.list sg), .d (.bool ru), .d (.int .i64 si), .d (.int .i64 q), .d (.int .i64 ct), .d (.int .i64 cd), .d (.int .i64 cg), .d (.int .i64 cm), .d (.int .i64 c), .d (.int .i64 n), .d (.int .i64 d), .d (.int .i64 a), .d (.int .i64 p), .d (.int .i64 f), .d (.list (LI .i32 l)), .d (.int .i64 lo), .d (.int .i64 mi)], vI .i64 x, .agg [.d (.int .i64 k), .d (.list (LI .i32 y))], vI .i64 fr, vI .i64 to] [] [] (.tup [.int .i64 (to - fr), .int .i64 0]) [] [] := by
  refine sE (md := fun _ => 0) (L := [(133, E_uvalid), (62, E_bvalid), (119, E_uports), (134, E_dvdue)]) [(2, [0, 0, 0, 0, 0, 8588401855, 0, 0, 0, 0, 0, 8472534207, 0, 0, 0, 0, 0])] 4295007423 (tabs_cons E_uvalid_ok (tabs_cons E_bvalid_ok (tabs_cons E_uports_ok (tabs_cons E_dvdue_ok tabs_nil)))) Tryz.func57 rfl rfl rfl ?_
  simp (maxSteps := 1000000) only [↓gPre, gPost, gCore, gDef, gSt, gS0, Nat.reduceShiftRight, Nat.reduceMod, ↓reduceIte, reduceCtorEq, Nat.reduceEqDiff, Nat.reduceLT, Nat.reduceLeDiff, Nat.reduceAdd, Nat.reduceMul, Int.reduceLE, Int.reduceLT, Int.reduceNeg, Int.reduceAdd, Int.reduceToNat, E_uvalid_eq, E_bvalid_eq, E_uports_eq, E_dvdue_eq, gE1, gE2, Tryz.ntmps57, Tryz.results57, gTT]
  obtain ⟨k1, k2, k3⟩ := hk
  refine ⟨⟨hs, hv, hb, hl, hc, by omega⟩, k3, fun h => ?_, fun _ => ⟨by kernel_rfl, fun h => ?_, fun _ => ⟨hs, hv, hb, hl, hc, hru, hft⟩⟩⟩
  · rw [k2, hx] at h
    simp at h
  · rw [k1, hc.1] at h
    simp at h
def E_dvcheck : List V → Boxes → Toks → Name → Option Ent
  | [.agg [.d (.int .u64 di), .d (.str s), .d (.int .i64 dd), .d (.int .i64 dm), .d (.int .i64 dl), .d (.int .i64 dt), .d (.int .i64 dj), .d (.list bx), .d (.int .i64 ck), .d (.int .i64 cr), .d (.list q_mp), .d (.int .i64 cz), .d (.int .i64 ra), .d (.int .i64 pe), .d (.list sg), .d (.bool ru), .d (.int .i64 si), .d (.int .i64 q), .d (.int .i64 ct), .d (.int .i64 cd), .d (.int .i64 cg), .d (.int .i64 cm), .d (.int .i64 c), .d (.int .i64 n), .d (.int .i64 d), .d (.int .i64 a), .d (.int .i64 p), .d (.int .i64 f), .d (.list q_l), .d (.int .i64 lo), .d (.int .i64 mi)], .c (.d (.int .i64 x)), .agg [.d (.int .i64 k), .d (.list q_y)], .c (.d (.int .i64 fr)), .c (.d (.int .i64 to))], [], [], _ => some ⟨dsOK s dd dm dl dt dj ∧ dvOK bx ck cr (ints q_mp) cz ra pe sg ∧ brV ⟨q, ⟨ct, cd, cg, cm⟩, ⟨c, ⟨n, d, a, p, f⟩, (ints q_l)⟩, lo, mi⟩ = true ∧ (ints q_l).length ≤ 1000000 ∧ (c = (ints q_mp).length ∧ n = 1 ∧ d = 1) ∧ (ru = true ∧ si = 0) ∧ (0 ≤ fr ∧ fr < to ∧ to ≤ 1099511627776 ∧ to - fr ≤ 65536) ∧ x = dd ∧ (k = c ∧ blkV k (ints q_y) = true ∧ (ints q_y).length ≤ 1000000) ∧ q_mp = LI .i64 (ints q_mp) ∧ q_l = LI .i32 (ints q_l) ∧ q_y = LI .i32 (ints q_y), .tup [.int .i64 (to - fr), .int .i64 0], [], []⟩
  | _, _, _, _ => none
def E_dvcheck_eq := And.intro (@E_dvcheck.eq_1) (@E_dvcheck.eq_1)
theorem E_dvcheck_ok : Snd Tryz.prog 57 E_dvcheck := by
  intro vs b k n e h hn hp
  unfold E_dvcheck at h
  split at h
  · cases h; obtain ⟨hp0, hp1, hp2, hp3, hp4, hp5, hp6, hp7, hp8, hq0, hq1, hq2⟩ := hp; obtain ⟨_, rfl⟩ := LI_ex hq0; obtain ⟨_, rfl⟩ := LI_ex hq1; obtain ⟨_, rfl⟩ := LI_ex hq2; simp only [ints_LI, bys_LB, blks_LK, lls_LL] at hp0 hp1 hp2 hp3 hp4 hp5 hp6 hp7 hp8 ⊢; exact (spec_dvcheck _ _ _ _ _ _ _ _ _ _ _ _ _ _ _ _ _ _ _ _ _ _ _ _ _ _ _ _ _ _ _ _ _ _ _ _ hp0 hp1 hp2 hp3 hp4 hp5 hp6 hp7 hp8).lift rfl _
  · cases h
end Go.Vam
