/- A part of the proof. Conditions: none. -/
import Derived.Test.YtmpbpijnbmpbhaaGreatDp
set_option linter.unusedVariables false
set_option linter.defProp false
set_option linter.unusedSimpArgs false
set_option maxRecDepth 40000
set_option maxHeartbeats 4000000
namespace Go.Vam
open Go.Proofs
theorem dev_V {m : List Int} (h : chV m = true) : brV ⟨37, ⟨29, 4, 16, 0⟩, ⟨(m.length : Nat), ⟨1, 1, 0, 0, 0⟩, List.replicate ((m.length : Int) * 13).toNat 0⟩, 0, 0⟩ = true := by
  have hl := chV_len h
  have hrl : (List.replicate ((m.length : Int) * 13).toNat (0 : Int)).length = 13 * m.length := by rw [List.length_replicate]; omega
  have hb : blkV (m.length : Nat) (List.replicate ((m.length : Int) * 13).toNat (0 : Int)) = true := blkV_mk (z := 13) (by omega) (by rw [hrl]; simp) (by decide) (by
    rw [List.all_eq_true]
    intro x hx
    rw [(List.mem_replicate.1 hx).2]
    decide)
  have hr : rsV ⟨(m.length : Nat), ⟨1, 1, 0, 0, 0⟩, List.replicate ((m.length : Int) * 13).toNat 0⟩ = true := by
    unfold rsV
    rw [hb]
    show (phV ⟨1, 1, 0, 0, 0⟩ && true) = true
    decide
  have hw : waN ⟨(m.length : Nat), ⟨1, 1, 0, 0, 0⟩, List.replicate ((m.length : Int) * 13).toNat 0⟩ = 13 := by
    unfold waN
    rw [if_pos hr]
    show (((List.replicate ((m.length : Int) * 13).toNat (0 : Int)).length / (m.length : Int).toNat : Nat) : Int) = 13
    rw [hrl, Int.toNat_natCast, Nat.mul_div_cancel _ (by omega)]
    rfl
  unfold brV
  simp only [hr, hw]
  show (true && ctV ⟨29, 4, 16, 0⟩ && decide ((1 : Int) ≤ 37) && decide ((37 : Int) ≤ 65536) && decide ((13 : Int) ≤ 37) && decide ((0 : Int) ≤ 0) && decide ((0 : Int) ≤ 0)) = true
  decide
theorem spec_steady  : Spec Tryz.prog 0 45 [] [] [] (.agg [.d (.list segL)]) [] [] := by
  refine sE (md := fun _ => 0) (L := []) [] 1 tabs_nil Tryz.func45 rfl rfl rfl ?_
  simp (maxSteps := 1000000) only [↓gPre, gPost, gCore, gDef, gSt, gS0, Nat.reduceShiftRight, Nat.reduceMod, ↓reduceIte, reduceCtorEq, Nat.reduceEqDiff, Nat.reduceLT, Nat.reduceLeDiff, Nat.reduceAdd, Nat.reduceMul, Int.reduceLE, Int.reduceLT, Int.reduceNeg, Int.reduceAdd, Int.reduceToNat, gE1, gE2, gE3, Tryz.ntmps45, Tryz.results45, gTT]
  rfl
def E_steady : List V → Boxes → Toks → Name → Option Ent
  | [], [], [], _ => some ⟨True, .agg [.d (.list segL)], [], []⟩
  | _, _, _, _ => none
def E_steady_eq := And.intro (@E_steady.eq_1) (@E_steady.eq_1)
theorem E_steady_ok : Snd Tryz.prog 45 E_steady := by
  intro vs b k n e h hn hp
  unfold E_steady at h
  split at h
  · cases h; exact (spec_steady ).lift rfl _
  · cases h
theorem spec_opened (dd : Int) (mp : List Int) (hd : dd = 1 ∨ dd = 2) (hc : chV mp = true) : Spec Tryz.prog 0 9 [vI .i64 dd, vL (LI .i64 mp)] [] [] (.tup [.agg [.int .u64 7, .str dacS, .int .i64 dd, .int .i64 0, .int .i64 0, .int .i64 0, .int .i64 0, .list (boxL mp), .int .i64 2, .int .i64 48000, .list (LI .i64 mp), .int .i64 48000, .int .i64 48000, .int .i64 16, .list segL, .bool true, .int .i64 0, .int .i64 ((bnR (mp.length : Nat) 1 1 ⟨29, 4, 16, 0⟩ 37 13)).q, .int .i64 ((bnR (mp.length : Nat) 1 1 ⟨29, 4, 16, 0⟩ 37 13)).c.t, .int .i64 ((bnR (mp.length : Nat) 1 1 ⟨29, 4, 16, 0⟩ 37 13)).c.d, .int .i64 ((bnR (mp.length : Nat) 1 1 ⟨29, 4, 16, 0⟩ 37 13)).c.g, .int .i64 ((bnR (mp.length : Nat) 1 1 ⟨29, 4, 16, 0⟩ 37 13)).c.m, .int .i64 ((bnR (mp.length : Nat) 1 1 ⟨29, 4, 16, 0⟩ 37 13)).r.c, .int .i64 ((bnR (mp.length : Nat) 1 1 ⟨29, 4, 16, 0⟩ 37 13)).r.p.n, .int .i64 ((bnR (mp.length : Nat) 1 1 ⟨29, 4, 16, 0⟩ 37 13)).r.p.d, .int .i64 ((bnR (mp.length : Nat) 1 1 ⟨29, 4, 16, 0⟩ 37 13)).r.p.a, .int .i64 ((bnR (mp.length : Nat) 1 1 ⟨29, 4, 16, 0⟩ 37 13)).r.p.p, .int .i64 ((bnR (mp.length : Nat) 1 1 ⟨29, 4, 16, 0⟩ 37 13)).r.p.f, .list (LI .i32 ((bnR (mp.length : Nat) 1 1 ⟨29, 4, 16, 0⟩ 37 13)).r.l), .int .i64 ((bnR (mp.length : Nat) 1 1 ⟨29, 4, 16, 0⟩ 37 13)).lo, .int .i64 ((bnR (mp.length : Nat) 1 1 ⟨29, 4, 16, 0⟩ 37 13)).mi], .bool true]) [] [] := by
  refine spec_of_E (X := ⟨Tryz.prog, tt, Tryz.f9.ntmps, 1, fun _ => 0, (tab [(45, E_steady), (44, E_dvopen), (46, E_dvstart)])⟩) (M := [(3, [0, 0, 0, 0, 0, 1883244531, 0, 0, 0, 0, 0, 0])]) (m := 2035) rfl rfl ⟨tt_ok, tab_ok (tabs_cons E_steady_ok (tabs_cons E_dvopen_ok (tabs_cons E_dvstart_ok tabs_nil))) _ rfl rfl⟩ tt_mixed Tryz.func9 rfl (by decide) (by show (2 : Nat) ≤ _; exact Nat.le_of_ble_eq_true rfl) ⟨by simp [V.has, C.has, cvtC_eq], by simp [C.has], by simp⟩ ?_
  simp (maxSteps := 1000000) only [↓gPre, gPost, gCore, gDef, gSt, gS0, Nat.reduceShiftRight, Nat.reduceMod, ↓reduceIte, reduceCtorEq, Nat.reduceEqDiff, Nat.reduceLT, Nat.reduceLeDiff, Nat.reduceAdd, Nat.reduceMul, Int.reduceLE, Int.reduceLT, Int.reduceNeg, Int.reduceAdd, Int.reduceToNat, E_steady_eq, E_dvopen_eq, E_dvstart_eq, gE1, gE2, gE3, Tryz.ntmps9, Tryz.results9, gTT]
  have hds : dsOK dacS dd 0 0 0 0 := ⟨rfl, hd, rfl, rfl, rfl, rfl⟩
  have hdv : dvOK (boxL mp) 2 48000 mp 48000 48000 16 segL := ⟨rfl, hc, rfl, rfl, rfl, rfl, rfl, rfl⟩
  have hlen := chV_len hc
  have hR := (bn_dev hc).2
  refine ⟨by kernel_rfl, ⟨hds, hdv⟩, ⟨hds, hdv, by rw [hR]; exact dev_V hc, ?_, by rw [hR], by rw [hR], by rw [hR]⟩, rfl⟩
  rw [hR]
  show (List.replicate _ 0).length ≤ _
  rw [List.length_replicate]
  omega
def E_opened : List V → Boxes → Toks → Name → Option Ent
  | [.c (.d (.int .i64 dd)), .c (.d (.list q_mp))], [], [], _ => some ⟨(dd = 1 ∨ dd = 2) ∧ chV (ints q_mp) = true ∧ q_mp = LI .i64 (ints q_mp), .tup [.agg [.int .u64 7, .str dacS, .int .i64 dd, .int .i64 0, .int .i64 0, .int .i64 0, .int .i64 0, .list (boxL (ints q_mp)), .int .i64 2, .int .i64 48000, .list (LI .i64 (ints q_mp)), .int .i64 48000, .int .i64 48000, .int .i64 16, .list segL, .bool true, .int .i64 0, .int .i64 ((bnR ((ints q_mp).length : Nat) 1 1 ⟨29, 4, 16, 0⟩ 37 13)).q, .int .i64 ((bnR ((ints q_mp).length : Nat) 1 1 ⟨29, 4, 16, 0⟩ 37 13)).c.t, .int .i64 ((bnR ((ints q_mp).length : Nat) 1 1 ⟨29, 4, 16, 0⟩ 37 13)).c.d, .int .i64 ((bnR ((ints q_mp).length : Nat) 1 1 ⟨29, 4, 16, 0⟩ 37 13)).c.g, .int .i64 ((bnR ((ints q_mp).length : Nat) 1 1 ⟨29, 4, 16, 0⟩ 37 13)).c.m, .int .i64 ((bnR ((ints q_mp).length : Nat) 1 1 ⟨29, 4, 16, 0⟩ 37 13)).r.c, .int .i64 ((bnR ((ints q_mp).length : Nat) 1 1 ⟨29, 4, 16, 0⟩ 37 13)).r.p.n, .int .i64 ((bnR ((ints q_mp).length : Nat) 1 1 ⟨29, 4, 16, 0⟩ 37 13)).r.p.d, .int .i64 ((bnR ((ints q_mp).length : Nat) 1 1 ⟨29, 4, 16, 0⟩ 37 13)).r.p.a, .int .i64 ((bnR ((ints q_mp).length : Nat) 1 1 ⟨29, 4, 16, 0⟩ 37 13)).r.p.p, .int .i64 ((bnR ((ints q_mp).length : Nat) 1 1 ⟨29, 4, 16, 0⟩ 37 13)).r.p.f, .list (LI .i32 ((bnR ((ints q_mp).length : Nat) 1 1 ⟨29, 4, 16, 0⟩ 37 13)).r.l), .int .i64 ((bnR ((ints q_mp).length : Nat) 1 1 ⟨29, 4, 16, 0⟩ 37 13)).lo, .int .i64 ((bnR ((ints q_mp).length : Nat) 1 1 ⟨29, 4, 16, 0⟩ 37 13)).mi], .bool true], [], []⟩
  | _, _, _, _ => none
def E_opened_eq := And.intro (@E_opened.eq_1) (@E_opened.eq_1)
theorem E_opened_ok : Snd Tryz.prog 9 E_opened := by
  intro vs b k n e h hn hp
  unfold E_opened at h
  split at h
  · cases h; obtain ⟨hp0, hp1, hq0⟩ := hp; obtain ⟨_, rfl⟩ := LI_ex hq0; simp only [ints_LI, bys_LB, blks_LK, lls_LL] at hp0 hp1 ⊢; exact (spec_opened _ _ hp0 hp1).lift rfl _
  · cases h
end Go.Vam
