/- A part of the proof. Conditions: none. -/
import Derived.Test.YtmpbpijnbmpbhaaGreatDj
set_option linter.unusedVariables false
set_option linter.defProp false
set_option linter.unusedSimpArgs false
set_option maxRecDepth 40000
set_option maxHeartbeats 4000000
namespace Go.Vam
open Go.Proofs
theorem storeV_apA {ti : TI} {n : Name} {i off : Nat} {xv : V} (ha : ti.agg = true) : storeV ti (.c (.ap n i off)) xv = .getK n fun tk => .exD fun y => .need (tk.isArr = true ∧ tk.l[i]? = some y) (orFail xv.cells fun cs => orFail (C.toDs cs) fun ds =>
        if ds.length = ti.size ∧ off + ti.size ≤ y.cells.length then
          match y with
          | .agg ys => .ret { v := .tup [], k := [(n, ⟨true, tk.sz, tk.l.set i (.agg (lay ys off ds))⟩)] }
          | _ => match ds with
            | [d] => .need (d.cells.length = 1) (.ret { v := .tup [], k := [(n, ⟨true, tk.sz, tk.l.set i d⟩)] })
            | _ => .fail
        else .fail) := by
  have h : ¬ (ti.agg = false ∧ off = 0 ∧ ti.size = 1) := fun h => by rw [ha] at h; exact absurd h.1 (by decide)
  simp only [storeV, if_neg h]
  rfl
theorem spec_dvown (di : Int) (s : ByteArray) (dd dm dl dt dj : Int) (bx : List D) (ck cr : Int) (mp : List Int) (cz : Int) (ra pe : Int) (sg : List D) (ru : Bool) (si : Int) (q ct cd cg cm c n d a p f : Int) (l : List Int) (lo mi : Int) (hv : dvOK bx ck cr mp cz ra pe sg) (hl : l.length ≤ 1000000) : Spec Tryz.prog 0 59 [.agg [.d (.int .u64 di), .d (.str s), .d (.int .i64 dd), .d (.int .i64 dm), .d (.int .i64 dl), .d (.int .i64 dt), .d (.int .i64 dj), .d (.list bx), .d (.int .i64 ck), .d (.int .i64 cr), .d (.list (LI .i64 mp)), .d (.int .i64 cz), .d (.int .i64 ra), .d (.int .i64 pe), .d (.list sg), .d (.bool ru), .d (.int .i64 si), .d (.int .i64 q), .d (.int .i64 ct), .d (.int .i64 cd), .d (.int .i64 cg), .d (.int .i64 cm), .d (.int .i64 c), .d (.int .i64 n), .d (.int .i64 d), .d (.int .i64 a), .d (.int .i64 p), .d (.int .i64 f), .d (.list (LI .i32 l)), .d (.int .i64 lo), .d (.int .i64 mi)]] [] [] (.agg [.d (.int .u64 di), .d (.str s), .d (.int .i64 dd), .d (.int .i64 dm), .d (.int .i64 dl), .d (.int .i64 dt), .d (.int .i64 dj), .d (.list bx), .d (.int .i64 ck), .d (.int .i64 cr), .d (.list (LI .i64 mp)), .d (.int .i64 cz), .d (.int .i64 ra), .d (.int .i64 pe), .d (.list sg), .d (.bool ru), .d (.int .i64 si), .d (.int .i64 q), .d (.int .i64 ct), .d (.int .i64 cd), .d (.int .i64 cg), .d (.int .i64 cm), .d (.int .i64 c), .d (.int .i64 n), .d (.int .i64 d), .d (.int .i64 a), .d (.int .i64 p), .d (.int .i64 f), .d (.list (LI .i32 l)), .d (.int .i64 lo), .d (.int .i64 mi)]) [] [] := by
  refine sE (md := fun _ => 0) (L := [(135, E_cloneABx), (137, E_cloneAMp), (136, E_cloneSp), (139, E_cloneSg), (138, E_clone64), (131, E_clone)]) [(5, [0, 0, 0, 0, 0, 1032927113471, 0, 0, 0, 0, 0, 1032469934335, 0, 0]), (1000010, [6002]), (1000012, [3])] 1030792212735 (tabs_cons E_cloneABx_ok (tabs_cons E_cloneAMp_ok (tabs_cons E_cloneSp_ok (tabs_cons E_cloneSg_ok (tabs_cons E_clone64_ok (tabs_cons E_clone_ok tabs_nil)))))) Tryz.func59 rfl rfl rfl ?_
  have wi1 : IntKind.i64.wrap 1 = 1 := by decide
  obtain ⟨rfl, hch, rfl, rfl, rfl, rfl, rfl, rfl⟩ := hv
  unfold boxL boxD
  simp (maxSteps := 1000000) only [↓gPre, gPost, gCore, gDef, gSt, gS0, Nat.reduceShiftRight, Nat.reduceMod, ↓reduceIte, reduceCtorEq, Nat.reduceEqDiff, Nat.reduceLT, Nat.reduceLeDiff, Nat.reduceAdd, Nat.reduceMul, Int.reduceLE, Int.reduceLT, Int.reduceNeg, Int.reduceAdd, Int.reduceToNat, E_cloneABx_eq, E_cloneAMp_eq, E_cloneSp_eq, E_cloneSg_eq, E_clone64_eq, E_clone_eq, gE1, gE2, Int.natCast_zero, Int.natCast_one, Int.cast_ofNat_Int, Int.reduceSub, ERounds_succ, ERounds_zero, exists_eq_left', storeV_apA, wi1, Nat.reduceSub, Nat.reduceDiv, Tryz.ntmps59, Tryz.results59, gTT]
  refine ELoop_rounds 2 ?_
  simp (maxSteps := 1000000) only [↓gPre, gPost, gCore, gDef, gSt, gS0, Nat.reduceShiftRight, Nat.reduceMod, ↓reduceIte, reduceCtorEq, Nat.reduceEqDiff, Nat.reduceLT, Nat.reduceLeDiff, Nat.reduceAdd, Nat.reduceMul, Int.reduceLE, Int.reduceLT, Int.reduceNeg, Int.reduceAdd, Int.reduceToNat, E_cloneABx_eq, E_cloneAMp_eq, E_cloneSp_eq, E_cloneSg_eq, E_clone64_eq, E_clone_eq, gE1, gE2, Int.natCast_zero, Int.natCast_one, Int.cast_ofNat_Int, Int.reduceSub, ERounds_succ, ERounds_zero, exists_eq_left', storeV_apA, wi1, Nat.reduceSub, Nat.reduceDiv, Tryz.ntmps59, Tryz.results59, gTT]
  have hS : (∀ x : D, x ∈ spanL → x.cells.length = 2) ∧ spanL.length * 16 ≤ 140737488355328 ∧ spanL.length ≤ 1000000000 := ⟨by intro x hx; simp [spanL] at hx; subst hx; rfl, by decide, by decide⟩
  refine ⟨by kernel_rfl, hS, hS, ?_⟩
  refine ELoop_rounds 2 ?_
  simp (maxSteps := 1000000) only [↓gPre, gPost, gCore, gDef, gSt, gS0, Nat.reduceShiftRight, Nat.reduceMod, ↓reduceIte, reduceCtorEq, Nat.reduceEqDiff, Nat.reduceLT, Nat.reduceLeDiff, Nat.reduceAdd, Nat.reduceMul, Int.reduceLE, Int.reduceLT, Int.reduceNeg, Int.reduceAdd, Int.reduceToNat, E_cloneABx_eq, E_cloneAMp_eq, E_cloneSp_eq, E_cloneSg_eq, E_clone64_eq, E_clone_eq, gE1, gE2, Int.natCast_zero, Int.natCast_one, Int.cast_ofNat_Int, Int.reduceSub, ERounds_succ, ERounds_zero, exists_eq_left', storeV_apA, wi1, Nat.reduceSub, Nat.reduceDiv, Tryz.ntmps59, Tryz.results59, gTT]
  have hc := chV_len hch
  exact ⟨by kernel_rfl, by omega, by omega, ⟨by intro x hx; simp [segL] at hx; subst hx; rfl, by decide, by decide⟩, by first | omega | exact ⟨by omega, rfl⟩⟩
def E_dvown : List V → Boxes → Toks → Name → Option Ent
  | [.agg [.d (.int .u64 di), .d (.str s), .d (.int .i64 dd), .d (.int .i64 dm), .d (.int .i64 dl), .d (.int .i64 dt), .d (.int .i64 dj), .d (.list bx), .d (.int .i64 ck), .d (.int .i64 cr), .d (.list q_mp), .d (.int .i64 cz), .d (.int .i64 ra), .d (.int .i64 pe), .d (.list sg), .d (.bool ru), .d (.int .i64 si), .d (.int .i64 q), .d (.int .i64 ct), .d (.int .i64 cd), .d (.int .i64 cg), .d (.int .i64 cm), .d (.int .i64 c), .d (.int .i64 n), .d (.int .i64 d), .d (.int .i64 a), .d (.int .i64 p), .d (.int .i64 f), .d (.list q_l), .d (.int .i64 lo), .d (.int .i64 mi)]], [], [], _ => some ⟨dvOK bx ck cr (ints q_mp) cz ra pe sg ∧ (ints q_l).length ≤ 1000000 ∧ q_mp = LI .i64 (ints q_mp) ∧ q_l = LI .i32 (ints q_l), .agg [.d (.int .u64 di), .d (.str s), .d (.int .i64 dd), .d (.int .i64 dm), .d (.int .i64 dl), .d (.int .i64 dt), .d (.int .i64 dj), .d (.list bx), .d (.int .i64 ck), .d (.int .i64 cr), .d (.list (LI .i64 (ints q_mp))), .d (.int .i64 cz), .d (.int .i64 ra), .d (.int .i64 pe), .d (.list sg), .d (.bool ru), .d (.int .i64 si), .d (.int .i64 q), .d (.int .i64 ct), .d (.int .i64 cd), .d (.int .i64 cg), .d (.int .i64 cm), .d (.int .i64 c), .d (.int .i64 n), .d (.int .i64 d), .d (.int .i64 a), .d (.int .i64 p), .d (.int .i64 f), .d (.list (LI .i32 (ints q_l))), .d (.int .i64 lo), .d (.int .i64 mi)], [], []⟩
  | _, _, _, _ => none
def E_dvown_eq := And.intro (@E_dvown.eq_1) (@E_dvown.eq_1)
theorem E_dvown_ok : Snd Tryz.prog 59 E_dvown := by
  intro vs b k n e h hn hp
  unfold E_dvown at h
  split at h
  · cases h; obtain ⟨hp0, hp1, hq0, hq1⟩ := hp; obtain ⟨_, rfl⟩ := LI_ex hq0; obtain ⟨_, rfl⟩ := LI_ex hq1; simp only [ints_LI, bys_LB, blks_LK, lls_LL] at hp0 hp1 ⊢; exact (spec_dvown _ _ _ _ _ _ _ _ _ _ _ _ _ _ _ _ _ _ _ _ _ _ _ _ _ _ _ _ _ _ _ hp0 hp1).lift rfl _
  · cases h
end Go.Vam
