/- A part of the proof. Conditions: none. -/
import Derived.Test.YtmpbpijnbmpbhaaGreatWh
set_option linter.unusedVariables false
set_option linter.defProp false
set_option linter.unusedSimpArgs false
set_option maxRecDepth 40000
set_option maxHeartbeats 4000000
namespace Go.Vam
open Go.Proofs
theorem ph_eta (x : Ph) : (⟨x.n, x.d, x.a, x.p, x.f⟩ : Ph) = x := rfl
theorem rs_eta (x : Rs) : (⟨x.c, x.p, x.l⟩ : Rs) = x := rfl
structure Sm where
  di : Int
  st : Int
  q : Int
  s0 : Int
  r : Rs
  g : Rg
  wr : Int
  pl : Int
  mi : Int
def sm0 : Sm := ⟨0, 0, 0, 0, rs0, rg0, 0, 0, 0⟩
def smD (x : Sm) : List D := [.int .i64 (x).di, .int .i64 (x).st, .int .i64 (x).q, .int .i64 (x).s0, .int .i64 (x).r.c, .int .i64 (x).r.p.n, .int .i64 (x).r.p.d, .int .i64 (x).r.p.a, .int .i64 (x).r.p.p, .int .i64 (x).r.p.f, .list (LI .i32 (x).r.l), .int .i64 (x).g.c, .int .i64 (x).g.q, .int .i64 (x).g.w, .int .i64 (x).g.r, .list (LI .i32 (x).g.l), .int .i64 (x).wr, .int .i64 (x).pl, .int .i64 (x).mi]
theorem smD_eq (x : Sm) : smD x = [.int .i64 (x).di, .int .i64 (x).st, .int .i64 (x).q, .int .i64 (x).s0, .int .i64 (x).r.c, .int .i64 (x).r.p.n, .int .i64 (x).r.p.d, .int .i64 (x).r.p.a, .int .i64 (x).r.p.p, .int .i64 (x).r.p.f, .list (LI .i32 (x).r.l), .int .i64 (x).g.c, .int .i64 (x).g.q, .int .i64 (x).g.w, .int .i64 (x).g.r, .list (LI .i32 (x).g.l), .int .i64 (x).wr, .int .i64 (x).pl, .int .i64 (x).mi] := Eq.trans rfl rfl
def smC (x : Sm) : List C := [.d (.int .i64 (x).di), .d (.int .i64 (x).st), .d (.int .i64 (x).q), .d (.int .i64 (x).s0), .d (.int .i64 (x).r.c), .d (.int .i64 (x).r.p.n), .d (.int .i64 (x).r.p.d), .d (.int .i64 (x).r.p.a), .d (.int .i64 (x).r.p.p), .d (.int .i64 (x).r.p.f), .d (.list (LI .i32 (x).r.l)), .d (.int .i64 (x).g.c), .d (.int .i64 (x).g.q), .d (.int .i64 (x).g.w), .d (.int .i64 (x).g.r), .d (.list (LI .i32 (x).g.l)), .d (.int .i64 (x).wr), .d (.int .i64 (x).pl), .d (.int .i64 (x).mi)]
theorem smC_eq (x : Sm) : smC x = [.d (.int .i64 (x).di), .d (.int .i64 (x).st), .d (.int .i64 (x).q), .d (.int .i64 (x).s0), .d (.int .i64 (x).r.c), .d (.int .i64 (x).r.p.n), .d (.int .i64 (x).r.p.d), .d (.int .i64 (x).r.p.a), .d (.int .i64 (x).r.p.p), .d (.int .i64 (x).r.p.f), .d (.list (LI .i32 (x).r.l)), .d (.int .i64 (x).g.c), .d (.int .i64 (x).g.q), .d (.int .i64 (x).g.w), .d (.int .i64 (x).g.r), .d (.list (LI .i32 (x).g.l)), .d (.int .i64 (x).wr), .d (.int .i64 (x).pl), .d (.int .i64 (x).mi)] := Eq.trans rfl rfl
theorem sm_eta (x : Sm) : (⟨x.di, x.st, x.q, x.s0, x.r, x.g, x.wr, x.pl, x.mi⟩ : Sm) = x := rfl
theorem waN_V {x : Rs} (h : rsV x = true) (hl : x.l.length ≤ 1000000) : waN x = ((x.l.length / x.c.toNat : Nat) : Int) ∧ 0 ≤ waN x ∧ waN x ≤ 65536 := by
  obtain ⟨⟨k1, k2⟩, k3, k4, k5⟩ := blk_in (rsV_in h).2 hl
  have e : waN x = ((x.l.length / x.c.toNat : Nat) : Int) := if_pos h
  rw [e]
  exact ⟨rfl, Int.natCast_nonneg _, Int.ofNat_le.2 k4⟩
def noG (x : Rg) : Bool := x.c == 0 && x.q == 0 && x.w == 0 && x.r == 0 && (x.l.length == 0)
def smB (x : Sm) : Bool := decide (1 ≤ x.st) && decide (x.st ≤ 7) && decide (1 ≤ x.q) && decide (x.q ≤ 65536) && decide (0 ≤ x.s0) && decide (x.s0 ≤ x.q) && rsV x.r && (x.r.p.a == 0) && decide (0 ≤ x.wr) && decide (0 ≤ x.pl) && decide (0 ≤ x.mi)
def smV (x : Sm) : Bool := smB x && (if x.di = 1 then decide (waN x.r ≤ x.q) && noG x.g else if x.di = 2 then rgV x.g && (x.g.q == x.q) && (x.g.c == x.r.c) else false)
theorem smB_in {x : Sm} (h : smB x = true) : (1 ≤ x.st ∧ x.st ≤ 7) ∧ (1 ≤ x.q ∧ x.q ≤ 65536) ∧ (0 ≤ x.s0 ∧ x.s0 ≤ x.q) ∧ rsV x.r = true ∧ x.r.p.a = 0 ∧ 0 ≤ x.wr ∧ 0 ≤ x.pl ∧ 0 ≤ x.mi := by
  simp only [smB, Bool.and_eq_true, decide_eq_true_eq, beq_iff_eq] at h
  obtain ⟨⟨⟨⟨⟨⟨⟨⟨⟨⟨h1, h2⟩, h3⟩, h4⟩, h5⟩, h6⟩, h7⟩, h8⟩, h9⟩, h10⟩, h11⟩ := h
  exact ⟨⟨h1, h2⟩, ⟨h3, h4⟩, ⟨h5, h6⟩, h7, h8, h9, h10, h11⟩
theorem smV_in {x : Sm} (h : smV x = true) : smB x = true ∧ ((x.di = 1 ∧ waN x.r ≤ x.q ∧ noG x.g = true) ∨ (x.di = 2 ∧ rgV x.g = true ∧ x.g.q = x.q ∧ x.g.c = x.r.c)) := by
  unfold smV at h
  rw [Bool.and_eq_true] at h
  obtain ⟨h1, h2⟩ := h
  refine ⟨h1, ?_⟩
  split at h2
  · rename_i hd
    simp only [Bool.and_eq_true, decide_eq_true_eq] at h2
    exact .inl ⟨hd, h2.1, h2.2⟩
  · split at h2
    · rename_i hd
      simp only [Bool.and_eq_true, beq_iff_eq] at h2
      exact .inr ⟨hd, h2.1.1, h2.1.2, h2.2⟩
    · cases h2
theorem sm_no {x : Sm} (h : smV x = true → False) : smV x = false := by
  cases e : smV x with
  | false => rfl
  | true => exact (h e).elim
theorem arm {P : Bool} {A T R : Prop} (h1 : P = true → A) (h2 : P = false → R) : (P = true → (P = true → A) ∧ (P = false → T)) ∧ (P = false → R) := ⟨fun h => ⟨h1, fun h' => by rw [h] at h'; cases h'⟩, h2⟩
theorem arm_not {P : Bool} {A T R : Prop} (h1 : P = false → A) (h2 : (!P) = false → R) : (P = false → (P = false → A) ∧ ((!P) = false → T)) ∧ ((!P) = false → R) := ⟨fun h => ⟨h1, fun h' => by rw [h] at h'; cases h'⟩, h2⟩
def idxN : List Int → Int → Nat → Int
  | [], _, _ => -1
  | y :: ys, x, i => if x = y then (i : Int) else idxN ys x (i + 1)
theorem idx_at (x : Int) : ∀ (m : List Int) (i g : Nat), (∀ j, j < g → m[j]?.getD 0 ≠ x) → g ≤ m.length → idxN m x i = idxN (m.drop g) x (i + g)
  | m, i, 0, _, _ => by simp
  | [], i, g + 1, _, hg => absurd hg (Nat.not_succ_le_zero _)
  | y :: ys, i, g + 1, h, hg => by
    have h0 := h 0 (Nat.succ_pos _)
    have hne : ¬ x = y := fun e => h0 (by simp [e])
    rw [idxN, if_neg hne, idx_at x ys (i + 1) g (fun j hj => by simpa using h (j + 1) (by omega)) (by simpa using hg)]
    congr 1
    omega
def smR (x : Sm) : Bool := smV x && (x.di == 2)
def smN (x : Sm) : Int := if smV x = false then 0 else if x.di = 2 then rgN x.g else waN x.r
def swN (k : Int) (y : List Int) : Int := ((y.length / k.toNat : Nat) : Int)
def srE (x : Sm) (i : Int) : Int := if smR x = false then 1 else if (decide (i < 0) || decide (65536 < i)) = true then 2 else if x.st = 7 then 9 else 0
def srN (x : Sm) (i : Int) : Int := min i (smN x)
def srC (x : Sm) (i : Int) : Int := if srE x i = 0 then rdC x.g (srN x i) else 0
def srO (x : Sm) (i : Int) : List Int := if srE x i = 0 then rdO x.g (srN x i) else []
def srR (x : Sm) (i : Int) : Sm := if srE x i = 0 then ⟨x.di, x.st, x.q, x.s0, x.r, rdR x.g (srN x i), IntKind.i64.wrap (x.wr + srN x i), x.pl, x.mi⟩ else sm0
def smE (x : Sm) : Sm := ⟨x.di, x.st, x.q, x.s0, nwR x.r.c x.r.p.n x.r.p.d, if x.di = 2 then rcL x.g else x.g, x.wr, x.pl, x.mi⟩
def snS (di ch n d q s0 : Int) : Sm := ⟨di, 1, q, s0, nwR ch n d, if di = 2 then rnR ch q else rg0, 0, 0, 0⟩
def snE (di ch n d q s0 : Int) : Int := if smV (snS di ch n d q s0) = true then 0 else 1
def snR (di ch n d q s0 : Int) : Sm := if smV (snS di ch n d q s0) = true then snS di ch n d q s0 else sm0
theorem spec_sindex (m : List Int) (x : Int) (hm : m.length ≤ 1000) : Spec Tryz.prog 0 129 [vL (LI .i64 m), vI .i64 x] [] [] (vI .i64 (idxN m x 0)) [] [] := by
  refine spec_of_E (X := ⟨Tryz.prog, tt, Tryz.f129.ntmps, 1, fun _ => 0, (tab [])⟩) (M := []) (m := 66483) rfl rfl ⟨tt_ok, tab_ok tabs_nil _ rfl rfl⟩ tt_mixed Tryz.func129 rfl (by decide) (by show (2 : Nat) ≤ _; exact Nat.le_of_ble_eq_true rfl) ⟨by simp [V.has, C.has, smC_eq], by simp [C.has], by simp⟩ ?_
  simp (maxSteps := 1000000) only [↓gPre, gPost, gCore, gDef, gSt, gS0, Nat.reduceShiftRight, Nat.reduceMod, ↓reduceIte, reduceCtorEq, Nat.reduceEqDiff, Nat.reduceLT, Nat.reduceLeDiff, Nat.reduceAdd, Nat.reduceMul, Int.reduceLE, Int.reduceLT, Int.reduceNeg, Int.reduceAdd, Int.reduceToNat, rg_eta, sm_eta, ph_eta, rs_eta, smD_eq, smC_eq, Tryz.ntmps129, Tryz.results129, gTT]
  refine ELoop_keep (fun g => ⟨[(8, vI .i64 (g : Nat))], [], []⟩) (fun g => g ≤ m.length ∧ ∀ j, j < g → m[j]?.getD 0 ≠ x) (fun g => m.length - g) (· + 1) 0 ⟨Nat.zero_le _, fun j hj => absurd hj (Nat.not_lt_zero _)⟩ ?_ ?_
  · simp (maxSteps := 1000000) only [↓gPre, gPost, gCore, gDef, gSt, gS0, Nat.reduceShiftRight, Nat.reduceMod, ↓reduceIte, reduceCtorEq, Nat.reduceEqDiff, Nat.reduceLT, Nat.reduceLeDiff, Nat.reduceAdd, Nat.reduceMul, Int.reduceLE, Int.reduceLT, Int.reduceNeg, Int.reduceAdd, Int.reduceToNat, rg_eta, sm_eta, ph_eta, rs_eta, smD_eq, smC_eq, Tryz.ntmps129, Tryz.results129, gTT]
    rfl
  rintro g ⟨hg, hin⟩
  simp (maxSteps := 1000000) only [↓gPre, gPost, gCore, gDef, gSt, gS0, Nat.reduceShiftRight, Nat.reduceMod, ↓reduceIte, reduceCtorEq, Nat.reduceEqDiff, Nat.reduceLT, Nat.reduceLeDiff, Nat.reduceAdd, Nat.reduceMul, Int.reduceLE, Int.reduceLT, Int.reduceNeg, Int.reduceAdd, Int.reduceToNat, rg_eta, sm_eta, ph_eta, rs_eta, smD_eq, smC_eq, Tryz.ntmps129, Tryz.results129, gTT]
  have hix := idx_at x m 0 g hin hg
  rw [Nat.zero_add] at hix
  refine ⟨fun h1 => ?_, fun h1 => ?_⟩
  · have hlt : g < m.length := by have := of_decide_eq_true h1; omega
    have hgx : m[g]?.getD 0 = m[g] := by rw [List.getElem?_eq_getElem hlt]; rfl
    rw [hgx]
    refine ⟨⟨by omega, by omega⟩, fun h2 => ?_, fun h2 => ⟨(wrapN _ (by omega)).symm, ⟨by omega, fun j hj => ?_⟩, by omega⟩⟩
    · rw [hix, List.drop_eq_getElem_cons hlt, idxN, if_pos (by simpa using h2)]
    · by_cases hj2 : j < g
      · exact hin j hj2
      · have : j = g := by omega
        subst this
        rw [hgx]
        intro e
        rw [e] at h2
        simp at h2
  · have : g = m.length := by have := of_decide_eq_false h1; omega
    subst this
    rw [hix, List.drop_length]
    rfl
def E_sindex : List V → Boxes → Toks → Name → Option Ent
  | [.c (.d (.list q_m)), .c (.d (.int .i64 x))], [], [], _ => some ⟨(ints q_m).length ≤ 1000 ∧ q_m = LI .i64 (ints q_m), vI .i64 (idxN (ints q_m) x 0), [], []⟩
  | _, _, _, _ => none
def E_sindex_eq := And.intro (@E_sindex.eq_1) (@E_sindex.eq_1)
theorem E_sindex_ok : Snd Tryz.prog 129 E_sindex := by
  intro vs b k n e h hn hp
  unfold E_sindex at h
  split at h
  · cases h; obtain ⟨hp0, hq0⟩ := hp; obtain ⟨_, rfl⟩ := LI_ex hq0; simp only [ints_LI, bys_LB, blks_LK, lls_LL] at hp0 ⊢; exact (spec_sindex _ _ hp0).lift rfl _
  · cases h
theorem spec_scontains (m : List Int) (x : Int) (hm : m.length ≤ 1000) : Spec Tryz.prog 0 51 [vL (LI .i64 m), vI .i64 x] [] [] (vB (decide (0 ≤ idxN m x 0))) [] [] := by
  refine spec_of_E (X := ⟨Tryz.prog, tt, Tryz.f51.ntmps, 1, fun _ => 0, (tab [(129, E_sindex)])⟩) (M := []) (m := 19) rfl rfl ⟨tt_ok, tab_ok (tabs_cons E_sindex_ok tabs_nil) _ rfl rfl⟩ tt_mixed Tryz.func51 rfl (by decide) (by show (2 : Nat) ≤ _; exact Nat.le_of_ble_eq_true rfl) ⟨by simp [V.has, C.has, smC_eq], by simp [C.has], by simp⟩ ?_
  simp (maxSteps := 1000000) only [↓gPre, gPost, gCore, gDef, gSt, gS0, Nat.reduceShiftRight, Nat.reduceMod, ↓reduceIte, reduceCtorEq, Nat.reduceEqDiff, Nat.reduceLT, Nat.reduceLeDiff, Nat.reduceAdd, Nat.reduceMul, Int.reduceLE, Int.reduceLT, Int.reduceNeg, Int.reduceAdd, Int.reduceToNat, E_sindex_eq, rg_eta, sm_eta, ph_eta, rs_eta, smD_eq, smC_eq, Tryz.ntmps51, Tryz.results51, gTT]
  exact hm
def E_scontains : List V → Boxes → Toks → Name → Option Ent
  | [.c (.d (.list q_m)), .c (.d (.int .i64 x))], [], [], _ => some ⟨(ints q_m).length ≤ 1000 ∧ q_m = LI .i64 (ints q_m), vB (decide (0 ≤ idxN (ints q_m) x 0)), [], []⟩
  | _, _, _, _ => none
def E_scontains_eq := And.intro (@E_scontains.eq_1) (@E_scontains.eq_1)
theorem E_scontains_ok : Snd Tryz.prog 51 E_scontains := by
  intro vs b k n e h hn hp
  unfold E_scontains at h
  split at h
  · cases h; obtain ⟨hp0, hq0⟩ := hp; obtain ⟨_, rfl⟩ := LI_ex hq0; simp only [ints_LI, bys_LB, blks_LK, lls_LL] at hp0 ⊢; exact (spec_scontains _ _ hp0).lift rfl _
  · cases h
theorem spec_sown (di st q s0 c n d a p f : Int) (l : List Int) (gc gq gw gr : Int) (gl : List Int) (wr pl mi : Int) (hl : l.length ≤ 1000000) (hg : gl.length ≤ 1000000) : Spec Tryz.prog 0 53 [.agg (smC ⟨di, st, q, s0, ⟨c, ⟨n, d, a, p, f⟩, l⟩, ⟨gc, gq, gw, gr, gl⟩, wr, pl, mi⟩)] [] [] (.agg [.d (.int .i64 di), .d (.int .i64 st), .d (.int .i64 q), .d (.int .i64 s0), .d (.int .i64 c), .d (.int .i64 n), .d (.int .i64 d), .d (.int .i64 a), .d (.int .i64 p), .d (.int .i64 f), .d (.list (LI .i32 l)), .d (.int .i64 gc), .d (.int .i64 gq), .d (.int .i64 gw), .d (.int .i64 gr), .d (.list (LI .i32 gl)), .d (.int .i64 wr), .d (.int .i64 pl), .d (.int .i64 mi)]) [] [] := by
  refine sE (md := fun _ => 0) (L := [(131, E_clone)]) [] 7 (tabs_cons E_clone_ok tabs_nil) Tryz.func53 rfl rfl rfl ?_
  simp (maxSteps := 1000000) only [↓gPre, gPost, gCore, gDef, gSt, gS0, Nat.reduceShiftRight, Nat.reduceMod, ↓reduceIte, reduceCtorEq, Nat.reduceEqDiff, Nat.reduceLT, Nat.reduceLeDiff, Nat.reduceAdd, Nat.reduceMul, Int.reduceLE, Int.reduceLT, Int.reduceNeg, Int.reduceAdd, Int.reduceToNat, E_clone_eq, rg_eta, sm_eta, ph_eta, rs_eta, smD_eq, smC_eq, Tryz.ntmps53, Tryz.results53, gTT]
  exact ⟨by omega, by omega⟩
def E_sown : List V → Boxes → Toks → Name → Option Ent
  | [.agg [.d (.int .i64 di), .d (.int .i64 st), .d (.int .i64 q), .d (.int .i64 s0), .d (.int .i64 c), .d (.int .i64 n), .d (.int .i64 d), .d (.int .i64 a), .d (.int .i64 p), .d (.int .i64 f), .d (.list q_l), .d (.int .i64 gc), .d (.int .i64 gq), .d (.int .i64 gw), .d (.int .i64 gr), .d (.list q_gl), .d (.int .i64 wr), .d (.int .i64 pl), .d (.int .i64 mi)]], [], [], _ => some ⟨(ints q_l).length ≤ 1000000 ∧ (ints q_gl).length ≤ 1000000 ∧ q_l = LI .i32 (ints q_l) ∧ q_gl = LI .i32 (ints q_gl), .agg [.d (.int .i64 di), .d (.int .i64 st), .d (.int .i64 q), .d (.int .i64 s0), .d (.int .i64 c), .d (.int .i64 n), .d (.int .i64 d), .d (.int .i64 a), .d (.int .i64 p), .d (.int .i64 f), .d (.list (LI .i32 (ints q_l))), .d (.int .i64 gc), .d (.int .i64 gq), .d (.int .i64 gw), .d (.int .i64 gr), .d (.list (LI .i32 (ints q_gl))), .d (.int .i64 wr), .d (.int .i64 pl), .d (.int .i64 mi)], [], []⟩
  | _, _, _, _ => none
def E_sown_eq := And.intro (@E_sown.eq_1) (@E_sown.eq_1)
theorem E_sown_ok : Snd Tryz.prog 53 E_sown := by
  intro vs b k n e h hn hp
  unfold E_sown at h
  split at h
  · cases h; obtain ⟨hp0, hp1, hq0, hq1⟩ := hp; obtain ⟨_, rfl⟩ := LI_ex hq0; obtain ⟨_, rfl⟩ := LI_ex hq1; simp only [ints_LI, bys_LB, blks_LK, lls_LL] at hp0 hp1 ⊢; exact (spec_sown _ _ _ _ _ _ _ _ _ _ _ _ _ _ _ _ _ _ _ hp0 hp1).lift rfl _
  · cases h
theorem spec_sunused (c q w r : Int) (l : List Int) : Spec Tryz.prog 0 125 [.agg [.d (.int .i64 c), .d (.int .i64 q), .d (.int .i64 w), .d (.int .i64 r), .d (.list (LI .i32 l))]] [] [] (vB (noG ⟨c, q, w, r, l⟩)) [] [] := by
  refine sE (md := fun _ => 0) (L := []) [(1, [0, 0, 0, 0, 0, 134217543, 0, 0, 0, 0, 0, 134203399, 0, 0, 0, 0, 0, 133169159, 0, 0, 0, 0, 0, 67108871, 0])] 7 tabs_nil Tryz.func125 rfl rfl rfl ?_
  simp (maxSteps := 1000000) only [↓gPre, gPost, gCore, gDef, gSt, gS0, Nat.reduceShiftRight, Nat.reduceMod, ↓reduceIte, reduceCtorEq, Nat.reduceEqDiff, Nat.reduceLT, Nat.reduceLeDiff, Nat.reduceAdd, Nat.reduceMul, Int.reduceLE, Int.reduceLT, Int.reduceNeg, Int.reduceAdd, Int.reduceToNat, rg_eta, sm_eta, ph_eta, rs_eta, smD_eq, smC_eq, Tryz.ntmps125, Tryz.results125, gTT]
  unfold noG
  cases l <;> simp
  omega
def E_sunused : List V → Boxes → Toks → Name → Option Ent
  | [.agg [.d (.int .i64 c), .d (.int .i64 q), .d (.int .i64 w), .d (.int .i64 r), .d (.list q_l)]], [], [], _ => some ⟨q_l = LI .i32 (ints q_l), vB (noG ⟨c, q, w, r, (ints q_l)⟩), [], []⟩
  | _, _, _, _ => none
def E_sunused_eq := And.intro (@E_sunused.eq_1) (@E_sunused.eq_1)
theorem E_sunused_ok : Snd Tryz.prog 125 E_sunused := by
  intro vs b k n e h hn hp
  unfold E_sunused at h
  split at h
  · cases h; have hq0 := hp; obtain ⟨_, rfl⟩ := LI_ex hq0; simp only [ints_LI, bys_LB, blks_LK, lls_LL]; exact (spec_sunused _ _ _ _ _).lift rfl _
  · cases h
theorem spec_svalid (di st q s0 c n d a p f : Int) (l : List Int) (gc gq gw gr : Int) (gl : List Int) (wr pl mi : Int) (hl : l.length ≤ 1000000) (hg : gl.length ≤ 1000000) : Spec Tryz.prog 0 49 [.agg (smC ⟨di, st, q, s0, ⟨c, ⟨n, d, a, p, f⟩, l⟩, ⟨gc, gq, gw, gr, gl⟩, wr, pl, mi⟩)] [] [] (vB (smV ⟨di, st, q, s0, ⟨c, ⟨n, d, a, p, f⟩, l⟩, ⟨gc, gq, gw, gr, gl⟩, wr, pl, mi⟩)) [] [] := by
  refine sE (md := fun _ => 0) (L := [(123, E_rsvalid), (55, E_waiting), (125, E_sunused), (124, E_rgvalid)]) [(14, [0, 0, 0, 0, 0, 285982974384537615, 0, 0, 0, 0, 0, 0]), (16, [0, 0, 0, 0, 0, 2417796443116623343124495, 0, 0, 0, 0, 0, 2413129416865974826565647, 0, 0, 0, 0, 0, 2158121626791013985026063, 0, 0, 0])] 144119586122366991 (tabs_cons E_rsvalid_ok (tabs_cons E_waiting_ok (tabs_cons E_sunused_ok (tabs_cons E_rgvalid_ok tabs_nil)))) Tryz.func49 rfl rfl rfl ?_
  simp (maxSteps := 1000000) only [↓gPre, gPost, gCore, gDef, gSt, gS0, Nat.reduceShiftRight, Nat.reduceMod, ↓reduceIte, reduceCtorEq, Nat.reduceEqDiff, Nat.reduceLT, Nat.reduceLeDiff, Nat.reduceAdd, Nat.reduceMul, Int.reduceLE, Int.reduceLT, Int.reduceNeg, Int.reduceAdd, Int.reduceToNat, E_rsvalid_eq, E_waiting_eq, E_sunused_eq, E_rgvalid_eq, rg_eta, sm_eta, ph_eta, rs_eta, smD_eq, smC_eq, Tryz.ntmps49, Tryz.results49, gTT]
  have hd : ∀ {P : Prop} [Decidable P], decide P = true → P := fun h => of_decide_eq_true h
  refine arm (fun h => sm_no fun h1 => by have h2 := smB_in (smV_in h1).1; simp only at h2; have := of_decide_eq_true h; omega) (fun c0 => ?_)
  refine arm (fun h => sm_no fun h1 => by have h2 := smB_in (smV_in h1).1; simp only at h2; have := of_decide_eq_true h; omega) (fun c1 => ?_)
  refine arm (fun h => sm_no fun h1 => by have h2 := smB_in (smV_in h1).1; simp only at h2; have := of_decide_eq_true h; omega) (fun c2 => ?_)
  refine arm (fun h => sm_no fun h1 => by have h2 := smB_in (smV_in h1).1; simp only at h2; have := of_decide_eq_true h; omega) (fun c3 => ?_)
  refine arm (fun h => sm_no fun h1 => by have h2 := smB_in (smV_in h1).1; simp only at h2; have := of_decide_eq_true h; omega) (fun c4 => ?_)
  refine arm (fun h => sm_no fun h1 => by have h2 := smB_in (smV_in h1).1; simp only at h2; have := of_decide_eq_true h; omega) (fun c5 => ?_)
  refine ⟨hl, arm_not (fun h => sm_no fun h1 => by have h2 := smB_in (smV_in h1).1; simp only at h2; rw [h] at h2; exact absurd h2.2.2.2.1 (by decide)) (fun c6 => ?_)⟩
  refine arm (fun h => sm_no fun h1 => by have h2 := smB_in (smV_in h1).1; simp only at h2; exact absurd h2.2.2.2.2.1 (by simpa using h)) (fun c7 => ?_)
  refine arm (fun h => sm_no fun h1 => by have h2 := smB_in (smV_in h1).1; simp only at h2; have := of_decide_eq_true h; omega) (fun c8 => ?_)
  refine arm (fun h => sm_no fun h1 => by have h2 := smB_in (smV_in h1).1; simp only at h2; have := of_decide_eq_true h; omega) (fun c9 => ?_)
  refine ⟨fun h => sm_no fun h1 => by have h2 := smB_in (smV_in h1).1; simp only at h2; have := of_decide_eq_true h; omega, fun c10 => ?_⟩
  have hB : smB ⟨di, st, q, s0, ⟨c, ⟨n, d, a, p, f⟩, l⟩, ⟨gc, gq, gw, gr, gl⟩, wr, pl, mi⟩ = true := by
    simp only [decide_eq_false_iff_not] at c0 c1 c2 c3 c4 c5 c8 c9 c10
    simp only [smB, Bool.and_eq_true, decide_eq_true_eq, beq_iff_eq]
    exact ⟨⟨⟨⟨⟨⟨⟨⟨⟨⟨by omega, by omega⟩, by omega⟩, by omega⟩, by omega⟩, by omega⟩, by simpa using c6⟩, by simpa using c7⟩, by omega⟩, by omega⟩, by omega⟩
  refine ⟨fun h => ⟨by kernel_rfl, hl, ?_⟩, fun h => ⟨fun h2 => ⟨hg, ?_⟩, fun h2 => ?_⟩⟩
  · have hd : di = 1 := by simpa using h
    unfold smV
    rw [hB, if_pos hd]
    rfl
  · have hd : di = 2 := by simpa using h2
    have hd1 : ¬ di = 1 := by omega
    unfold smV
    rw [hB, if_neg hd1, if_pos hd]
    rfl
  · have hd : ¬ di = 2 := by simpa using h2
    have hd1 : ¬ di = 1 := by simpa using h
    unfold smV
    rw [hB, if_neg hd1, if_neg hd]
    rfl
def E_svalid : List V → Boxes → Toks → Name → Option Ent
  | [.agg [.d (.int .i64 di), .d (.int .i64 st), .d (.int .i64 q), .d (.int .i64 s0), .d (.int .i64 c), .d (.int .i64 n), .d (.int .i64 d), .d (.int .i64 a), .d (.int .i64 p), .d (.int .i64 f), .d (.list q_l), .d (.int .i64 gc), .d (.int .i64 gq), .d (.int .i64 gw), .d (.int .i64 gr), .d (.list q_gl), .d (.int .i64 wr), .d (.int .i64 pl), .d (.int .i64 mi)]], [], [], _ => some ⟨(ints q_l).length ≤ 1000000 ∧ (ints q_gl).length ≤ 1000000 ∧ q_l = LI .i32 (ints q_l) ∧ q_gl = LI .i32 (ints q_gl), vB (smV ⟨di, st, q, s0, ⟨c, ⟨n, d, a, p, f⟩, (ints q_l)⟩, ⟨gc, gq, gw, gr, (ints q_gl)⟩, wr, pl, mi⟩), [], []⟩
  | _, _, _, _ => none
def E_svalid_eq := And.intro (@E_svalid.eq_1) (@E_svalid.eq_1)
theorem E_svalid_ok : Snd Tryz.prog 49 E_svalid := by
  intro vs b k n e h hn hp
  unfold E_svalid at h
  split at h
  · cases h; obtain ⟨hp0, hp1, hq0, hq1⟩ := hp; obtain ⟨_, rfl⟩ := LI_ex hq0; obtain ⟨_, rfl⟩ := LI_ex hq1; simp only [ints_LI, bys_LB, blks_LK, lls_LL] at hp0 hp1 ⊢; exact (spec_svalid _ _ _ _ _ _ _ _ _ _ _ _ _ _ _ _ _ _ _ hp0 hp1).lift rfl _
  · cases h
theorem spec_sisd (di st q s0 c n d a p f : Int) (l : List Int) (gc gq gw gr : Int) (gl : List Int) (wr pl mi : Int) (x : Int) (hl : l.length ≤ 1000000) (hg : gl.length ≤ 1000000) : Spec Tryz.prog 0 61 [.agg (smC ⟨di, st, q, s0, ⟨c, ⟨n, d, a, p, f⟩, l⟩, ⟨gc, gq, gw, gr, gl⟩, wr, pl, mi⟩), vI .i64 x] [] [] (vB (smV ⟨di, st, q, s0, ⟨c, ⟨n, d, a, p, f⟩, l⟩, ⟨gc, gq, gw, gr, gl⟩, wr, pl, mi⟩ && (di == x))) [] [] := by
  refine sE (md := fun _ => 0) (L := [(49, E_svalid)]) [] 23 (tabs_cons E_svalid_ok tabs_nil) Tryz.func61 rfl rfl rfl ?_
  simp (maxSteps := 1000000) only [↓gPre, gPost, gCore, gDef, gSt, gS0, Nat.reduceShiftRight, Nat.reduceMod, ↓reduceIte, reduceCtorEq, Nat.reduceEqDiff, Nat.reduceLT, Nat.reduceLeDiff, Nat.reduceAdd, Nat.reduceMul, Int.reduceLE, Int.reduceLT, Int.reduceNeg, Int.reduceAdd, Int.reduceToNat, E_svalid_eq, rg_eta, sm_eta, ph_eta, rs_eta, smD_eq, smC_eq, Tryz.ntmps61, Tryz.results61, gTT]
  exact ⟨hl, hg⟩
def E_sisd : List V → Boxes → Toks → Name → Option Ent
  | [.agg [.d (.int .i64 di), .d (.int .i64 st), .d (.int .i64 q), .d (.int .i64 s0), .d (.int .i64 c), .d (.int .i64 n), .d (.int .i64 d), .d (.int .i64 a), .d (.int .i64 p), .d (.int .i64 f), .d (.list q_l), .d (.int .i64 gc), .d (.int .i64 gq), .d (.int .i64 gw), .d (.int .i64 gr), .d (.list q_gl), .d (.int .i64 wr), .d (.int .i64 pl), .d (.int .i64 mi)], .c (.d (.int .i64 x))], [], [], _ => some ⟨(ints q_l).length ≤ 1000000 ∧ (ints q_gl).length ≤ 1000000 ∧ q_l = LI .i32 (ints q_l) ∧ q_gl = LI .i32 (ints q_gl), vB (smV ⟨di, st, q, s0, ⟨c, ⟨n, d, a, p, f⟩, (ints q_l)⟩, ⟨gc, gq, gw, gr, (ints q_gl)⟩, wr, pl, mi⟩ && (di == x)), [], []⟩
  | _, _, _, _ => none
def E_sisd_eq := And.intro (@E_sisd.eq_1) (@E_sisd.eq_1)
theorem E_sisd_ok : Snd Tryz.prog 61 E_sisd := by
  intro vs b k n e h hn hp
  unfold E_sisd at h
  split at h
  · cases h; obtain ⟨hp0, hp1, hq0, hq1⟩ := hp; obtain ⟨_, rfl⟩ := LI_ex hq0; obtain ⟨_, rfl⟩ := LI_ex hq1; simp only [ints_LI, bys_LB, blks_LK, lls_LL] at hp0 hp1 ⊢; exact (spec_sisd _ _ _ _ _ _ _ _ _ _ _ _ _ _ _ _ _ _ _ _ hp0 hp1).lift rfl _
  · cases h
theorem spec_sbad (x : Int) : Spec Tryz.prog 0 65 [vI .i64 x] [] [] (vB (decide (x < 0) || decide (65536 < x))) [] [] := by
  refine sE (md := fun _ => 0) (L := []) [] 5 tabs_nil Tryz.func65 rfl rfl rfl ?_
  simp (maxSteps := 1000000) only [↓gPre, gPost, gCore, gDef, gSt, gS0, Nat.reduceShiftRight, Nat.reduceMod, ↓reduceIte, reduceCtorEq, Nat.reduceEqDiff, Nat.reduceLT, Nat.reduceLeDiff, Nat.reduceAdd, Nat.reduceMul, Int.reduceLE, Int.reduceLT, Int.reduceNeg, Int.reduceAdd, Int.reduceToNat, rg_eta, sm_eta, ph_eta, rs_eta, smD_eq, smC_eq, Tryz.ntmps65, Tryz.results65, gTT]
def E_sbad : List V → Boxes → Toks → Name → Option Ent
  | [.c (.d (.int .i64 x))], [], [], _ => some ⟨True, vB (decide (x < 0) || decide (65536 < x)), [], []⟩
  | _, _, _, _ => none
def E_sbad_eq := And.intro (@E_sbad.eq_1) (@E_sbad.eq_1)
theorem E_sbad_ok : Snd Tryz.prog 65 E_sbad := by
  intro vs b k n e h hn hp
  unfold E_sbad at h
  split at h
  · cases h; exact (spec_sbad _).lift rfl _
  · cases h
theorem spec_swaiting (di st q s0 c n d a p f : Int) (l : List Int) (gc gq gw gr : Int) (gl : List Int) (wr pl mi : Int) (hl : l.length ≤ 1000000) (hg : gl.length ≤ 1000000) : Spec Tryz.prog 0 52 [.agg (smC ⟨di, st, q, s0, ⟨c, ⟨n, d, a, p, f⟩, l⟩, ⟨gc, gq, gw, gr, gl⟩, wr, pl, mi⟩)] [] [] (vI .i64 (smN ⟨di, st, q, s0, ⟨c, ⟨n, d, a, p, f⟩, l⟩, ⟨gc, gq, gw, gr, gl⟩, wr, pl, mi⟩)) [] [] := by
  refine spec_of_E (X := ⟨Tryz.prog, tt, Tryz.f52.ntmps, 1, fun _ => 0, (tab [(49, E_svalid), (130, E_rgfill), (55, E_waiting)])⟩) (M := []) (m := 143) rfl rfl ⟨tt_ok, tab_ok (tabs_cons E_svalid_ok (tabs_cons E_rgfill_ok (tabs_cons E_waiting_ok tabs_nil))) _ rfl rfl⟩ tt_mixed Tryz.func52 rfl (by decide) (by show (1 : Nat) ≤ _; exact Nat.le_of_ble_eq_true rfl) ⟨by simp [V.has, C.has, smC_eq], by simp [C.has], by simp⟩ ?_
  simp (maxSteps := 1000000) only [↓gPre, gPost, gCore, gDef, gSt, gS0, Nat.reduceShiftRight, Nat.reduceMod, ↓reduceIte, reduceCtorEq, Nat.reduceEqDiff, Nat.reduceLT, Nat.reduceLeDiff, Nat.reduceAdd, Nat.reduceMul, Int.reduceLE, Int.reduceLT, Int.reduceNeg, Int.reduceAdd, Int.reduceToNat, E_svalid_eq, E_rgfill_eq, E_waiting_eq, rg_eta, sm_eta, ph_eta, rs_eta, smD_eq, smC_eq, Tryz.ntmps52, Tryz.results52, gTT]
  refine ⟨⟨hl, hg⟩, fun h => by simp [smN, h], fun h => ?_⟩
  have hv : smV ⟨di, st, q, s0, ⟨c, ⟨n, d, a, p, f⟩, l⟩, ⟨gc, gq, gw, gr, gl⟩, wr, pl, mi⟩ = true := by simpa using h
  refine ⟨fun h2 => ⟨hg, ?_⟩, fun h2 => ⟨hl, ?_⟩⟩
  · have hd : di = 2 := by simpa using h2
    unfold smN
    rw [if_neg (by rw [hv]; decide), if_pos hd]
  · have hd : ¬ di = 2 := by simpa using h2
    unfold smN
    rw [if_neg (by rw [hv]; decide), if_neg hd]
def E_swaiting : List V → Boxes → Toks → Name → Option Ent
  | [.agg [.d (.int .i64 di), .d (.int .i64 st), .d (.int .i64 q), .d (.int .i64 s0), .d (.int .i64 c), .d (.int .i64 n), .d (.int .i64 d), .d (.int .i64 a), .d (.int .i64 p), .d (.int .i64 f), .d (.list q_l), .d (.int .i64 gc), .d (.int .i64 gq), .d (.int .i64 gw), .d (.int .i64 gr), .d (.list q_gl), .d (.int .i64 wr), .d (.int .i64 pl), .d (.int .i64 mi)]], [], [], _ => some ⟨(ints q_l).length ≤ 1000000 ∧ (ints q_gl).length ≤ 1000000 ∧ q_l = LI .i32 (ints q_l) ∧ q_gl = LI .i32 (ints q_gl), vI .i64 (smN ⟨di, st, q, s0, ⟨c, ⟨n, d, a, p, f⟩, (ints q_l)⟩, ⟨gc, gq, gw, gr, (ints q_gl)⟩, wr, pl, mi⟩), [], []⟩
  | _, _, _, _ => none
def E_swaiting_eq := And.intro (@E_swaiting.eq_1) (@E_swaiting.eq_1)
theorem E_swaiting_ok : Snd Tryz.prog 52 E_swaiting := by
  intro vs b k n e h hn hp
  unfold E_swaiting at h
  split at h
  · cases h; obtain ⟨hp0, hp1, hq0, hq1⟩ := hp; obtain ⟨_, rfl⟩ := LI_ex hq0; obtain ⟨_, rfl⟩ := LI_ex hq1; simp only [ints_LI, bys_LB, blks_LK, lls_LL] at hp0 hp1 ⊢; exact (spec_swaiting _ _ _ _ _ _ _ _ _ _ _ _ _ _ _ _ _ _ _ hp0 hp1).lift rfl _
  · cases h
theorem spec_sread (di st q s0 c n d a p f : Int) (l : List Int) (gc gq gw gr : Int) (gl : List Int) (wr pl mi : Int) (i : Int) (hl : l.length ≤ 1000000) (hg : gl.length ≤ 1000000) : Spec Tryz.prog 0 17 [.agg (smC ⟨di, st, q, s0, ⟨c, ⟨n, d, a, p, f⟩, l⟩, ⟨gc, gq, gw, gr, gl⟩, wr, pl, mi⟩), vI .i64 i] [] [] (.tup [.agg [.int .i64 (srC ⟨di, st, q, s0, ⟨c, ⟨n, d, a, p, f⟩, l⟩, ⟨gc, gq, gw, gr, gl⟩, wr, pl, mi⟩ i), .list (LI .i32 (srO ⟨di, st, q, s0, ⟨c, ⟨n, d, a, p, f⟩, l⟩, ⟨gc, gq, gw, gr, gl⟩, wr, pl, mi⟩ i))], .agg (smD (srR ⟨di, st, q, s0, ⟨c, ⟨n, d, a, p, f⟩, l⟩, ⟨gc, gq, gw, gr, gl⟩, wr, pl, mi⟩ i)), .int .i64 (srE ⟨di, st, q, s0, ⟨c, ⟨n, d, a, p, f⟩, l⟩, ⟨gc, gq, gw, gr, gl⟩, wr, pl, mi⟩ i)]) [] [] := by
  refine sE (md := fun _ => 0) (L := [(61, E_sisd), (65, E_sbad), (52, E_swaiting), (66, E_rgread), (53, E_sown)]) [(8, [0, 0, 0, 0, 0, 2065883597559, 0, 0, 0, 0, 0, 1924149676791, 0, 0, 0])] 4328183 (tabs_cons E_sisd_ok (tabs_cons E_sbad_ok (tabs_cons E_swaiting_ok (tabs_cons E_rgread_ok (tabs_cons E_sown_ok tabs_nil))))) Tryz.func17 rfl rfl rfl ?_
  simp (maxSteps := 1000000) only [↓gPre, gPost, gCore, gDef, gSt, gS0, Nat.reduceShiftRight, Nat.reduceMod, ↓reduceIte, reduceCtorEq, Nat.reduceEqDiff, Nat.reduceLT, Nat.reduceLeDiff, Nat.reduceAdd, Nat.reduceMul, Int.reduceLE, Int.reduceLT, Int.reduceNeg, Int.reduceAdd, Int.reduceToNat, E_sisd_eq, E_sbad_eq, E_swaiting_eq, E_rgread_eq, E_sown_eq, rg_eta, sm_eta, ph_eta, rs_eta, smD_eq, smC_eq, Tryz.ntmps17, Tryz.results17, gTT]
  refine ⟨⟨hl, hg⟩, fun h => ?_, fun h => ⟨fun h2 => ?_, fun h2 => ⟨fun h3 => ?_, fun h3 => ⟨⟨hl, hg⟩, hg, ⟨hl, hg⟩, by kernel_rfl, ?_⟩⟩⟩⟩
  · have e : srE ⟨di, st, q, s0, ⟨c, ⟨n, d, a, p, f⟩, l⟩, ⟨gc, gq, gw, gr, gl⟩, wr, pl, mi⟩ i = 1 := by unfold srE smR; rw [if_pos h]
    simp [srC, srO, srR, e, sm0, rs0, rg0, LI_nil]
  · have hv : (smV ⟨di, st, q, s0, ⟨c, ⟨n, d, a, p, f⟩, l⟩, ⟨gc, gq, gw, gr, gl⟩, wr, pl, mi⟩ && (di == 2)) = true := by simpa using h
    have e : srE ⟨di, st, q, s0, ⟨c, ⟨n, d, a, p, f⟩, l⟩, ⟨gc, gq, gw, gr, gl⟩, wr, pl, mi⟩ i = 2 := by unfold srE smR; rw [if_neg (by rw [hv]; decide), if_pos h2]
    simp [srC, srO, srR, e, sm0, rs0, rg0, LI_nil]
  · have hv : (smV ⟨di, st, q, s0, ⟨c, ⟨n, d, a, p, f⟩, l⟩, ⟨gc, gq, gw, gr, gl⟩, wr, pl, mi⟩ && (di == 2)) = true := by simpa using h
    have hs7 : st = 7 := by simpa using h3
    have e : srE ⟨di, st, q, s0, ⟨c, ⟨n, d, a, p, f⟩, l⟩, ⟨gc, gq, gw, gr, gl⟩, wr, pl, mi⟩ i = 9 := by unfold srE smR; rw [if_neg (by rw [hv]; decide), if_neg (by rw [h2]; decide), if_pos hs7]
    simp [srC, srO, srR, e, sm0, rs0, rg0, LI_nil]
  have hv : (smV ⟨di, st, q, s0, ⟨c, ⟨n, d, a, p, f⟩, l⟩, ⟨gc, gq, gw, gr, gl⟩, wr, pl, mi⟩ && (di == 2)) = true := by simpa using h
  have hs7 : ¬ st = 7 := by simpa using h3
  have e : srE ⟨di, st, q, s0, ⟨c, ⟨n, d, a, p, f⟩, l⟩, ⟨gc, gq, gw, gr, gl⟩, wr, pl, mi⟩ i = 0 := by unfold srE smR; rw [if_neg (by rw [hv]; decide), if_neg (by rw [h2]; decide), if_neg hs7]
  have eK : (if smN ⟨di, st, q, s0, ⟨c, ⟨n, d, a, p, f⟩, l⟩, ⟨gc, gq, gw, gr, gl⟩, wr, pl, mi⟩ < i then smN ⟨di, st, q, s0, ⟨c, ⟨n, d, a, p, f⟩, l⟩, ⟨gc, gq, gw, gr, gl⟩, wr, pl, mi⟩ else i) = srN ⟨di, st, q, s0, ⟨c, ⟨n, d, a, p, f⟩, l⟩, ⟨gc, gq, gw, gr, gl⟩, wr, pl, mi⟩ i := by unfold srN; split <;> omega
  rw [eK]
  simp [srC, srO, srR, e]
def E_sread : List V → Boxes → Toks → Name → Option Ent
  | [.agg [.d (.int .i64 di), .d (.int .i64 st), .d (.int .i64 q), .d (.int .i64 s0), .d (.int .i64 c), .d (.int .i64 n), .d (.int .i64 d), .d (.int .i64 a), .d (.int .i64 p), .d (.int .i64 f), .d (.list q_l), .d (.int .i64 gc), .d (.int .i64 gq), .d (.int .i64 gw), .d (.int .i64 gr), .d (.list q_gl), .d (.int .i64 wr), .d (.int .i64 pl), .d (.int .i64 mi)], .c (.d (.int .i64 i))], [], [], _ => some ⟨(ints q_l).length ≤ 1000000 ∧ (ints q_gl).length ≤ 1000000 ∧ q_l = LI .i32 (ints q_l) ∧ q_gl = LI .i32 (ints q_gl), .tup [.agg [.int .i64 (srC ⟨di, st, q, s0, ⟨c, ⟨n, d, a, p, f⟩, (ints q_l)⟩, ⟨gc, gq, gw, gr, (ints q_gl)⟩, wr, pl, mi⟩ i), .list (LI .i32 (srO ⟨di, st, q, s0, ⟨c, ⟨n, d, a, p, f⟩, (ints q_l)⟩, ⟨gc, gq, gw, gr, (ints q_gl)⟩, wr, pl, mi⟩ i))], .agg (smD (srR ⟨di, st, q, s0, ⟨c, ⟨n, d, a, p, f⟩, (ints q_l)⟩, ⟨gc, gq, gw, gr, (ints q_gl)⟩, wr, pl, mi⟩ i)), .int .i64 (srE ⟨di, st, q, s0, ⟨c, ⟨n, d, a, p, f⟩, (ints q_l)⟩, ⟨gc, gq, gw, gr, (ints q_gl)⟩, wr, pl, mi⟩ i)], [], []⟩
  | _, _, _, _ => none
def E_sread_eq := And.intro (@E_sread.eq_1) (@E_sread.eq_1)
theorem E_sread_ok : Snd Tryz.prog 17 E_sread := by
  intro vs b k n e h hn hp
  unfold E_sread at h
  split at h
  · cases h; obtain ⟨hp0, hp1, hq0, hq1⟩ := hp; obtain ⟨_, rfl⟩ := LI_ex hq0; obtain ⟨_, rfl⟩ := LI_ex hq1; simp only [ints_LI, bys_LB, blks_LK, lls_LL] at hp0 hp1 ⊢; exact (spec_sread _ _ _ _ _ _ _ _ _ _ _ _ _ _ _ _ _ _ _ _ hp0 hp1).lift rfl _
  · cases h
theorem spec_sempty (di st q s0 c n d a p f : Int) (l : List Int) (gc gq gw gr : Int) (gl : List Int) (wr pl mi : Int) (hl : l.length ≤ 1000000) (hg : gl.length ≤ 1000000) : Spec Tryz.prog 0 199 [.agg (smC ⟨di, st, q, s0, ⟨c, ⟨n, d, a, p, f⟩, l⟩, ⟨gc, gq, gw, gr, gl⟩, wr, pl, mi⟩)] [] [] (.agg (smC (smE ⟨di, st, q, s0, ⟨c, ⟨n, d, a, p, f⟩, l⟩, ⟨gc, gq, gw, gr, gl⟩, wr, pl, mi⟩))) [] [] := by
  refine sE (md := fun _ => 0) (L := [(47, E_rsnew), (243, E_rgclear)]) [(1, [0, 0, 0, 0, 0, 155215, 0, 0, 0, 0, 0, 151559, 0])] 131079 (tabs_cons E_rsnew_ok (tabs_cons E_rgclear_ok tabs_nil)) Tryz.func199 rfl rfl rfl ?_
  simp (maxSteps := 1000000) only [↓gPre, gPost, gCore, gDef, gSt, gS0, Nat.reduceShiftRight, Nat.reduceMod, ↓reduceIte, reduceCtorEq, Nat.reduceEqDiff, Nat.reduceLT, Nat.reduceLeDiff, Nat.reduceAdd, Nat.reduceMul, Int.reduceLE, Int.reduceLT, Int.reduceNeg, Int.reduceAdd, Int.reduceToNat, E_rsnew_eq, E_rgclear_eq, rg_eta, sm_eta, ph_eta, rs_eta, smD_eq, smC_eq, Tryz.ntmps199, Tryz.results199, gTT]
  refine ⟨fun h => ?_, fun h => ?_⟩
  · have hd : di = 2 := by simpa using h
    simp [smE, hd, hg]
  · have hd : ¬ di = 2 := by simpa using h
    simp [smE, hd]
def E_sempty : List V → Boxes → Toks → Name → Option Ent
  | [.agg [.d (.int .i64 di), .d (.int .i64 st), .d (.int .i64 q), .d (.int .i64 s0), .d (.int .i64 c), .d (.int .i64 n), .d (.int .i64 d), .d (.int .i64 a), .d (.int .i64 p), .d (.int .i64 f), .d (.list q_l), .d (.int .i64 gc), .d (.int .i64 gq), .d (.int .i64 gw), .d (.int .i64 gr), .d (.list q_gl), .d (.int .i64 wr), .d (.int .i64 pl), .d (.int .i64 mi)]], [], [], _ => some ⟨(ints q_l).length ≤ 1000000 ∧ (ints q_gl).length ≤ 1000000 ∧ q_l = LI .i32 (ints q_l) ∧ q_gl = LI .i32 (ints q_gl), .agg (smC (smE ⟨di, st, q, s0, ⟨c, ⟨n, d, a, p, f⟩, (ints q_l)⟩, ⟨gc, gq, gw, gr, (ints q_gl)⟩, wr, pl, mi⟩)), [], []⟩
  | _, _, _, _ => none
def E_sempty_eq := And.intro (@E_sempty.eq_1) (@E_sempty.eq_1)
theorem E_sempty_ok : Snd Tryz.prog 199 E_sempty := by
  intro vs b k n e h hn hp
  unfold E_sempty at h
  split at h
  · cases h; obtain ⟨hp0, hp1, hq0, hq1⟩ := hp; obtain ⟨_, rfl⟩ := LI_ex hq0; obtain ⟨_, rfl⟩ := LI_ex hq1; simp only [ints_LI, bys_LB, blks_LK, lls_LL] at hp0 hp1 ⊢; exact (spec_sempty _ _ _ _ _ _ _ _ _ _ _ _ _ _ _ _ _ _ _ hp0 hp1).lift rfl _
  · cases h
theorem spec_snew (di ch n d q s0 : Int) : Spec Tryz.prog 0 10 [vI .i64 di, vI .i64 ch, .agg [.d (.int .i64 n), .d (.int .i64 d)], vI .i64 q, vI .i64 s0] [] [] (.tup [.agg (smD (snR di ch n d q s0)), .int .i64 (snE di ch n d q s0)]) [] [] := by
  refine sE (md := fun _ => 0) (L := [(47, E_rsnew), (48, E_rgnew), (49, E_svalid)]) [] 34393300127 (tabs_cons E_rsnew_ok (tabs_cons E_rgnew_ok (tabs_cons E_svalid_ok tabs_nil))) Tryz.func10 rfl rfl rfl ?_
  simp (maxSteps := 1000000) only [↓gPre, gPost, gCore, gDef, gSt, gS0, Nat.reduceShiftRight, Nat.reduceMod, ↓reduceIte, reduceCtorEq, Nat.reduceEqDiff, Nat.reduceLT, Nat.reduceLeDiff, Nat.reduceAdd, Nat.reduceMul, Int.reduceLE, Int.reduceLT, Int.reduceNeg, Int.reduceAdd, Int.reduceToNat, E_rsnew_eq, E_rgnew_eq, E_svalid_eq, rg_eta, sm_eta, ph_eta, rs_eta, smD_eq, smC_eq, Tryz.ntmps10, Tryz.results10, gTT]
  have hr : (nwR ch n d).l.length ≤ 1000000 := by
    unfold nwR
    split <;> exact Nat.zero_le _
  have hg : (rnR ch q).l.length ≤ 1000000 := by
    unfold rnR
    split <;> exact Nat.zero_le _
  refine ⟨fun h => ⟨⟨hr, hg⟩, fun h2 => ?_, fun h2 => ?_⟩, fun h => ⟨hr, fun h2 => ?_, fun h2 => ?_⟩⟩
  · have hd : di = 2 := by simpa using h
    have e : smV (snS di ch n d q s0) = false := by unfold snS; rw [if_pos hd]; exact h2
    simp [snR, snE, e, sm0, rs0, rg0, LI_nil]
  · have hd : di = 2 := by simpa using h
    have e : smV (snS di ch n d q s0) = true := by unfold snS; rw [if_pos hd]; simpa using h2
    unfold snR snE
    rw [if_pos e, if_pos e]
    unfold snS
    rw [if_pos hd]
  · have hd : ¬ di = 2 := by simpa using h
    have e : smV (snS di ch n d q s0) = false := by unfold snS; rw [if_neg hd]; exact h2
    simp [snR, snE, e, sm0, rs0, rg0, LI_nil]
  · have hd : ¬ di = 2 := by simpa using h
    have e : smV (snS di ch n d q s0) = true := by unfold snS; rw [if_neg hd]; simpa [rg0] using h2
    unfold snR snE
    rw [if_pos e, if_pos e]
    unfold snS
    rw [if_neg hd]
    rfl
def E_snew : List V → Boxes → Toks → Name → Option Ent
  | [.c (.d (.int .i64 di)), .c (.d (.int .i64 ch)), .agg [.d (.int .i64 n), .d (.int .i64 d)], .c (.d (.int .i64 q)), .c (.d (.int .i64 s0))], [], [], _ => some ⟨True, .tup [.agg (smD (snR di ch n d q s0)), .int .i64 (snE di ch n d q s0)], [], []⟩
  | _, _, _, _ => none
def E_snew_eq := And.intro (@E_snew.eq_1) (@E_snew.eq_1)
theorem E_snew_ok : Snd Tryz.prog 10 E_snew := by
  intro vs b k n e h hn hp
  unfold E_snew at h
  split at h
  · cases h; exact (spec_snew _ _ _ _ _ _).lift rfl _
  · cases h
end Go.Vam
