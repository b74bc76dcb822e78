/- A part of the proof. Conditions: none. -/
import Derived.Test.YtmpbpijnbmpbhaaGreatWd
set_option linter.unusedVariables false
set_option linter.defProp false
set_option linter.unusedSimpArgs false
set_option maxRecDepth 40000
set_option maxHeartbeats 4000000
namespace Go.Vam
open Go.Proofs
def btw (a b f P : Int) : Int := (a * (P - f) + b * f + P / 2) / P
theorem ediv_go {x P : Int} (hP : 0 < P) : (if x.tmod P < 0 then x.tdiv P - 1 else x.tdiv P) = x / P := by
  have h1 := Int.mul_tdiv_add_tmod x P
  have h2 := Int.lt_tmod_of_pos x hP
  have h3 := Int.tmod_lt_of_pos x hP
  have key : ∀ q r : Int, P * q + r = x → 0 ≤ r → r < P → q = x / P := fun q r h ha hb => by
    rw [← h, Int.mul_add_ediv_left _ _ (by omega), Int.ediv_eq_zero_of_lt ha hb, Int.add_zero]
  split
  · refine key _ (x.tmod P + P) ?_ (by omega) (by omega)
    rw [Int.mul_sub]; omega
  · exact key _ (x.tmod P) h1 (by omega) h3
theorem btw_le {a b f P M : Int} (hP : 0 < P) (hf : 0 ≤ f ∧ f < P) (ha : a ≤ M) (hb : b ≤ M) : btw a b f P ≤ M := by
  have h1 := Int.mul_le_mul_of_nonneg_right ha (show 0 ≤ P - f by omega)
  have h2 := Int.mul_le_mul_of_nonneg_right hb hf.1
  have h3 : M * (P - f) + M * f = M * P := by rw [← Int.mul_add]; congr 1; omega
  unfold btw
  have h4 : a * (P - f) + b * f + P / 2 < (M + 1) * P := by
    have : (M + 1) * P = M * P + P := by rw [Int.add_mul, Int.one_mul]
    omega
  have := Int.ediv_lt_of_lt_mul hP h4
  omega
theorem btw_ge {a b f P m : Int} (hP : 0 < P) (hf : 0 ≤ f ∧ f < P) (ha : m ≤ a) (hb : m ≤ b) : m ≤ btw a b f P := by
  have h1 := Int.mul_le_mul_of_nonneg_right ha (show 0 ≤ P - f by omega)
  have h2 := Int.mul_le_mul_of_nonneg_right hb hf.1
  have h3 : m * (P - f) + m * f = m * P := by rw [← Int.mul_add]; congr 1; omega
  unfold btw
  exact Int.le_ediv_of_mul_le hP (by omega)
theorem btw_in {a b f P : Int} (hP : 0 < P) (hf : 0 ≤ f ∧ f < P) (ha : -8388608 ≤ a ∧ a ≤ 8388607) (hb : -8388608 ≤ b ∧ b ≤ 8388607) : -8388608 ≤ btw a b f P ∧ btw a b f P ≤ 8388607 :=
  ⟨btw_ge hP hf ha.1 hb.1, btw_le hP hf ha.2 hb.2⟩
theorem mulc {x y A B : Int} (h1 : -A ≤ x) (h2 : x ≤ A) (h3 : 0 ≤ y) (h4 : y ≤ B) (hA : 0 ≤ A) : -(A * B) ≤ x * y ∧ x * y ≤ A * B := by
  have e1 : x * y ≤ A * y := Int.mul_le_mul_of_nonneg_right h2 h3
  have e2 : A * y ≤ A * B := Int.mul_le_mul_of_nonneg_left h4 hA
  have e3 : -A * y ≤ x * y := Int.mul_le_mul_of_nonneg_right h1 h3
  have e4 : -A * y = -(A * y) := Int.neg_mul A y
  omega
def sumG (a b f P : Int) : Int := IntKind.i64.wrap (IntKind.i64.wrap (IntKind.i64.wrap (IntKind.i64.wrap a * IntKind.i64.wrap (P - f)) + IntKind.i64.wrap (IntKind.i64.wrap b * f)) + IntKind.i64.wrap (P.tdiv 2))
theorem sumG_in {a b f P : Int} (hP : 65536 ≤ P ∧ P ≤ 50331648000) (hf : 0 ≤ f ∧ f < P) (ha : -8388608 ≤ a ∧ a ≤ 8388607) (hb : -8388608 ≤ b ∧ b ≤ 8388607) : sumG a b f P = a * (P - f) + b * f + P / 2 ∧ -1000000000000000000 ≤ sumG a b f P ∧ sumG a b f P ≤ 1000000000000000000 := by
  have h1 := mulc (x := a) (y := P - f) (A := 8388608) (B := 50331648000) (by omega) (by omega) (by omega) (by omega) (by decide)
  have h2 := mulc (x := b) (y := f) (A := 8388608) (B := 50331648000) (by omega) (by omega) (by omega) (by omega) (by decide)
  have e : sumG a b f P = a * (P - f) + b * f + P / 2 := by
    unfold sumG
    rw [IntWalk.i64_in a (by omega), IntWalk.i64_in b (by omega), IntWalk.i64_in (P - f) (by omega), IntWalk.i64_in (a * (P - f)) (by omega), IntWalk.i64_in (b * f) (by omega), IntWalk.i64_in (a * (P - f) + b * f) (by omega),
      Int.tdiv_eq_ediv_of_nonneg (by omega), IntWalk.i64_in (P / 2) (by omega), IntWalk.i64_in _ (by omega)]
  rw [e]
  exact ⟨rfl, by omega, by omega⟩
theorem sumG_q {a b f P : Int} (hP : 65536 ≤ P ∧ P ≤ 50331648000) (hf : 0 ≤ f ∧ f < P) (ha : -8388608 ≤ a ∧ a ≤ 8388607) (hb : -8388608 ≤ b ∧ b ≤ 8388607) :
    (decide ((sumG a b f P).tmod P < 0) = true → IntKind.i32.wrap (IntKind.i64.wrap (IntKind.i64.wrap ((sumG a b f P).tdiv P) - 1)) = btw a b f P) ∧ (decide ((sumG a b f P).tmod P < 0) = false → IntKind.i32.wrap (IntKind.i64.wrap ((sumG a b f P).tdiv P)) = btw a b f P) := by
  obtain ⟨e, e1, e2⟩ := sumG_in hP hf ha hb
  have hb2 := btw_in (P := P) (by omega) hf ha hb
  have hg := ediv_go (x := sumG a b f P) (P := P) (by omega)
  have hbt : sumG a b f P / P = btw a b f P := by rw [e]; rfl
  rw [hbt] at hg
  generalize hq : (sumG a b f P).tdiv P = q at *
  refine ⟨fun h => ?_, fun h => ?_⟩
  · rw [if_pos (of_decide_eq_true h)] at hg
    rw [IntWalk.i64_in q (by omega), IntWalk.i64_in (q - 1) (by omega), hg, IntWalk.i32_in _ (by omega)]
  · rw [if_neg (of_decide_eq_false h)] at hg
    rw [hg, IntWalk.i64_in _ (by omega), IntWalk.i32_in _ (by omega)]
def frA (x : Rs) (k : Nat) : Nat := min (k * x.c.toNat) (x.l.length - x.c.toNat)
def gx (x : Rs) (k ch : Nat) : Int := (x.l[frA x k + ch]?).getD 0
def qN (p : Ph) (i : Nat) : Nat := (qAt p i).toNat
def outC (x : Rs) (i ch : Nat) : Int := btw (gx x (qN x.p i) ch) (gx x (qN x.p i + 1) ch) (fAt x.p i) (prt x.p)
def outF (x : Rs) (i n : Nat) : List Int := (List.range n).map (outC x i)
def outO (x : Rs) : Nat → List Int
  | 0 => []
  | n + 1 => outO x n ++ outF x n x.c.toNat
theorem outF_len (x : Rs) (i n : Nat) : (outF x i n).length = n := by simp [outF]
theorem outF_succ (x : Rs) (i n : Nat) : outF x i (n + 1) = outF x i n ++ [outC x i n] := by simp [outF, List.range_succ]
theorem outO_len (x : Rs) : ∀ n, (outO x n).length = n * x.c.toNat
  | 0 => by simp [outO]
  | n + 1 => by rw [outO, List.length_append, outF_len, outO_len x n, Nat.add_mul, Nat.one_mul]
def poE (x : Rs) (n : Int) : Int := adE x.p n
def poC (x : Rs) (n : Int) : Int := if poE x n = 0 then x.c else 0
def poO (x : Rs) (n : Int) : List Int := if poE x n = 0 then outO x n.toNat else []
def poR (x : Rs) (n : Int) : Rs := if poE x n = 0 then ⟨x.c, adP x.p n, x.l.drop (min x.l.length (qN x.p n.toNat * x.c.toNat))⟩ else rs0
theorem adE_ok {p : Ph} {n : Int} (h : adE p n = 0) : phC p n = 0 ∧ adP p n = ⟨p.n, p.d, p.a, p.p + qAt p n, fAt p n⟩ := by
  have h0 : phC p n = 0 := by
    unfold adE at h
    split at h
    · assumption
    · rename_i h1; exact absurd h h1
  refine ⟨h0, ?_⟩
  unfold adP
  rw [if_pos h]
  simp [atP, atF, h0]
theorem frA_in {x : Rs} (hv : rsV x = true) (hl : x.l.length ≤ 1000000) (hne : 0 < x.l.length) (k : Nat) : frA x k + x.c.toNat ≤ x.l.length ∧ x.c.toNat ≤ x.l.length := by
  obtain ⟨⟨k1, k2⟩, k3, k4, k5⟩ := blk_in (rsV_in hv).2 hl
  have hw : 1 ≤ x.l.length / x.c.toNat := by
    rcases Nat.eq_zero_or_pos (x.l.length / x.c.toNat) with h | h
    · rw [h, Nat.zero_mul] at k3; omega
    · exact h
  have : 1 * x.c.toNat ≤ x.l.length / x.c.toNat * x.c.toNat := Nat.mul_le_mul_right _ hw
  unfold frA
  omega
theorem gone_min {w q c len : Nat} (h : len = w * c) : min w q * c = min len (q * c) := by
  rcases Nat.le_total w q with h1 | h1
  · have := Nat.mul_le_mul_right c h1
    rw [Nat.min_eq_left h1]; omega
  · have := Nat.mul_le_mul_right c h1
    rw [Nat.min_eq_right h1]; omega
theorem qN_eq {p : Ph} (h : phV p = true) {g : Nat} (hg : g ≤ 65536) : ((qN p g : Nat) : Int) = qAt p g ∧ qN p g ≤ 62000000000 := by
  have := qAt_in h (n := (g : Int)) (by omega)
  unfold qN
  omega
theorem at_eq {p : Ph} (h : phV p = true) {g : Nat} (hg : g ≤ 65536) : atP p g = p.p + qN p g ∧ atF p g = fAt p g ∧ IntKind.i64.wrap (atP p g - p.p) = ((qN p g : Nat) : Int) := by
  have h0 := phC_of h (n := (g : Int)) (by omega)
  obtain ⟨h1, h2⟩ := qN_eq h hg
  have e : atP p g = p.p + qN p g := by unfold atP; rw [if_pos h0, h1]
  refine ⟨e, by unfold atF; rw [if_pos h0], ?_⟩
  rw [e, IntWalk.i64_in _ (by omega)]
  omega
theorem spec_frame (c n d a p f : Int) (l : List Int) (i : Int) (hl : l.length ≤ 1000000) (hv : rsV ⟨c, ⟨n, d, a, p, f⟩, l⟩ = true) (hne : 0 < l.length) (hi : 0 ≤ i ∧ i ≤ 1000000000000) : Spec Tryz.prog 0 220 [.agg [.d (.int .i64 c), .d (.int .i64 n), .d (.int .i64 d), .d (.int .i64 a), .d (.int .i64 p), .d (.int .i64 f), .d (.list (LI .i32 l))], vI .i64 i] [] [] (vL (LI .i32 ((l.drop (frA ⟨c, ⟨n, d, a, p, f⟩, l⟩ i.toNat)).take c.toNat))) [] [] := by
  refine spec_of_E (X := ⟨Tryz.prog, tt, Tryz.f220.ntmps, 1, fun _ => 0, (tab [])⟩) (M := [(3, [0, 0, 0, 0, 0, 2138046583, 0, 0, 0, 0, 0, 1073741943, 0])]) (m := 119) rfl rfl ⟨tt_ok, tab_ok tabs_nil _ rfl rfl⟩ tt_mixed Tryz.func220 rfl (by decide) (by show (2 : Nat) ≤ _; exact Nat.le_of_ble_eq_true rfl) ⟨by simp [V.has, C.has], by simp [C.has], by simp⟩ ?_
  simp (maxSteps := 1000000) only [↓gPre, gPost, gCore, gDef, gSt, gS0, Nat.reduceShiftRight, Nat.reduceMod, ↓reduceIte, reduceCtorEq, Nat.reduceEqDiff, Nat.reduceLT, Nat.reduceLeDiff, Nat.reduceAdd, Nat.reduceMul, Int.reduceLE, Int.reduceLT, Int.reduceNeg, Int.reduceAdd, Int.reduceToNat, Tryz.ntmps220, Tryz.results220, gTT]
  obtain ⟨⟨k1, k2⟩, k3, k4, k5⟩ := blk_in (rsV_in hv).2 hl
  obtain ⟨h1, h2⟩ := frA_in hv hl hne i.toNat
  simp only at k1 k2 h1 h2
  have hc : (c.toNat : Int) = c := by omega
  have hi2 : (i.toNat : Int) = i := by omega
  have hm : i * c = ((i.toNat * c.toNat : Nat) : Int) := by rw [Int.natCast_mul, hc, hi2]
  have hb := Nat.mul_le_mul (show i.toNat ≤ 1000000000000 by omega) (show c.toNat ≤ 8 by omega)
  have e : (if IntKind.i64.wrap ((l.length : Int) - c) < IntKind.i64.wrap (i * c) then IntKind.i64.wrap ((l.length : Int) - c) else IntKind.i64.wrap (i * c)) = ((frA ⟨c, ⟨n, d, a, p, f⟩, l⟩ i.toNat : Nat) : Int) := by
    rw [hm]
    unfold frA
    simp only
    generalize i.toNat * c.toNat = m at *
    rw [IntWalk.i64_in ((l.length : Int) - c) (by omega), IntWalk.i64_in (m : Int) (by omega)]
    split <;> omega
  rw [e]
  generalize frA ⟨c, ⟨n, d, a, p, f⟩, l⟩ i.toNat = q at *
  have e2 : IntKind.i64.wrap ((q : Int) + c) = ((q + c.toNat : Nat) : Int) := by rw [IntWalk.i64_in _ (by omega)]; omega
  rw [e2, Int.toNat_natCast, Int.toNat_natCast, Nat.add_sub_cancel_left]
  exact ⟨⟨by omega, by omega, by omega, by omega⟩, rfl⟩
def E_frame : List V → Boxes → Toks → Name → Option Ent
  | [.agg [.d (.int .i64 c), .d (.int .i64 n), .d (.int .i64 d), .d (.int .i64 a), .d (.int .i64 p), .d (.int .i64 f), .d (.list q_l)], .c (.d (.int .i64 i))], [], [], _ => some ⟨(ints q_l).length ≤ 1000000 ∧ rsV ⟨c, ⟨n, d, a, p, f⟩, (ints q_l)⟩ = true ∧ 0 < (ints q_l).length ∧ (0 ≤ i ∧ i ≤ 1000000000000) ∧ q_l = LI .i32 (ints q_l), vL (LI .i32 (((ints q_l).drop (frA ⟨c, ⟨n, d, a, p, f⟩, (ints q_l)⟩ i.toNat)).take c.toNat)), [], []⟩
  | _, _, _, _ => none
def E_frame_eq := And.intro (@E_frame.eq_1) (@E_frame.eq_1)
theorem E_frame_ok : Snd Tryz.prog 220 E_frame := by
  intro vs b k n e h hn hp
  unfold E_frame at h
  split at h
  · cases h; obtain ⟨hp0, hp1, hp2, hp3, hq0⟩ := hp; obtain ⟨_, rfl⟩ := LI_ex hq0; simp only [ints_LI, bys_LB, blks_LK, lls_LL] at hp0 hp1 hp2 hp3 ⊢; exact (spec_frame _ _ _ _ _ _ _ _ hp0 hp1 hp2 hp3).lift rfl _
  · cases h
theorem spec_produce (c n d a p f : Int) (l : List Int) (i : Int) (hl : l.length ≤ 1000000) (hv : rsV ⟨c, ⟨n, d, a, p, f⟩, l⟩ = true) (hi : 0 ≤ i ∧ i ≤ 65536) (hne : 0 < i → 0 < l.length) : Spec Tryz.prog 0 164 [.agg [.d (.int .i64 c), .d (.int .i64 n), .d (.int .i64 d), .d (.int .i64 a), .d (.int .i64 p), .d (.int .i64 f), .d (.list (LI .i32 l))], vI .i64 i] [] [] (.tup [.agg [.int .i64 (poC ⟨c, ⟨n, d, a, p, f⟩, l⟩ i), .list (LI .i32 (poO ⟨c, ⟨n, d, a, p, f⟩, l⟩ i))], .agg [.int .i64 (poR ⟨c, ⟨n, d, a, p, f⟩, l⟩ i).c, .int .i64 (poR ⟨c, ⟨n, d, a, p, f⟩, l⟩ i).p.n, .int .i64 (poR ⟨c, ⟨n, d, a, p, f⟩, l⟩ i).p.d, .int .i64 (poR ⟨c, ⟨n, d, a, p, f⟩, l⟩ i).p.a, .int .i64 (poR ⟨c, ⟨n, d, a, p, f⟩, l⟩ i).p.p, .int .i64 (poR ⟨c, ⟨n, d, a, p, f⟩, l⟩ i).p.f, .list (LI .i32 (poR ⟨c, ⟨n, d, a, p, f⟩, l⟩ i).l)], .int .i64 (poE ⟨c, ⟨n, d, a, p, f⟩, l⟩ i)]) [] [] := by
  refine sE (md := fun s => if s = 45 then 1 else 0) (L := [(218, E_padv), (219, E_pat), (220, E_frame), (131, E_clone)]) [(15, [0, 0, 0, 0, 0, 5149829387557928694202194968567, 0, 0, 0, 0, 0, 5149695196791951470363802583031, 0, 0, 0, 0, 0, 5144878836326606787731773177847, 0, 0, 0]), (22, [0, 0, 0, 0, 0, 169891958281861993975001811129907265527, 0, 0, 0, 0, 0, 127688969415690915010305936966006325239, 0, 0])] 5070602433969483971237825724407 (tabs_cons E_padv_ok (tabs_cons E_pat_ok (tabs_cons E_frame_ok (tabs_cons E_clone_ok tabs_nil)))) Tryz.func164 rfl rfl rfl ?_
  simp (maxSteps := 1000000) only [↓gPre, gPost, gCore, gDef, gSt, gS0, Nat.reduceShiftRight, Nat.reduceMod, ↓reduceIte, reduceCtorEq, Nat.reduceEqDiff, Nat.reduceLT, Nat.reduceLeDiff, Nat.reduceAdd, Nat.reduceMul, Int.reduceLE, Int.reduceLT, Int.reduceNeg, Int.reduceAdd, Int.reduceToNat, E_padv_eq, E_pat_eq, E_frame_eq, E_clone_eq, Tryz.ntmps164, Tryz.results164, gTT]
  obtain ⟨⟨k1, k2⟩, k3, k4, k5⟩ := blk_in (rsV_in hv).2 hl
  have hp := (rsV_in hv).1
  simp only at k1 k2 hp k3
  have hc : (c.toNat : Int) = c := by omega
  have hi2 : (i.toNat : Int) = i := by omega
  have hm : i * c = ((i.toNat * c.toNat : Nat) : Int) := by rw [Int.natCast_mul, hc, hi2]
  have hmb := Nat.mul_le_mul (show i.toNat ≤ 65536 by omega) (show c.toNat ≤ 8 by omega)
  have hd := phV_in hp
  simp only at hd
  have hpr := prt_in hp
  have hP : IntKind.i64.wrap (d * 65536) = prt ⟨n, d, a, p, f⟩ := rfl
  rw [hP]
  refine ⟨fun h => ?_, fun h => ⟨by kernel_rfl, ?_⟩⟩
  · have hne : adE ⟨n, d, a, p, f⟩ i ≠ 0 := by simpa using h
    simp [poC, poO, poR, poE, hne, rs0, LI_nil]
  have he : adE ⟨n, d, a, p, f⟩ i = 0 := by simpa using h
  obtain ⟨he0, hadP⟩ := adE_ok he
  rw [hm, IntWalk.i64_in ((i.toNat * c.toNat : Nat) : Int) (by omega)]
  refine ⟨⟨by omega, by omega, by omega⟩, ?_⟩
  refine ELoop_keep (fun g => ⟨[(48, vI .i64 (g : Nat))], [(⟨1, 10⟩, [.d (.int .i64 c), .own ⟨1, 45⟩ (LI .i32 (outO ⟨c, ⟨n, d, a, p, f⟩, l⟩ g))])], [(⟨1, 45⟩, ⟨false, 1, LI .i32 (outO ⟨c, ⟨n, d, a, p, f⟩, l⟩ g)⟩)]⟩) (fun g => g ≤ i.toNat) (fun g => i.toNat - g) (· + 1) 0 (Nat.zero_le _) ?_ ?_
  · simp (maxSteps := 1000000) only [↓gPre, gPost, gCore, gDef, gSt, gS0, Nat.reduceShiftRight, Nat.reduceMod, ↓reduceIte, reduceCtorEq, Nat.reduceEqDiff, Nat.reduceLT, Nat.reduceLeDiff, Nat.reduceAdd, Nat.reduceMul, Int.reduceLE, Int.reduceLT, Int.reduceNeg, Int.reduceAdd, Int.reduceToNat, E_padv_eq, E_pat_eq, E_frame_eq, E_clone_eq, Tryz.ntmps164, Tryz.results164, gTT]
    exact ⟨rfl, rfl, rfl⟩
  intro g hg
  simp (maxSteps := 1000000) only [↓gPre, gPost, gCore, gDef, gSt, gS0, Nat.reduceShiftRight, Nat.reduceMod, ↓reduceIte, reduceCtorEq, Nat.reduceEqDiff, Nat.reduceLT, Nat.reduceLeDiff, Nat.reduceAdd, Nat.reduceMul, Int.reduceLE, Int.reduceLT, Int.reduceNeg, Int.reduceAdd, Int.reduceToNat, E_padv_eq, E_pat_eq, E_frame_eq, E_clone_eq, Tryz.ntmps164, Tryz.results164, gTT]
  refine ⟨fun h1 => ?_, fun h1 => ?_⟩
  · have hgi : (g : Int) < i := of_decide_eq_true h1
    have hg6 : g ≤ 65536 := by omega
    obtain ⟨q1, q2, q3⟩ := at_eq hp hg6
    have q4 := (qN_eq hp hg6).2
    simp only at q3
    rw [q3]
    have q5 : IntKind.i64.wrap (((qN ⟨n, d, a, p, f⟩ g : Nat) : Int) + 1) = ((qN ⟨n, d, a, p, f⟩ g + 1 : Nat) : Int) := by rw [IntWalk.i64_in _ (by omega)]; rfl
    rw [q5]
    have hl0 : 0 < l.length := hne (by omega)
    have hfa := frA_in hv hl hl0 (qN ⟨n, d, a, p, f⟩ g)
    have hfb := frA_in hv hl hl0 (qN ⟨n, d, a, p, f⟩ g + 1)
    simp only at hfa hfb
    have hfr0 := (qAt_in hp (n := (g : Int)) (by omega)).2
    have hfr : 0 ≤ fAt ⟨n, d, a, p, f⟩ g ∧ fAt ⟨n, d, a, p, f⟩ g < prt ⟨n, d, a, p, f⟩ := ⟨hfr0.1, hfr0.2.1⟩
    refine ⟨by kernel_rfl, ⟨hl, hv, hl0, by omega, by omega⟩, ⟨hl, hv, hl0, by omega, by omega⟩, ?_⟩
    rw [Int.toNat_natCast, Int.toNat_natCast]
    have hA : ∀ j, j < c.toNat → (List.take c.toNat (List.drop (frA ⟨c, ⟨n, d, a, p, f⟩, l⟩ (qN ⟨n, d, a, p, f⟩ g)) l))[j]?.getD 0 = gx ⟨c, ⟨n, d, a, p, f⟩, l⟩ (qN ⟨n, d, a, p, f⟩ g) j := fun j hj => by
      rw [List.getElem?_take_of_lt hj, List.getElem?_drop]; rfl
    have hB : ∀ j, j < c.toNat → (List.take c.toNat (List.drop (frA ⟨c, ⟨n, d, a, p, f⟩, l⟩ (qN ⟨n, d, a, p, f⟩ g + 1)) l))[j]?.getD 0 = gx ⟨c, ⟨n, d, a, p, f⟩, l⟩ (qN ⟨n, d, a, p, f⟩ g + 1) j := fun j hj => by
      rw [List.getElem?_take_of_lt hj, List.getElem?_drop]; rfl
    have hlA : (List.take c.toNat (List.drop (frA ⟨c, ⟨n, d, a, p, f⟩, l⟩ (qN ⟨n, d, a, p, f⟩ g)) l)).length = c.toNat := by rw [List.length_take, List.length_drop]; omega
    have hlB : (List.take c.toNat (List.drop (frA ⟨c, ⟨n, d, a, p, f⟩, l⟩ (qN ⟨n, d, a, p, f⟩ g + 1)) l)).length = c.toNat := by rw [List.length_take, List.length_drop]; omega
    generalize List.take c.toNat (List.drop (frA ⟨c, ⟨n, d, a, p, f⟩, l⟩ (qN ⟨n, d, a, p, f⟩ g)) l) = FA at *
    generalize List.take c.toNat (List.drop (frA ⟨c, ⟨n, d, a, p, f⟩, l⟩ (qN ⟨n, d, a, p, f⟩ g + 1)) l) = FB at *
    have hol := outO_len ⟨c, ⟨n, d, a, p, f⟩, l⟩ g
    simp only at hol
    have hgc := Nat.mul_le_mul (show g ≤ 65536 by omega) (show c.toNat ≤ 8 by omega)
    refine ELoop_keep (fun j => ⟨[(73, vI .i64 (j : Nat))], [(⟨1, 10⟩, [.d (.int .i64 c), .own ⟨1, 45⟩ (LI .i32 (outO ⟨c, ⟨n, d, a, p, f⟩, l⟩ g ++ outF ⟨c, ⟨n, d, a, p, f⟩, l⟩ g j))])], [(⟨1, 45⟩, ⟨false, 1, LI .i32 (outO ⟨c, ⟨n, d, a, p, f⟩, l⟩ g ++ outF ⟨c, ⟨n, d, a, p, f⟩, l⟩ g j)⟩)]⟩) (fun j => j ≤ c.toNat) (fun j => c.toNat - j) (· + 1) 0 (Nat.zero_le _) ?_ ?_
    · simp (maxSteps := 1000000) only [↓gPre, gPost, gCore, gDef, gSt, gS0, Nat.reduceShiftRight, Nat.reduceMod, ↓reduceIte, reduceCtorEq, Nat.reduceEqDiff, Nat.reduceLT, Nat.reduceLeDiff, Nat.reduceAdd, Nat.reduceMul, Int.reduceLE, Int.reduceLT, Int.reduceNeg, Int.reduceAdd, Int.reduceToNat, E_padv_eq, E_pat_eq, E_frame_eq, E_clone_eq, Tryz.ntmps164, Tryz.results164, gTT]
      simp [outF]
    intro j hj
    simp (maxSteps := 1000000) only [↓gPre, gPost, gCore, gDef, gSt, gS0, Nat.reduceShiftRight, Nat.reduceMod, ↓reduceIte, reduceCtorEq, Nat.reduceEqDiff, Nat.reduceLT, Nat.reduceLeDiff, Nat.reduceAdd, Nat.reduceMul, Int.reduceLE, Int.reduceLT, Int.reduceNeg, Int.reduceAdd, Int.reduceToNat, E_padv_eq, E_pat_eq, E_frame_eq, E_clone_eq, Tryz.ntmps164, Tryz.results164, gTT]
    have hfl := outF_len ⟨c, ⟨n, d, a, p, f⟩, l⟩ g j
    refine ⟨fun h2 => ?_, fun h2 => ?_⟩
    · have hjc : j < c.toNat := by have := of_decide_eq_true h2; omega
      have sA := smp_get k5 (frA ⟨c, ⟨n, d, a, p, f⟩, l⟩ (qN ⟨n, d, a, p, f⟩ g) + j)
      have sB := smp_get k5 (frA ⟨c, ⟨n, d, a, p, f⟩, l⟩ (qN ⟨n, d, a, p, f⟩ g + 1) + j)
      have hq := sumG_q (a := gx ⟨c, ⟨n, d, a, p, f⟩, l⟩ (qN ⟨n, d, a, p, f⟩ g) j) (b := gx ⟨c, ⟨n, d, a, p, f⟩, l⟩ (qN ⟨n, d, a, p, f⟩ g + 1) j) hpr hfr sA sB
      refine ⟨by kernel_rfl, ?_⟩
      rw [hA j hjc, hB j hjc, q2]
      have hs : outO ⟨c, ⟨n, d, a, p, f⟩, l⟩ g ++ outF ⟨c, ⟨n, d, a, p, f⟩, l⟩ g (j + 1) = outO ⟨c, ⟨n, d, a, p, f⟩, l⟩ g ++ outF ⟨c, ⟨n, d, a, p, f⟩, l⟩ g j ++ [btw (gx ⟨c, ⟨n, d, a, p, f⟩, l⟩ (qN ⟨n, d, a, p, f⟩ g) j) (gx ⟨c, ⟨n, d, a, p, f⟩, l⟩ (qN ⟨n, d, a, p, f⟩ g + 1) j) (fAt ⟨n, d, a, p, f⟩ g) (prt ⟨n, d, a, p, f⟩)] := by
        rw [outF_succ, List.append_assoc]; rfl
      rw [hs]
      unfold sumG at hq
      refine ⟨by omega, by omega, by decide, by omega, by omega, fun h3 => ?_, fun h3 => ?_⟩
      · rw [hq.1 h3]
        exact ⟨by unfold roomOK; rw [List.length_append]; omega, ⟨(wrapN _ (by omega)).symm, rfl, rfl⟩, by omega, by omega⟩
      · rw [hq.2 h3]
        exact ⟨by unfold roomOK; rw [List.length_append]; omega, ⟨(wrapN _ (by omega)).symm, rfl, rfl⟩, by omega, by omega⟩
    · have hjc : j = c.toNat := by have := of_decide_eq_false h2; omega
      subst hjc
      exact ⟨⟨(wrapN _ (by omega)).symm, rfl, rfl⟩, by omega, by omega⟩
  · have hgi : g = i.toNat := by have := of_decide_eq_false h1; omega
    have hq := qN_eq hp (g := i.toNat) (by omega)
    rw [hi2] at hq
    refine ⟨by kernel_rfl, ?_⟩
    have hpp : (adP ⟨n, d, a, p, f⟩ i).p - p = ((qN ⟨n, d, a, p, f⟩ i.toNat : Nat) : Int) := by rw [hadP, hq.1]; show p + _ - p = _; omega
    rw [hpp]
    have hgone : (if IntKind.i64.wrap (IntKind.i64.wrap ((qN ⟨n, d, a, p, f⟩ i.toNat : Nat) : Int) * c) < (l.length : Int) then IntKind.i64.wrap (IntKind.i64.wrap ((qN ⟨n, d, a, p, f⟩ i.toNat : Nat) : Int) * c) else (l.length : Int)) = ((min l.length (qN ⟨n, d, a, p, f⟩ i.toNat * c.toNat) : Nat) : Int) := by
      have hqc := Nat.mul_le_mul hq.2 (show c.toNat ≤ 8 by omega)
      rw [IntWalk.i64_in ((qN ⟨n, d, a, p, f⟩ i.toNat : Nat) : Int) (by omega)]
      have e : ((qN ⟨n, d, a, p, f⟩ i.toNat : Nat) : Int) * c = ((qN ⟨n, d, a, p, f⟩ i.toNat * c.toNat : Nat) : Int) := by rw [Int.natCast_mul, hc]
      rw [e, IntWalk.i64_in _ (by omega)]
      split <;> omega
    rw [hgone, Int.toNat_natCast]
    have htk : ∀ m, List.take (l.length - m) (List.drop m l) = List.drop m l := fun m => List.take_of_length_le (by rw [List.length_drop]; omega)
    rw [htk]
    refine ⟨⟨by omega, by omega, by omega⟩, by rw [List.length_drop]; omega, by kernel_rfl, ?_⟩
    simp [poC, poO, poR, poE, he, hgi]
def E_produce : List V → Boxes → Toks → Name → Option Ent
  | [.agg [.d (.int .i64 c), .d (.int .i64 n), .d (.int .i64 d), .d (.int .i64 a), .d (.int .i64 p), .d (.int .i64 f), .d (.list q_l)], .c (.d (.int .i64 i))], [], [], _ => some ⟨(ints q_l).length ≤ 1000000 ∧ rsV ⟨c, ⟨n, d, a, p, f⟩, (ints q_l)⟩ = true ∧ (0 ≤ i ∧ i ≤ 65536) ∧ (0 < i → 0 < (ints q_l).length) ∧ q_l = LI .i32 (ints q_l), .tup [.agg [.int .i64 (poC ⟨c, ⟨n, d, a, p, f⟩, (ints q_l)⟩ i), .list (LI .i32 (poO ⟨c, ⟨n, d, a, p, f⟩, (ints q_l)⟩ i))], .agg [.int .i64 (poR ⟨c, ⟨n, d, a, p, f⟩, (ints q_l)⟩ i).c, .int .i64 (poR ⟨c, ⟨n, d, a, p, f⟩, (ints q_l)⟩ i).p.n, .int .i64 (poR ⟨c, ⟨n, d, a, p, f⟩, (ints q_l)⟩ i).p.d, .int .i64 (poR ⟨c, ⟨n, d, a, p, f⟩, (ints q_l)⟩ i).p.a, .int .i64 (poR ⟨c, ⟨n, d, a, p, f⟩, (ints q_l)⟩ i).p.p, .int .i64 (poR ⟨c, ⟨n, d, a, p, f⟩, (ints q_l)⟩ i).p.f, .list (LI .i32 (poR ⟨c, ⟨n, d, a, p, f⟩, (ints q_l)⟩ i).l)], .int .i64 (poE ⟨c, ⟨n, d, a, p, f⟩, (ints q_l)⟩ i)], [], []⟩
  | _, _, _, _ => none
def E_produce_eq := And.intro (@E_produce.eq_1) (@E_produce.eq_1)
theorem E_produce_ok : Snd Tryz.prog 164 E_produce := by
  intro vs b k n e h hn hp
  unfold E_produce at h
  split at h
  · cases h; obtain ⟨hp0, hp1, hp2, hp3, hq0⟩ := hp; obtain ⟨_, rfl⟩ := LI_ex hq0; simp only [ints_LI, bys_LB, blks_LK, lls_LL] at hp0 hp1 hp2 hp3 ⊢; exact (spec_produce _ _ _ _ _ _ _ _ hp0 hp1 hp2 hp3).lift rfl _
  · cases h
end Go.Vam
