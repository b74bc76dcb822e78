/- A part of the proof. Conditions: none. -/
import Derived.Test.YtmpbpijnbmpbhaaGreatDo
set_option linter.unusedVariables false
set_option linter.defProp false
set_option linter.unusedSimpArgs false
set_option maxRecDepth 40000
set_option maxHeartbeats 4000000
namespace Go.Vam
open Go.Proofs
theorem bn_dev {m : List Int} (h : chV m = true) : bnE (m.length : Nat) 1 1 ⟨29, 4, 16, 0⟩ 37 13 = 0 ∧ bnR (m.length : Nat) 1 1 ⟨29, 4, 16, 0⟩ 37 13 = ⟨37, ⟨29, 4, 16, 0⟩, ⟨(m.length : Nat), ⟨1, 1, 0, 0, 0⟩, List.replicate ((m.length : Int) * 13).toNat 0⟩, 0, 0⟩ := by
  have hl := chV_len h
  obtain ⟨h1, h2⟩ := nw_ok (c := (m.length : Nat)) (n := 1) (d := 1) (by omega) (by decide)
  have hE : bnE (m.length : Nat) 1 1 ⟨29, 4, 16, 0⟩ 37 13 = 0 := by
    unfold bnE
    rw [if_neg (by decide), h1, if_neg (by decide)]
  exact ⟨hE, by unfold bnR; rw [if_pos hE]⟩
theorem spec_dvopen (di : Int) (s : ByteArray) (dd dm dl dt dj : Int) (bx : List D) (ck cr : Int) (mp : List Int) (cz : Int) (sg : List D) (ra pe : Int) (hs : dsOK s dd dm dl dt dj) (hv : dvOK bx ck cr mp cz ra pe sg) : Spec Tryz.prog 0 44 [.agg [.d (.int .u64 di), .d (.str s), .d (.int .i64 dd), .d (.int .i64 dm), .d (.int .i64 dl), .d (.int .i64 dt), .d (.int .i64 dj), .d (.list bx)], .agg [.d (.int .i64 ck), .d (.int .i64 cr), .d (.list (LI .i64 mp)), .d (.int .i64 cz)], .agg [.d (.list sg)], vI .i64 ra, vI .i64 pe] [] [] (.tup [.agg [.int .u64 di, .str s, .int .i64 dd, .int .i64 dm, .int .i64 dl, .int .i64 dt, .int .i64 dj, .list bx, .int .i64 ck, .int .i64 cr, .list (LI .i64 mp), .int .i64 cz, .int .i64 ra, .int .i64 pe, .list sg, .bool false, .int .i64 0, .int .i64 ((bnR (mp.length : Nat) 1 1 ⟨29, 4, 16, 0⟩ 37 13)).q, .int .i64 ((bnR (mp.length : Nat) 1 1 ⟨29, 4, 16, 0⟩ 37 13)).c.t, .int .i64 ((bnR (mp.length : Nat) 1 1 ⟨29, 4, 16, 0⟩ 37 13)).c.d, .int .i64 ((bnR (mp.length : Nat) 1 1 ⟨29, 4, 16, 0⟩ 37 13)).c.g, .int .i64 ((bnR (mp.length : Nat) 1 1 ⟨29, 4, 16, 0⟩ 37 13)).c.m, .int .i64 ((bnR (mp.length : Nat) 1 1 ⟨29, 4, 16, 0⟩ 37 13)).r.c, .int .i64 ((bnR (mp.length : Nat) 1 1 ⟨29, 4, 16, 0⟩ 37 13)).r.p.n, .int .i64 ((bnR (mp.length : Nat) 1 1 ⟨29, 4, 16, 0⟩ 37 13)).r.p.d, .int .i64 ((bnR (mp.length : Nat) 1 1 ⟨29, 4, 16, 0⟩ 37 13)).r.p.a, .int .i64 ((bnR (mp.length : Nat) 1 1 ⟨29, 4, 16, 0⟩ 37 13)).r.p.p, .int .i64 ((bnR (mp.length : Nat) 1 1 ⟨29, 4, 16, 0⟩ 37 13)).r.p.f, .list (LI .i32 ((bnR (mp.length : Nat) 1 1 ⟨29, 4, 16, 0⟩ 37 13)).r.l), .int .i64 ((bnR (mp.length : Nat) 1 1 ⟨29, 4, 16, 0⟩ 37 13)).lo, .int .i64 ((bnR (mp.length : Nat) 1 1 ⟨29, 4, 16, 0⟩ 37 13)).mi], .int .i64 0]) [] [] := by
  refine spec_of_E (X := ⟨Tryz.prog, tt, Tryz.f44.ntmps, 1, fun _ => 0, (tab [(109, E_dsvalid), (110, E_clkvalid), (111, E_uset), (112, E_ofhas), (113, E_unom), (114, E_uins), (115, E_ratceil), (117, E_ujit), (116, E_cplan), (119, E_uports), (120, E_ubase), (118, E_bnew), (59, E_dvown)])⟩) (M := [(2, [0, 0, 0, 0, 0, 40564838550121066404260388732159, 0, 0, 0, 0, 0, 40564838550121066404023091789055, 0]), (7, [0, 0, 0, 0, 0, 40564838550125660075333772049663, 0, 0, 0, 0, 0, 40564838550124705312212769504511, 0, 0]), (11, [0, 0, 0, 0, 0, 40564848171942775250615977049343, 0, 0, 0, 0, 0, 40564847012601803706118077086975, 0, 0, 0, 0]), (14, [0, 0, 0, 0, 0, 60845545986218719429783119133951, 0, 0, 0, 0, 0, 60213577596163532799447116217599, 0, 0, 0, 0, 0, 43100139750577525206707260554495, 0])]) (m := 40564838550121066403713854143743) rfl rfl ⟨tt_ok, tab_ok (tabs_cons E_dsvalid_ok (tabs_cons E_clkvalid_ok (tabs_cons E_uset_ok (tabs_cons E_ofhas_ok (tabs_cons E_unom_ok (tabs_cons E_uins_ok (tabs_cons E_ratceil_ok (tabs_cons E_ujit_ok (tabs_cons E_cplan_ok (tabs_cons E_uports_ok (tabs_cons E_ubase_ok (tabs_cons E_bnew_ok (tabs_cons E_dvown_ok tabs_nil))))))))))))) _ rfl rfl⟩ tt_mixed Tryz.func44 rfl (by decide) (by show (5 : Nat) ≤ _; exact Nat.le_of_ble_eq_true rfl) ⟨by simp [V.has, C.has, cvtC_eq], by simp [C.has], by simp⟩ ?_
  have hE := (bn_dev hv.2.1).1
  have hw : IntKind.i64.wrap 16 = 16 := by decide
  have hif : (if 0 < IntKind.i64.wrap (29 - 1 * 16) then IntKind.i64.wrap (29 - 1 * 16) else 0) = 13 := by decide
  have h64 : decide (IntKind.i64.wrap (1 * 64) < 1) = false := by decide
  simp (maxSteps := 1000000) only [↓gPre, gPost, gCore, gDef, gSt, gS0, Nat.reduceShiftRight, Nat.reduceMod, ↓reduceIte, reduceCtorEq, Nat.reduceEqDiff, Nat.reduceLT, Nat.reduceLeDiff, Nat.reduceAdd, Nat.reduceMul, Int.reduceLE, Int.reduceLT, Int.reduceNeg, Int.reduceAdd, Int.reduceToNat, E_dsvalid_eq, E_clkvalid_eq, E_uset_eq, E_ofhas_eq, E_unom_eq, E_uins_eq, E_ratceil_eq, E_ujit_eq, E_cplan_eq, E_uports_eq, E_ubase_eq, E_bnew_eq, E_dvown_eq, gE1, gE2, gE3, hE, hw, hif, h64, Tryz.ntmps44, Tryz.results44, gTT]
  have hd := hs
  obtain ⟨_, _, _, _, h5, _⟩ := hd
  have hbx : boxOK bx := ⟨mp, hv.1, hv.2.1⟩
  have hlen := chV_len hv.2.1
  refine ⟨⟨hs, hbx⟩, hv.2.2.2.2.2.2.2, ⟨hs, hv⟩, ⟨hv.1, hv.2.1, hv.2.2.1, hv.2.2.2.1, hv.2.2.2.2.1⟩, ⟨hs, hv⟩, ⟨hs, hv⟩, by decide +kernel, by kernel_rfl, ⟨hs, hv⟩, by decide, ⟨h5, by decide⟩, by kernel_rfl, ⟨hs, hv⟩, hv, ?_⟩
  rw [(bn_dev hv.2.1).2]
  show (List.replicate _ 0).length ≤ _
  rw [List.length_replicate]
  omega
def E_dvopen : List V → Boxes → Toks → Name → Option Ent
  | [.agg [.d (.int .u64 di), .d (.str s), .d (.int .i64 dd), .d (.int .i64 dm), .d (.int .i64 dl), .d (.int .i64 dt), .d (.int .i64 dj), .d (.list bx)], .agg [.d (.int .i64 ck), .d (.int .i64 cr), .d (.list q_mp), .d (.int .i64 cz)], .agg [.d (.list sg)], .c (.d (.int .i64 ra)), .c (.d (.int .i64 pe))], [], [], _ => some ⟨dsOK s dd dm dl dt dj ∧ dvOK bx ck cr (ints q_mp) cz ra pe sg ∧ q_mp = LI .i64 (ints q_mp), .tup [.agg [.int .u64 di, .str s, .int .i64 dd, .int .i64 dm, .int .i64 dl, .int .i64 dt, .int .i64 dj, .list bx, .int .i64 ck, .int .i64 cr, .list (LI .i64 (ints q_mp)), .int .i64 cz, .int .i64 ra, .int .i64 pe, .list sg, .bool false, .int .i64 0, .int .i64 ((bnR ((ints q_mp).length : Nat) 1 1 ⟨29, 4, 16, 0⟩ 37 13)).q, .int .i64 ((bnR ((ints q_mp).length : Nat) 1 1 ⟨29, 4, 16, 0⟩ 37 13)).c.t, .int .i64 ((bnR ((ints q_mp).length : Nat) 1 1 ⟨29, 4, 16, 0⟩ 37 13)).c.d, .int .i64 ((bnR ((ints q_mp).length : Nat) 1 1 ⟨29, 4, 16, 0⟩ 37 13)).c.g, .int .i64 ((bnR ((ints q_mp).length : Nat) 1 1 ⟨29, 4, 16, 0⟩ 37 13)).c.m, .int .i64 ((bnR ((ints q_mp).length : Nat) 1 1 ⟨29, 4, 16, 0⟩ 37 13)).r.c, .int .i64 ((bnR ((ints q_mp).length : Nat) 1 1 ⟨29, 4, 16, 0⟩ 37 13)).r.p.n, .int .i64 ((bnR ((ints q_mp).length : Nat) 1 1 ⟨29, 4, 16, 0⟩ 37 13)).r.p.d, .int .i64 ((bnR ((ints q_mp).length : Nat) 1 1 ⟨29, 4, 16, 0⟩ 37 13)).r.p.a, .int .i64 ((bnR ((ints q_mp).length : Nat) 1 1 ⟨29, 4, 16, 0⟩ 37 13)).r.p.p, .int .i64 ((bnR ((ints q_mp).length : Nat) 1 1 ⟨29, 4, 16, 0⟩ 37 13)).r.p.f, .list (LI .i32 ((bnR ((ints q_mp).length : Nat) 1 1 ⟨29, 4, 16, 0⟩ 37 13)).r.l), .int .i64 ((bnR ((ints q_mp).length : Nat) 1 1 ⟨29, 4, 16, 0⟩ 37 13)).lo, .int .i64 ((bnR ((ints q_mp).length : Nat) 1 1 ⟨29, 4, 16, 0⟩ 37 13)).mi], .int .i64 0], [], []⟩
  | _, _, _, _ => none
def E_dvopen_eq := And.intro (@E_dvopen.eq_1) (@E_dvopen.eq_1)
theorem E_dvopen_ok : Snd Tryz.prog 44 E_dvopen := by
  intro vs b k n e h hn hp
  unfold E_dvopen at h
  split at h
  · cases h; obtain ⟨hp0, hp1, hq0⟩ := hp; obtain ⟨_, rfl⟩ := LI_ex hq0; simp only [ints_LI, bys_LB, blks_LK, lls_LL] at hp0 hp1 ⊢; exact (spec_dvopen _ _ _ _ _ _ _ _ _ _ _ _ _ _ _ hp0 hp1).lift rfl _
  · cases h
end Go.Vam
