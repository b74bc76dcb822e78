/- What the law BridgeHolds calls: run, Plan, Bound, Declared. Conditions: none. -/
import Derived.Test.YtmlmgpnkemdilaaBdgM
import Derived.Laws.Externs
set_option linter.unusedVariables false
set_option linter.unusedSimpArgs false
set_option maxRecDepth 40000
set_option maxHeartbeats 4000000
namespace Go.Vam
open Go.Proofs

/-- Lists of transfers. -/
def trD (x : Int × Int) : D := .agg [.int .i64 x.1, .int .i64 x.2]
def LT (l : List (Int × Int)) : List D := l.map trD
def dTr : D → Int × Int
  | .agg [.int _ a, .int _ b] => (a, b)
  | _ => (0, 0)
def trs (l : List D) : List (Int × Int) := l.map dTr
section
variable {l m : List (Int × Int)} {n : Nat} {a b : Int}
theorem trs_LT : trs (LT l) = l := by
  simp only [trs, LT, List.map_map]
  rw [show (dTr ∘ trD) = id from ?_, List.map_id]
  funext p
  rfl
theorem LT_ex {q : List D} (e : q = LT (trs q)) : ∃ l, q = LT l := ⟨_, e⟩
theorem LT_nil : LT [] = [] := rfl
theorem LT_length : (LT l).length = l.length := List.length_map ..
theorem LT_getD : ((LT l)[n]?).getD (D.agg [.int .i64 0, .int .i64 0]) = .agg [.int .i64 (l[n]?.getD (0, 0)).1, .int .i64 (l[n]?.getD (0, 0)).2] := by
  simp only [LT, List.getElem?_map]
  cases l[n]? <;> rfl
theorem LT_append : LT l ++ LT m = LT (l ++ m) := (List.map_append ..).symm
theorem LT_one : [D.agg [.int .i64 a, .int .i64 b]] = LT [(a, b)] := rfl
theorem LT_cells : (∀ y ∈ LT l, y.cells.length = 2) = True := by
  refine eq_true fun y hy => ?_
  obtain ⟨x, _, rfl⟩ := List.mem_map.1 hy
  rfl
theorem LT_inj : (LT l = LT m) = (l = m) := by
  refine propext ⟨fun h => ?_, fun h => by rw [h]⟩
  have := congrArg trs h
  rwa [trs_LT, trs_LT] at this
theorem LT_nil_eq : (LT l = []) = (l = []) := by cases l <;> simp [LT]
theorem LT_trs_LT : (LT l = LT (trs (LT l))) = True := by rw [trs_LT]; exact eq_self _
theorem LT_take : (LT l).take n = LT (l.take n) := (List.map_take ..).symm
theorem LT_drop : (LT l).drop n = LT (l.drop n) := (List.map_drop ..).symm
end
/-- What run draws. -/
def flI (n a b : Int) : Int := IntKind.i64.wrap ((IntKind.i64.wrap (n * a)).tdiv b)
def rbN (i : Nat) : Int := ([1, 147, 160, 2, 1] : List Int)[i]?.getD 0
def rbD (i : Nat) : Int := ([1, 160, 147, 1, 6] : List Int)[i]?.getD 0
theorem gBD {i : Nat} : ((D.agg [.int .i64 1, .int .i64 1] :: D.agg [.int .i64 147, .int .i64 160] :: D.agg [.int .i64 160, .int .i64 147] :: D.agg [.int .i64 2, .int .i64 1] :: LT [(1, 6)])[i]?).getD (D.agg [.int .i64 0, .int .i64 0]) = .agg [.int .i64 (rbN i), .int .i64 (rbD i)] := by
  match i with
  | 0 => rfl
  | 1 => rfl
  | 2 => rfl
  | 3 => rfl
  | 4 => rfl
  | i + 5 => rfl
def rn2 (l : List UInt8) : List UInt8 := dT (dT (dT (dT (dT l 5) 4) 4) 3) 3
def rnW (l : List UInt8) : Int := IntKind.i64.wrap (16 + IntKind.i64.wrap (8 * dN (dT l 5) 4))
def rnX (l : List UInt8) : Int := ([0, 66, 400, 1500] : List Int)[(dN (dT (dT l 5) 4) 4).toNat]?.getD 0
def rnJ (l : List UInt8) : Int := IntKind.i64.wrap (3 + IntKind.i64.wrap ((IntKind.i64.wrap (2 * rbN (dN l 5).toNat)).tdiv (rbD (dN l 5).toNat)))
def rnS (x : Int) (i : Nat) : Int := ([0, IntKind.i64.wrap (x.tdiv 2), IntKind.i64.wrap ((IntKind.i64.wrap (0 - x)).tdiv 2)] : List Int)[i]?.getD 0
def rnI (l : List UInt8) : Int := IntKind.i64.wrap (65536 + rnS (rnX l) (dN (dT (dT (dT l 5) 4) 4) 3).toNat)
def rnO (l : List UInt8) : Int := IntKind.i64.wrap (65536 + rnS (rnX l) (dN (dT (dT (dT (dT l 5) 4) 4) 3) 3).toNat)
def rnQ (l : List UInt8) : Nat → List UInt8
  | 0 => rn2 l
  | k + 1 => dT (dT (rnQ l k) 2) 2
def rnA (l : List UInt8) : Nat → Int
  | 0 => 0
  | k + 1 => dN (rnQ l k) 2
def rnB (l : List UInt8) : Nat → Int
  | 0 => 0
  | k + 1 => dN (dT (rnQ l k) 2) 2
def mx0 (x : Int) : Int := if 0 < x then x else 0
def rnG (l : List UInt8) (k : Nat) : Int := mx0 (IntKind.i64.wrap (IntKind.i64.wrap (IntKind.i64.wrap (flI (IntKind.i64.wrap ((k : Int) + 1)) (IntKind.i64.wrap (IntKind.i64.wrap (rnW l * rbD (dN l 5).toNat) * rnO l)) (IntKind.i64.wrap (65536 * rbN (dN l 5).toNat)) - flI ((k : Int)) (IntKind.i64.wrap (IntKind.i64.wrap (rnW l * rbD (dN l 5).toNat) * rnO l)) (IntKind.i64.wrap (65536 * rbN (dN l 5).toNat))) + dN (dT (rnQ l k) 2) 2) - rnB l k))
def rnP (l : List UInt8) (k : Nat) : Int := mx0 (IntKind.i64.wrap (IntKind.i64.wrap (IntKind.i64.wrap (flI (IntKind.i64.wrap ((k : Int) + 1)) (IntKind.i64.wrap (rnW l * rnI l)) (65536) - flI ((k : Int)) (IntKind.i64.wrap (rnW l * rnI l)) (65536)) + dN (rnQ l k) 2) - rnA l k))
def rnM (l : List UInt8) : Nat → List (Int × Int)
  | 0 => []
  | k + 1 => rnM l k ++ [(rnG l k, rnP l k)]
theorem rnM_len (l : List UInt8) : ∀ k, (rnM l k).length = k
  | 0 => rfl
  | k + 1 => by rw [rnM, List.length_append, rnM_len l k]; rfl
theorem rb_in (i : Nat) (hi : i < 5) : (1 ≤ rbN i ∧ rbN i ≤ 160) ∧ (1 ≤ rbD i ∧ rbD i ≤ 160) := by
  have : ∀ i, i < 5 → (1 ≤ rbN i ∧ rbN i ≤ 160) ∧ (1 ≤ rbD i ∧ rbD i ≤ 160) := by decide
  exact this i hi


theorem spec_floor (n a b : Int) (hb : b ≠ 0) : Spec Try.prog 0 64 [vI .i64 n, vI .i64 a, vI .i64 b] [] [] (vI .i64 (flI n a b)) [] [] := by
  refine spec_of_E (X := ⟨Try.prog, tt, Try.f64.ntmps, 1, fun _ => 0, (tab [])⟩) (M := []) (m := 71) rfl rfl ⟨tt_ok, tab_ok tabs_nil _ rfl rfl⟩ tt_mixed Try.func64 rfl (by decide) (by show (3 : Nat) ≤ _; exact Nat.le_of_ble_eq_true rfl) ⟨fun m hm => (V.bare_has rfl m hm).elim, by simp, by simp⟩ ?_
  simp only [↓gPre, gPost, gCore, handV, V.bufs, buildArr, toCs, Nat.reduceShiftRight, Nat.reduceMod, addB, addK, zeroOp, callSem, resName, keepsB, newB, V.pure, C.pure, V.ptrs, C.ptrs, C.bufs, appendSem, appendTo, appendZ, dstOk, lk, V.cells, Op.eff, partV, partD, cut, lay, zeroD, C.toDs, C.toD, V.toD, toDs, buildCells, if_true, if_false, ↓reduceIte, reduceCtorEq, Nat.reduceEqDiff, Nat.reduceLT, Nat.reduceLeDiff, implies_true, forall_const, eq_self, ne_eq, not_true_eq_false, not_false_eq_true, imp_self, Nat.reduceAdd, Nat.reduceMul, Int.reduceLE, Int.reduceLT, Int.reduceNeg, Int.reduceAdd, Int.reduceToNat, rs_eta, ph_eta, ct_eta, br_eta, LT_nil, LT_length, LT_getD, LT_append, LT_one, LT_cells, LT_inj, LT_nil_eq, LT_trs_LT, LT_take, LT_drop, trs_LT, gBD, Try.ntmps64, Try.results64, gTT]
  exact ⟨hb, rfl⟩
def E_floor : List V → Boxes → Toks → Name → Option Ent
  | [.c (.d (.int .i64 n)), .c (.d (.int .i64 a)), .c (.d (.int .i64 b))], [], [], _ => some ⟨b ≠ 0, vI .i64 (flI n a b), [], []⟩
  | _, _, _, _ => none
theorem E_floor_eq {n a b : Int}  {nF : Name} : E_floor [.c (.d (.int .i64 n)), .c (.d (.int .i64 a)), .c (.d (.int .i64 b))] [] [] nF = some ⟨b ≠ 0, vI .i64 (flI n a b), [], []⟩ := Eq.trans rfl rfl
theorem E_floor_ok : Snd Try.prog 64 E_floor := by
  intro vs b k n e h hn hp
  unfold E_floor at h
  split at h
  · cases h; have hp0 := hp; exact (spec_floor _ _ _ hp0).lift rfl _
  · cases h

theorem spec_run (l : List UInt8) (k : Int) (hk : 0 ≤ k ∧ k ≤ 100) : Spec Try.prog 0 33 [.c (.lp ⟨0, 0⟩ 0), vI .i64 k] [(⟨0, 0⟩, [.d (.list (LB l))])] [] (.agg [.d (.int .i64 (rbN (dN l 5).toNat)), .d (.int .i64 (rbD (dN l 5).toNat)), .d (.int .i64 (rnW l)), .d (.int .i64 1), .d (.int .i64 (rnX l)), .d (.int .i64 (rnJ l)), .own ⟨0, 9⟩ (LT (rnM l k.toNat))]) [(⟨0, 0⟩, [.d (.list (LB (rnQ l k.toNat)))])] [(⟨0, 9⟩, ⟨false, 2, (LT (rnM l k.toNat))⟩)] := by
  refine spec_of_E_new (X := ⟨Try.prog, tt, Try.f33.ntmps, 1, fun _ => 0, (tab [(14, E_next), (64, E_floor)])⟩) (M := [(1, [0, 0, 0, 0, 0, 302231454903657425862643, 0, 0, 0, 0, 0, 302231454903657360850931, 0]), (4, [0, 0, 0, 0, 0, 302231456029282322677747, 0, 0, 0, 0, 0, 302231455999045752913907, 0, 0, 0, 0, 0, 0]), (5, [0, 0, 0, 0, 0, 377789287104374225567731, 0, 0, 0, 0, 0, 377787012786562403467251, 0, 0, 0, 0, 0, 377683249851147787239411, 0, 0, 0, 0, 0, 368349197349850754121715, 0, 0, 0, 0]), (11, [0, 0, 0, 0, 0, 2534063562648628326375801028595, 0, 0, 0, 0, 0, 2456073340173649369057156202483, 0, 0, 0, 0, 0]), (12, [0, 0, 0, 0, 0, 10889035675552199921191513463645309829107, 0, 0, 0, 0, 0, 10889031203280882315998184983276401262579, 0, 0, 0, 0, 0, 10888848818783123879264815243606024585203, 0, 0, 0, 0, 0, 10873147313082914560516139022706463014899, 0, 0, 0, 0, 0, 9527906273786277279205943911746803662835, 0, 0, 0])]) (m := 302231454903657293742067) (r0 := .agg [.d (.int .i64 (rbN (dN l 5).toNat)), .d (.int .i64 (rbD (dN l 5).toNat)), .d (.int .i64 (rnW l)), .d (.int .i64 1), .d (.int .i64 (rnX l)), .d (.int .i64 (rnJ l)), .own ⟨1, 99⟩ (LT (rnM l k.toNat))]) (b0 := [(⟨0, 0⟩, [.d (.list (LB (rnQ l k.toNat)))])]) (k0 := [(⟨1, 99⟩, ⟨false, 2, (LT (rnM l k.toNat))⟩)]) ⟨1, 99⟩ ⟨0, 9⟩ rfl rfl ⟨tt_ok, tab_ok (tabs_cons E_next_ok (tabs_cons E_floor_ok tabs_nil)) _ rfl rfl⟩ tt_mixed Try.func33 rfl (by decide) (by show (2 : Nat) ≤ _; exact Nat.le_of_ble_eq_true rfl) rfl rfl rfl ⟨by simp [V.has, C.has], by simp [C.has], by simp⟩ (by decide) (by simp [V.names, C.names, namesB, namesK]) (by simp [lk]) (by simp [lk]) (by simp [lk]) ?_
  simp only [↓gPre, gPost, gCore, handV, V.bufs, buildArr, toCs, Nat.reduceShiftRight, Nat.reduceMod, addB, addK, zeroOp, callSem, resName, keepsB, newB, V.pure, C.pure, V.ptrs, C.ptrs, C.bufs, appendSem, appendTo, appendZ, dstOk, lk, V.cells, Op.eff, partV, partD, cut, lay, zeroD, C.toDs, C.toD, V.toD, toDs, buildCells, if_true, if_false, ↓reduceIte, reduceCtorEq, Nat.reduceEqDiff, Nat.reduceLT, Nat.reduceLeDiff, implies_true, forall_const, eq_self, ne_eq, not_true_eq_false, not_false_eq_true, imp_self, Nat.reduceAdd, Nat.reduceMul, Int.reduceLE, Int.reduceLT, Int.reduceNeg, Int.reduceAdd, Int.reduceToNat, E_next_eq, E_floor_eq, rs_eta, ph_eta, ct_eta, br_eta, LT_nil, LT_length, LT_getD, LT_append, LT_one, LT_cells, LT_inj, LT_nil_eq, LT_trs_LT, LT_take, LT_drop, trs_LT, gBD, Try.ntmps33, Try.results33, gTT]
  have a1 := dN_lt l 5 (by decide)
  have a2 := dN_ge l 5
  have b1 := dN_lt (dT (dT l 5) 4) 4 (by decide)
  have b2 := dN_ge (dT (dT l 5) 4) 4
  have c1 := dN_lt (dT (dT (dT l 5) 4) 4) 3 (by decide)
  have c2 := dN_ge (dT (dT (dT l 5) 4) 4) 3
  have d1 := dN_lt (dT (dT (dT (dT l 5) 4) 4) 3) 3 (by decide)
  have d2 := dN_ge (dT (dT (dT (dT l 5) 4) 4) 3) 3
  have hb := rb_in (dN l 5).toNat (by omega)
  refine ⟨⟨by omega, by omega⟩, by kernel_rfl, ⟨by omega, by omega⟩, by omega, by kernel_rfl, by decide, by decide, ⟨by omega, by omega⟩, by decide, by decide, ⟨by omega, by omega⟩, ?_⟩
  refine ELoop_nilB ⟨1, 5⟩ 6 2 ⟨1, 99⟩ rfl rfl (by simp only [↓gPre, gPost, gCore, handV, V.bufs, buildArr, toCs, Nat.reduceShiftRight, Nat.reduceMod, addB, addK, zeroOp, callSem, resName, keepsB, newB, V.pure, C.pure, V.ptrs, C.ptrs, C.bufs, appendSem, appendTo, appendZ, dstOk, lk, V.cells, Op.eff, partV, partD, cut, lay, zeroD, C.toDs, C.toD, V.toD, toDs, buildCells, if_true, if_false, ↓reduceIte, reduceCtorEq, Nat.reduceEqDiff, Nat.reduceLT, Nat.reduceLeDiff, implies_true, forall_const, eq_self, ne_eq, not_true_eq_false, not_false_eq_true, imp_self, Nat.reduceAdd, Nat.reduceMul, Int.reduceLE, Int.reduceLT, Int.reduceNeg, Int.reduceAdd, Int.reduceToNat, E_next_eq, E_floor_eq, rs_eta, ph_eta, ct_eta, br_eta, LT_nil, LT_length, LT_getD, LT_append, LT_one, LT_cells, LT_inj, LT_nil_eq, LT_trs_LT, LT_take, LT_drop, trs_LT, gBD, Try.ntmps33, Try.results33, gTT]) (Nat.le_refl _) ?_
  simp only [↓gPre, gPost, gCore, handV, V.bufs, buildArr, toCs, Nat.reduceShiftRight, Nat.reduceMod, addB, addK, zeroOp, callSem, resName, keepsB, newB, V.pure, C.pure, V.ptrs, C.ptrs, C.bufs, appendSem, appendTo, appendZ, dstOk, lk, V.cells, Op.eff, partV, partD, cut, lay, zeroD, C.toDs, C.toD, V.toD, toDs, buildCells, if_true, if_false, ↓reduceIte, reduceCtorEq, Nat.reduceEqDiff, Nat.reduceLT, Nat.reduceLeDiff, implies_true, forall_const, eq_self, ne_eq, not_true_eq_false, not_false_eq_true, imp_self, Nat.reduceAdd, Nat.reduceMul, Int.reduceLE, Int.reduceLT, Int.reduceNeg, Int.reduceAdd, Int.reduceToNat, E_next_eq, E_floor_eq, rs_eta, ph_eta, ct_eta, br_eta, LT_nil, LT_length, LT_getD, LT_append, LT_one, LT_cells, LT_inj, LT_nil_eq, LT_trs_LT, LT_take, LT_drop, trs_LT, gBD, Try.ntmps33, Try.results33, gTT]
  refine ELoop_keep (fun g => ⟨[(11, vI .i64 (g : Nat)), (9, vI .i64 (rnA l g)), (10, vI .i64 (rnB l g))], [(⟨0, 0⟩, [.d (.list (LB (rnQ l g)))]), (⟨1, 5⟩, [.d (.int .i64 (rbN (dN l 5).toNat)), .d (.int .i64 (rbD (dN l 5).toNat)), .d (.int .i64 (rnW l)), .d (.int .i64 1), .d (.int .i64 (rnX l)), .d (.int .i64 (rnJ l)), .own ⟨1, 99⟩ (LT (rnM l g))])], [(⟨1, 99⟩, ⟨false, 2, LT (rnM l g)⟩)]⟩) (fun g => (g : Int) ≤ k) (fun g => k.toNat - g) (· + 1) 0 (by omega) ?_ ?_
  · simp only [↓gPre, gPost, gCore, handV, V.bufs, buildArr, toCs, Nat.reduceShiftRight, Nat.reduceMod, addB, addK, zeroOp, callSem, resName, keepsB, newB, V.pure, C.pure, V.ptrs, C.ptrs, C.bufs, appendSem, appendTo, appendZ, dstOk, lk, V.cells, Op.eff, partV, partD, cut, lay, zeroD, C.toDs, C.toD, V.toD, toDs, buildCells, if_true, if_false, ↓reduceIte, reduceCtorEq, Nat.reduceEqDiff, Nat.reduceLT, Nat.reduceLeDiff, implies_true, forall_const, eq_self, ne_eq, not_true_eq_false, not_false_eq_true, imp_self, Nat.reduceAdd, Nat.reduceMul, Int.reduceLE, Int.reduceLT, Int.reduceNeg, Int.reduceAdd, Int.reduceToNat, E_next_eq, E_floor_eq, rs_eta, ph_eta, ct_eta, br_eta, LT_nil, LT_length, LT_getD, LT_append, LT_one, LT_cells, LT_inj, LT_nil_eq, LT_trs_LT, LT_take, LT_drop, trs_LT, gBD, Try.ntmps33, Try.results33, gTT]
    exact ⟨⟨rfl, rfl, rfl⟩, ⟨rfl, rfl, rfl, rfl, rfl⟩, rfl⟩
  intro g hg
  simp only [↓gPre, gPost, gCore, handV, V.bufs, buildArr, toCs, Nat.reduceShiftRight, Nat.reduceMod, addB, addK, zeroOp, callSem, resName, keepsB, newB, V.pure, C.pure, V.ptrs, C.ptrs, C.bufs, appendSem, appendTo, appendZ, dstOk, lk, V.cells, Op.eff, partV, partD, cut, lay, zeroD, C.toDs, C.toD, V.toD, toDs, buildCells, if_true, if_false, ↓reduceIte, reduceCtorEq, Nat.reduceEqDiff, Nat.reduceLT, Nat.reduceLeDiff, implies_true, forall_const, eq_self, ne_eq, not_true_eq_false, not_false_eq_true, imp_self, Nat.reduceAdd, Nat.reduceMul, Int.reduceLE, Int.reduceLT, Int.reduceNeg, Int.reduceAdd, Int.reduceToNat, E_next_eq, E_floor_eq, rs_eta, ph_eta, ct_eta, br_eta, LT_nil, LT_length, LT_getD, LT_append, LT_one, LT_cells, LT_inj, LT_nil_eq, LT_trs_LT, LT_take, LT_drop, trs_LT, gBD, Try.ntmps33, Try.results33, gTT]
  have hM : rnM l (g + 1) = rnM l g ++ [(rnG l g, rnP l g)] := rfl
  refine ⟨fun h1 => ?_, fun h1 => ?_⟩
  · have h2 := of_decide_eq_true h1
    have hlen := rnM_len l g
    exact ⟨by decide, by decide, by kernel_rfl, by rw [IntWalk.i64_in _ (by omega)]; omega, by rw [IntWalk.i64_in _ (by omega)]; omega, by unfold roomOK; omega, ⟨⟨(wrapN _ (by omega)).symm, rfl, rfl⟩, ⟨rfl, rfl⟩, rfl⟩, by omega, by omega⟩
  · have h2 := of_decide_eq_false h1
    have : k.toNat = g := by omega
    rw [this]
    exact ⟨rfl, rfl, rfl⟩
def E_run : List V → Boxes → Toks → Name → Option Ent
  | [.c (.lp n0 0), .c (.d (.int .i64 k))], [(m0, [.d (.list q_l)])], [], nF => some ⟨(0 ≤ k ∧ k ≤ 100) ∧ n0.lv ≤ 1 ∧ m0 = n0 ∧ nF ≠ n0 ∧ q_l = LB (bys q_l), .agg [.d (.int .i64 (rbN (dN (bys q_l) 5).toNat)), .d (.int .i64 (rbD (dN (bys q_l) 5).toNat)), .d (.int .i64 (rnW (bys q_l))), .d (.int .i64 1), .d (.int .i64 (rnX (bys q_l))), .d (.int .i64 (rnJ (bys q_l))), .own nF (LT (rnM (bys q_l) k.toNat))], [(n0, [.d (.list (LB (rnQ (bys q_l) k.toNat)))])], [(nF, ⟨false, 2, (LT (rnM (bys q_l) k.toNat))⟩)]⟩
  | _, _, _, _ => none
theorem E_run_eq {k : Int}  {q_l : List D} {n0 : Name} {m0 : Name} {nF : Name} : E_run [.c (.lp n0 0), .c (.d (.int .i64 k))] [(m0, [.d (.list q_l)])] [] nF = some ⟨(0 ≤ k ∧ k ≤ 100) ∧ n0.lv ≤ 1 ∧ m0 = n0 ∧ nF ≠ n0 ∧ q_l = LB (bys q_l), .agg [.d (.int .i64 (rbN (dN (bys q_l) 5).toNat)), .d (.int .i64 (rbD (dN (bys q_l) 5).toNat)), .d (.int .i64 (rnW (bys q_l))), .d (.int .i64 1), .d (.int .i64 (rnX (bys q_l))), .d (.int .i64 (rnJ (bys q_l))), .own nF (LT (rnM (bys q_l) k.toNat))], [(n0, [.d (.list (LB (rnQ (bys q_l) k.toNat)))])], [(nF, ⟨false, 2, (LT (rnM (bys q_l) k.toNat))⟩)]⟩ := Eq.trans rfl rfl
theorem E_run_ok : Snd Try.prog 33 E_run := by
  intro vs b k n e h hn hp
  unfold E_run at h
  split at h
  · cases h; obtain ⟨hp0, hl0, rfl, hd10, hq0⟩ := hp; obtain ⟨_, rfl⟩ := LB_ex hq0; simp only [ints_LI, bys_LB, blks_LK, lls_LL] at hp0 ⊢; exact Spec.ren2 (spec_run _ _ hp0) 0 9 (by simp [supOK, V.names, C.names, namesB, namesK]) hl0 (Nat.le_of_eq hn) hd10
  · cases h

/-- A sum over a window. -/
def sm (g : Nat → Int) (i : Nat) : Nat → Int
  | 0 => 0
  | m + 1 => sm g i m + g (i + m)
theorem sm_head (g : Nat → Int) (i : Nat) : ∀ m, sm g i (m + 1) = g i + sm g (i + 1) m
  | 0 => by simp [sm]
  | m + 1 => by
    rw [sm, sm_head g i m, sm, show i + (m + 1) = i + 1 + m by omega]
    omega
theorem sm_one (g : Nat → Int) (i : Nat) : sm g i 1 = g i := by simp [sm]
theorem sm_mul (g : Nat → Int) (c : Int) (i : Nat) : ∀ m, sm (fun j => c * g j) i m = c * sm g i m
  | 0 => by simp [sm]
  | m + 1 => by rw [sm, sm_mul g c i m, sm, Int.mul_add]
theorem last_le (P : Nat → Prop) : ∀ k, P 0 → ∃ i, i ≤ k ∧ P i ∧ ∀ j, i < j → j ≤ k → ¬ P j
  | 0, h => ⟨0, Nat.le_refl _, h, by omega⟩
  | k + 1, h => by
    by_cases hp : P (k + 1)
    · exact ⟨k + 1, Nat.le_refl _, hp, by omega⟩
    · obtain ⟨i, h1, h2, h3⟩ := last_le P k h
      refine ⟨i, by omega, h2, fun j h4 h5 => ?_⟩
      rcases Nat.lt_or_ge j (k + 1) with h6 | h6
      · exact h3 j h4 (by omega)
      · have : j = k + 1 := by omega
        subst this
        exact hp
theorem zsum {Z X Y a : Nat → Int} {L : Nat} (hs : ∀ j, j < L → Z (j + 1) = Z j + 65536 * Y j - 65536 * X j - a j * X j) (i : Nat) (c : Int) : ∀ m : Nat, i + m ≤ L → (∀ j, i ≤ j → j < i + m → a j = c) → Z (i + m) = Z i + 65536 * sm Y i m - 65536 * sm X i m - c * sm X i m
  | 0, _, _ => by simp [sm]
  | m + 1, hL, hc => by
    have h1 := zsum hs i c m (by omega) (fun j h1 h2 => hc j h1 (by omega))
    have h2 := hs (i + m) (by omega)
    rw [hc (i + m) (by omega) (by omega)] at h2
    rw [show i + (m + 1) = i + m + 1 by omega, h2, h1, sm, sm, Int.mul_add, Int.mul_add, Int.mul_add]
    omega
/-- The drifts of the law, with the most that the control adjusts. -/
def drM (dr Mo : Int) : Prop := (dr = 0 ∧ Mo = 0) ∨ (dr = 66 ∧ Mo = 67) ∨ (dr = 400 ∧ Mo = 403) ∨ (dr = 1500 ∧ Mo = 1536)
theorem num_dev {dr Mo A Jd y U Xi t G d sd e : Int} (hk : drM dr Mo) (hA : 0 ≤ A) (hJ : 0 ≤ Jd) (hy : 0 ≤ y) (w1 : G ≤ (y + A) * dr + 65536 * Jd) (w2 : y * (65536 - dr) - 65536 * Jd ≤ 65536 * U) (w3 : 65536 * Xi ≤ 65536 * A + A * dr + 65536 * Jd) (ht : t ≤ Mo * Xi) (hsd : 2 * A * (dr + Mo) ≤ 65536 * sd) (hd : 0 < d) (he : e < 65536 * d) :
    G + t - Mo * U + e < 65536 * sd + 131072 * Jd + 131072 * d := by
  rcases hk with ⟨rfl, rfl⟩ | ⟨rfl, rfl⟩ | ⟨rfl, rfl⟩ | ⟨rfl, rfl⟩ <;> omega
theorem num_need {dr Mo A Jd Xi t d sd f : Int} (hk : drM dr Mo) (hA : 0 ≤ A) (hJ : 0 ≤ Jd) (w3 : 65536 * Xi ≤ 65536 * A + A * dr + 65536 * Jd) (ht : t ≤ Mo * Xi) (hsd : 2 * A * (dr + Mo) ≤ 65536 * sd) (hd : 0 < d) (hf : f < 65536 * d) :
    f + 65536 * Xi + t < 65536 * A + 65536 * sd + 131072 * Jd + 131072 * d := by
  rcases hk with ⟨rfl, rfl⟩ | ⟨rfl, rfl⟩ | ⟨rfl, rfl⟩ | ⟨rfl, rfl⟩ <;> omega
/-- What was declared about both sides: over each window. -/
structure winX (X Y : Nat → Int) (A dr Jd : Int) (L : Nat) : Prop where
  u : ∀ i m : Nat, i + m < L → 65536 * sm X i (m + 1) ≤ ((m : Int) + 1) * A * 65536 + (((m : Int) + 1) * A * dr + 65536 * Jd)
  w : ∀ i m : Nat, i + m < L → ((m : Int) + 1) * A * 65536 ≤ 65536 * sm X i (m + 1) + (((m : Int) + 1) * A * dr + 65536 * Jd)
  uv : ∀ i m : Nat, i + m < L → 65536 * sm X i (m + 1) ≤ 65536 * sm Y i (m + 1) + (((m : Int) + 1) * A * dr + 65536 * Jd)
  vu : ∀ i m : Nat, i + m < L → 65536 * sm Y i (m + 1) ≤ 65536 * sm X i (m + 1) + (((m : Int) + 1) * A * dr + 65536 * Jd)
theorem win_low {X Y : Nat → Int} {A dr Jd : Int} {L : Nat} (h : winX X Y A dr Jd L) (hJ : 0 ≤ Jd) (i m : Nat) (hL : i + m ≤ L) : (m : Int) * A * (65536 - dr) - 65536 * Jd ≤ 65536 * sm X i m := by
  match m with
  | 0 => simp [sm]; omega
  | m + 1 =>
    have := h.w i m (by omega)
    rw [show ((m + 1 : Nat) : Int) = (m : Int) + 1 by omega, Int.mul_sub]
    omega
/-- Above the threshold the control does its most; so the fill stays within the bound. -/
theorem dev_up {F f X Y a : Nat → Int} {d A dr Mo Jd sw J T M : Int} {L : Nat} (hk : drM dr Mo) (hA : 0 ≤ A) (hJ : 0 ≤ J) (hJd : Jd = J * d) (hd : 0 < d) (hsd : 2 * A * (dr + Mo) ≤ 65536 * (sw * d))
    (hw : winX X Y A dr Jd L) (hX : ∀ j, j < L → 0 ≤ X j) (hsw : 0 ≤ sw) (hf : ∀ i j, i ≤ L → j ≤ L → f i - f j < 65536 * d)
    (hs : ∀ j, j < L → F (j + 1) * (65536 * d) - f (j + 1) = F j * (65536 * d) - f j + 65536 * Y j - 65536 * X j - a j * X j)
    (ha : ∀ j, j < L → -Mo ≤ a j ∧ a j ≤ Mo) (hhi : ∀ j, j < L → M < F j - T → a j = Mo) (h0 : F 0 - T ≤ M) (k : Nat) (hkL : k ≤ L) : F k - T ≤ M + sw + 2 * J + 1 := by
  obtain ⟨i, h1, h2, h3⟩ := last_le (fun j => F j - T ≤ M) k h0
  have hJd0 : 0 ≤ Jd := by rw [hJd]; exact Int.mul_nonneg hJ (by omega)
  by_cases hik : i = k
  · subst hik
    have h2' : F i - T ≤ M := h2
    omega
  obtain ⟨m, hm⟩ : ∃ m : Nat, k = i + 1 + m := ⟨k - i - 1, by omega⟩
  subst hm
  have z1 := hs i (by omega)
  have z2 := zsum (Z := fun j => F j * (65536 * d) - f j) hs (i + 1) Mo m hkL (fun j h4 h5 => hhi j (by omega) (by have := h3 j (by omega) (by omega); omega))
  have e1 := sm_head X i m
  have e2 := sm_head Y i m
  have w1 := hw.vu i m (by omega)
  have w2 := win_low hw hJd0 (i + 1) m (by omega)
  have w3 := hw.u i 0 (by omega)
  rw [Nat.zero_add, sm_one, show ((0 : Nat) : Int) + 1 = 1 by omega, Int.one_mul] at w3
  have hXi := hX i (by omega)
  have hai := ha i (by omega)
  have ht : -(a i * X i) ≤ Mo * X i := by
    have := Int.mul_le_mul_of_nonneg_right (show -a i ≤ Mo by omega) hXi
    rw [Int.neg_mul] at this
    exact this
  have hf1 := hf (i + 1 + m) i hkL (by omega)
  have hy : 0 ≤ (m : Int) * A := Int.mul_nonneg (Int.natCast_nonneg m) hA
  have e3 : ((m : Int) + 1) * A * dr = ((m : Int) * A + A) * dr := by rw [Int.add_mul, Int.one_mul]
  have key := num_dev (G := 65536 * sm Y i (m + 1) - 65536 * sm X i (m + 1)) (U := sm X (i + 1) m) (Xi := X i) (t := -(a i * X i)) (y := (m : Int) * A) (e := f (i + 1 + m) - f i) hk hA hJd0 hy (by rw [← e3]; omega) w2 (by omega) ht hsd hd (by omega)
  have z3 : (F (i + 1 + m) - F i) * (65536 * d) < (sw + 2 * J + 2) * (65536 * d) := by
    have e4 : (sw + 2 * J + 2) * (65536 * d) = 65536 * (sw * d) + 131072 * Jd + 131072 * d := by
      rw [hJd, Int.add_mul, Int.add_mul, Int.mul_left_comm sw 65536 d, Int.mul_assoc 2 J, Int.mul_left_comm J 65536 d]
      omega
    rw [e4, Int.sub_mul]
    omega
  have z4 := Int.lt_of_mul_lt_mul_right z3 (by omega)
  have h2' : F i - T ≤ M := h2
  omega
theorem sm_flip (X Y : Nat → Int) (i : Nat) : ∀ m, sm (fun j => 2 * X j - Y j) i m = 2 * sm X i m - sm Y i m
  | 0 => by simp [sm]
  | m + 1 => by rw [sm, sm_flip X Y i m, sm, sm]; omega
theorem dev_dn {F f X Y a : Nat → Int} {d A dr Mo Jd sw J T M : Int} {L : Nat} (hk : drM dr Mo) (hA : 0 ≤ A) (hJ : 0 ≤ J) (hJd : Jd = J * d) (hd : 0 < d) (hsd : 2 * A * (dr + Mo) ≤ 65536 * (sw * d))
    (hw : winX X Y A dr Jd L) (hX : ∀ j, j < L → 0 ≤ X j) (hsw : 0 ≤ sw) (hf : ∀ i j, i ≤ L → j ≤ L → f i - f j < 65536 * d)
    (hs : ∀ j, j < L → F (j + 1) * (65536 * d) - f (j + 1) = F j * (65536 * d) - f j + 65536 * Y j - 65536 * X j - a j * X j)
    (ha : ∀ j, j < L → -Mo ≤ a j ∧ a j ≤ Mo) (hlo : ∀ j, j < L → M < T - F j → a j = -Mo) (h0 : T - F 0 ≤ M) (k : Nat) (hkL : k ≤ L) : T - F k ≤ M + sw + 2 * J + 1 := by
  have h := dev_up (F := fun j => -F j) (f := fun j => -f j) (X := X) (Y := fun j => 2 * X j - Y j) (a := fun j => -a j) (T := -T) (M := M) (L := L) hk hA hJ hJd hd hsd
    ⟨hw.u, hw.w, fun i m hm => by rw [sm_flip]; have := hw.vu i m hm; omega, fun i m hm => by rw [sm_flip]; have := hw.uv i m hm; omega⟩ hX hsw
    (fun i j hi hj => by have := hf j i hj hi; show -f i - -f j < _; omega)
    (fun j hj => by
      have := hs j hj
      show -F (j + 1) * _ - -f (j + 1) = -F j * _ - -f j + 65536 * (2 * X j - Y j) - 65536 * X j - -a j * X j
      rw [Int.neg_mul, Int.neg_mul, Int.neg_mul]
      omega)
    (fun j hj => by have := ha j hj; show -Mo ≤ -a j ∧ -a j ≤ Mo; omega)
    (fun j hj h => by have := hlo j hj (by have h' : M < -F j - -T := h; omega); show -a j = Mo; omega)
    (by show -F 0 - -T ≤ M; omega) k hkL
  have h' : -F k - -T ≤ M + sw + 2 * J + 1 := h
  omega


/-- The numbers of ref18: quotients upwards, the sway, the bound. -/
def upI (a b : Int) : Int := (a + b - 1) / b
def swI (W n : Int) : Int := upI (2 * W * n) 65536
def bdI (cd cg cm W dr J st : Int) : Int := max st (cd + upI cm cg) + swI W (dr + cm) + 2 * J + 2
def plMo (dr : Int) : Int := upI (65536 * dr) (65536 - dr)
def plS (W dr J : Int) : Int := swI W dr + J + 1
def plB (W dr J dead g : Int) : Int := bdI dead g (plMo dr) W dr J (plS W dr J)
def plD (W dr J : Int) : Int := W + swI W (dr + plMo dr) + 2 * J + 3
def plT (W dr J dead g : Int) : Int := plD W dr J + plB W dr J dead g
theorem upI_in {a b : Int} (ha : 0 ≤ a) (hb : 1 ≤ b) : 0 ≤ upI a b ∧ upI a b ≤ a ∧ a ≤ upI a b * b := by
  have h1 : 0 ≤ (a + b - 1) / b := Int.ediv_nonneg (by omega) (by omega)
  have h2 := Int.mul_ediv_add_emod (a + b - 1) b
  have h3 := Int.emod_lt_of_pos (a + b - 1) (show 0 < b by omega)
  have h4 := Int.emod_nonneg (a + b - 1) (show b ≠ 0 by omega)
  unfold upI
  refine ⟨h1, ?_, by rw [Int.mul_comm]; omega⟩
  have h5 : (a + b - 1) / b < a + 1 := by
    apply Int.ediv_lt_of_lt_mul (by omega)
    have h6 : 0 ≤ a * (b - 1) := Int.mul_nonneg ha (by omega)
    rw [Int.mul_sub] at h6
    rw [Int.add_mul]
    omega
  omega
theorem upI_go {a b : Int} (ha : 0 ≤ a ∧ a ≤ 1099511627776) (hb : 1 ≤ b ∧ b ≤ 1099511627776) : IntKind.i64.wrap ((IntKind.i64.wrap (IntKind.i64.wrap (a + b) - 1)).tdiv b) = upI a b := by
  have h := upI_in ha.1 hb.1
  unfold upI at h ⊢
  rw [IntWalk.i64_in (a + b) (by omega), IntWalk.i64_in (a + b - 1) (by omega), Int.tdiv_eq_ediv_of_nonneg (by omega), IntWalk.i64_in _ (by omega)]
theorem swI_in {W n : Int} (hW : 0 ≤ W ∧ W ≤ 1000) (hn : 0 ≤ n ∧ n ≤ 100000) : 0 ≤ swI W n ∧ swI W n ≤ 200000000 ∧ 2 * W * n ≤ swI W n * 65536 := by
  have h1 := mulb (x := 2 * W) (y := n) (A := 2000) (B := 100000) (by omega) (by omega) hn.1 hn.2
  have h2 := upI_in (a := 2 * W * n) (b := 65536) h1.1 (by decide)
  unfold swI
  omega


theorem plMo_eq {dr : Int} (hd : dr = 0 ∨ dr = 66 ∨ dr = 400 ∨ dr = 1500) : drM dr (plMo dr) := by
  rcases hd with rfl | rfl | rfl | rfl
  · exact .inl ⟨rfl, by decide⟩
  · exact .inr (.inl ⟨rfl, by decide⟩)
  · exact .inr (.inr (.inl ⟨rfl, by decide⟩))
  · exact .inr (.inr (.inr ⟨rfl, by decide⟩))
/-- The numbers of a plan are small. -/
theorem pl_small {W dr J dead g : Int} (hW : 16 ≤ W ∧ W ≤ 40) (hd : dr = 0 ∨ dr = 66 ∨ dr = 400 ∨ dr = 1500) (hJ : 3 ≤ J ∧ J ≤ 7) (hde : 0 ≤ dead ∧ dead ≤ 39) (hg : 1 ≤ g ∧ g ≤ 256) :
    (0 ≤ plMo dr ∧ plMo dr ≤ 1536) ∧ (0 ≤ swI W dr ∧ swI W dr ≤ 10) ∧ (0 ≤ swI W (dr + plMo dr) ∧ swI W (dr + plMo dr) ≤ 10) ∧ (0 ≤ upI (plMo dr) g ∧ upI (plMo dr) g ≤ 1536) ∧ 65536 * dr ≤ plMo dr * (65536 - dr) := by
  have hM : (0 ≤ plMo dr ∧ plMo dr ≤ 1536) ∧ 65536 * dr ≤ plMo dr * (65536 - dr) ∧ dr ≤ 1500 := by
    rcases plMo_eq hd with ⟨h1, h2⟩ | ⟨h1, h2⟩ | ⟨h1, h2⟩ | ⟨h1, h2⟩ <;> (rw [h2]; subst h1; decide)
  have hu := upI_in (a := plMo dr) (b := g) hM.1.1 hg.1
  refine ⟨hM.1, ?_, ?_, ⟨hu.1, by omega⟩, hM.2.1⟩
  · unfold swI upI
    rcases hd with rfl | rfl | rfl | rfl <;> omega
  · unfold swI upI
    rcases plMo_eq hd with ⟨h1, h2⟩ | ⟨h1, h2⟩ | ⟨h1, h2⟩ | ⟨h1, h2⟩ <;> (rw [h2]; subst h1; omega)


/-- The transfers as functions. -/
def tG (l : List (Int × Int)) (j : Nat) : Int := (l[j]?.getD (0, 0)).1
def tP (l : List (Int × Int)) (j : Nat) : Int := (l[j]?.getD (0, 0)).2
def nearB (a b y : Int) : Bool := !decide (b + y < a) && !decide (a + y < b)
theorem nearB_in {a b y : Int} (h : nearB a b y = true) : a ≤ b + y ∧ b ≤ a + y := by
  simp only [nearB, Bool.and_eq_true, Bool.not_eq_true', decide_eq_false_iff_not] at h
  omega
def winB (n d W dr J : Int) (l : List (Int × Int)) (i m : Nat) : Bool :=
  nearB (sm (tG l) i (m + 1) * n * 65536) (((m : Int) + 1) * W * d * 65536) (((m : Int) + 1) * W * d * dr + J * d * 65536) &&
  nearB (sm (tP l) i (m + 1) * d * 65536) (((m : Int) + 1) * W * d * 65536) (((m : Int) + 1) * W * d * dr + J * d * 65536) &&
  nearB (sm (tG l) i (m + 1) * n * 65536) (sm (tP l) i (m + 1) * d * 65536) (((m : Int) + 1) * W * d * dr + J * d * 65536)
def inB (x : Int × Int) : Prop := (0 ≤ x.1 ∧ x.1 ≤ 65536) ∧ (0 ≤ x.2 ∧ x.2 ≤ 65536)
def dclP (n d W dr J : Int) (l : List (Int × Int)) : Prop := (∀ j, j < l.length → inB (l[j]?.getD (0, 0))) ∧ ∀ i m, i + m < l.length → winB n d W dr J l i m = true
def inBb (x : Int × Int) : Bool := decide (0 ≤ x.1) && decide (x.1 ≤ 65536) && decide (0 ≤ x.2) && decide (x.2 ≤ 65536)
theorem inBb_iff {x : Int × Int} : inBb x = true ↔ inB x := by
  simp only [inBb, inB, Bool.and_eq_true, decide_eq_true_eq]
  omega
def dclX (n d W dr J : Int) (l : List (Int × Int)) : Bool := (List.range l.length).all (fun j => inBb (l[j]?.getD (0, 0))) && (List.range l.length).all fun i => (List.range (l.length - i)).all fun m => winB n d W dr J l i m
theorem dclX_iff {n d W dr J : Int} {l : List (Int × Int)} : dclX n d W dr J l = true ↔ dclP n d W dr J l := by
  unfold dclX dclP
  rw [Bool.and_eq_true, List.all_eq_true, List.all_eq_true]
  constructor
  · rintro ⟨h1, h2⟩
    refine ⟨fun j hj => inBb_iff.1 (h1 j (List.mem_range.2 hj)), fun i m him => ?_⟩
    have h3 := h2 i (List.mem_range.2 (by omega))
    rw [List.all_eq_true] at h3
    exact h3 m (List.mem_range.2 (by omega))
  · rintro ⟨h1, h2⟩
    refine ⟨fun j hj => inBb_iff.2 (h1 j (List.mem_range.1 hj)), fun i hi => ?_⟩
    rw [List.all_eq_true]
    intro m hm
    have := List.mem_range.1 hm
    exact h2 i m (by omega)
theorem dclX_true {n d W dr J : Int} {l : List (Int × Int)} (h : dclP n d W dr J l) : dclX n d W dr J l = true := dclX_iff.2 h
theorem dclX_false {n d W dr J : Int} {l : List (Int × Int)} (h : ¬ dclP n d W dr J l) : dclX n d W dr J l = false := by
  cases hx : dclX n d W dr J l with
  | true => exact absurd (dclX_iff.1 hx) h
  | false => rfl
theorem dclX_in {n d W dr J : Int} {l : List (Int × Int)} (h : dclX n d W dr J l = true) : dclP n d W dr J l := dclX_iff.1 h
theorem win_of {n d W dr J : Int} {l : List (Int × Int)} (h : dclP n d W dr J l) : winX (fun j => n * tG l j) (fun j => d * tP l j) (W * d) dr (J * d) l.length := by
  have key : ∀ i m : Nat, i + m < l.length → (65536 * sm (fun j => n * tG l j) i (m + 1) = sm (tG l) i (m + 1) * n * 65536 ∧ 65536 * sm (fun j => d * tP l j) i (m + 1) = sm (tP l) i (m + 1) * d * 65536) ∧ (((m : Int) + 1) * (W * d) * 65536 = ((m : Int) + 1) * W * d * 65536 ∧ ((m : Int) + 1) * (W * d) * dr + 65536 * (J * d) = ((m : Int) + 1) * W * d * dr + J * d * 65536) := fun i m _ => by
    rw [sm_mul, sm_mul, Int.mul_comm n, Int.mul_comm d]
    refine ⟨⟨Int.mul_comm _ _, Int.mul_comm _ _⟩, by rw [Int.mul_assoc _ W d], ?_⟩
    rw [Int.mul_assoc _ W d, Int.mul_comm 65536]
  have hw : ∀ i m, i + m < l.length → _ := fun i m hm => h.2 i m hm
  refine ⟨fun i m hm => ?_, fun i m hm => ?_, fun i m hm => ?_, fun i m hm => ?_⟩ <;>
  · have h1 := h.2 i m hm
    obtain ⟨⟨k1, k2⟩, k3, k4⟩ := key i m hm
    simp only [winB, Bool.and_eq_true] at h1
    have n1 := nearB_in h1.1.1
    have n2 := nearB_in h1.1.2
    have n3 := nearB_in h1.2
    omega
/-- The fill and the fraction ahead of each pull, if nothing is lost and nothing missed. -/
def hsA (n d : Int) (c : Ct) (x : Int × Int) : Ph := ⟨n, d, ajX c x.1, 0, x.2⟩
def hsS (n d : Int) (c : Ct) (l : List (Int × Int)) (F : Int) : Nat → Int × Int
  | 0 => (F, 0)
  | k + 1 => ((hsS n d c l F k).1 - qAt (hsA n d c (hsS n d c l F k)) (tG l k) + tP l k, fAt (hsA n d c (hsS n d c l F k)) (tG l k))
theorem hs_V {n d : Int} {c : Ct} {l : List (Int × Int)} {F : Int} (hp : phV ⟨n, d, 0, 0, 0⟩ = true) (hl : ∀ j, j < l.length → inB (l[j]?.getD (0, 0))) : ∀ k, k ≤ l.length → phV (hsA n d c (hsS n d c l F k)) = true ∧ (0 ≤ (hsS n d c l F k).2 ∧ (hsS n d c l F k).2 < 65536 * d) ∧ prt (hsA n d c (hsS n d c l F k)) = 65536 * d
  | 0, _ => by
    have h1 := phV_adj hp (ajX_in c F)
    have h2 := (phV_in h1).2.2.2.2.2
    have hd : 1 ≤ d := (phV_in hp).2.1.1
    exact ⟨h1, ⟨Int.le_refl _, by show 0 < _; omega⟩, by rw [Int.mul_comm]; exact h2⟩
  | k + 1, hk => by
    obtain ⟨i1, i2, i3⟩ := hs_V (c := c) (F := F) hp hl k (by omega)
    have hq := qAt_in i1 (n := tG l k) (hl k (by omega)).1
    have hpr : prt (⟨n, d, 0, 0, 0⟩ : Ph) = 65536 * d := i3
    have e : (hsS n d c l F (k + 1)).2 = fAt (hsA n d c (hsS n d c l F k)) (tG l k) := rfl
    rw [e]
    rw [i3] at hq
    exact ⟨phV_adj (phV_at hp (P := 0) (F := fAt (hsA n d c (hsS n d c l F k)) (tG l k)) (by decide) ⟨hq.2.1, by rw [hpr]; exact hq.2.2.1⟩) (ajX_in c _), ⟨hq.2.1, hq.2.2.1⟩, hpr⟩
theorem hs_step {n d : Int} {c : Ct} {l : List (Int × Int)} {F : Int} (hp : phV ⟨n, d, 0, 0, 0⟩ = true) (hl : ∀ j, j < l.length → inB (l[j]?.getD (0, 0))) (k : Nat) (hk : k < l.length) :
    (hsS n d c l F (k + 1)).1 * (65536 * d) - (hsS n d c l F (k + 1)).2 = (hsS n d c l F k).1 * (65536 * d) - (hsS n d c l F k).2 + 65536 * (d * tP l k) - 65536 * (n * tG l k) - ajX c (hsS n d c l F k).1 * (n * tG l k) := by
  obtain ⟨i1, i2, i3⟩ := hs_V (c := c) (F := F) hp hl k (by omega)
  have hq := qAt_in i1 (n := tG l k) (hl k hk).1
  have hs := (stp_in i1).1
  have e0 : ahd (hsA n d c (hsS n d c l F k)) (tG l k) = (hsS n d c l F k).2 + tG l k * stp (hsA n d c (hsS n d c l F k)) := rfl
  have e1 : stp (hsA n d c (hsS n d c l F k)) = n * (65536 + ajX c (hsS n d c l F k).1) := hs
  have hq4 := hq.2.2.2
  rw [i3, e0, e1] at hq4
  have e2 : (hsS n d c l F (k + 1)).1 = (hsS n d c l F k).1 - qAt (hsA n d c (hsS n d c l F k)) (tG l k) + tP l k := rfl
  have e3 : (hsS n d c l F (k + 1)).2 = fAt (hsA n d c (hsS n d c l F k)) (tG l k) := rfl
  have e4 : tG l k * (n * (65536 + ajX c (hsS n d c l F k).1)) = 65536 * (n * tG l k) + ajX c (hsS n d c l F k).1 * (n * tG l k) := by
    rw [← Int.add_mul, Int.mul_comm (tG l k), Int.mul_assoc, Int.mul_comm (65536 + _) (tG l k), ← Int.mul_assoc, Int.mul_comm (n * tG l k)]
  have e5 : tP l k * (65536 * d) = 65536 * (d * tP l k) := by rw [Int.mul_left_comm, Int.mul_comm (tP l k)]
  rw [e2, e3, Int.add_mul, Int.sub_mul, e5]
  omega
/-- The control does its most above the threshold. -/
theorem aj_most {c : Ct} (hv : ctV c = true) {F M U : Int} (hU : c.m ≤ U * c.g) (hM : c.d + U ≤ M) (hF : 0 ≤ F ∧ F ≤ 2147483647) : (M < F - c.t → ajX c F = c.m) ∧ (M < c.t - F → ajX c F = -c.m) := by
  have hc := ctV_in hv
  have key : ∀ z : Int, M < z → szX c z = c.m := fun z hz => by
    have h1 : U * c.g ≤ (z - c.d) * c.g := Int.mul_le_mul_of_nonneg_right (by omega) (by omega)
    unfold szX
    have hUn : 0 ≤ z - c.d := by
      rcases Int.lt_or_le (z - c.d) 0 with h2 | h2
      · have h3 : (z - c.d) * c.g ≤ (-1) * c.g := Int.mul_le_mul_of_nonneg_right (by omega) (by omega)
        omega
      · exact h2
    rw [show max 0 (z - c.d) = z - c.d by omega]
    omega
  have hd : c.m ≤ U * c.g := hU
  unfold ajX
  rw [if_neg (by rw [hv]; decide), if_neg (by simp only [Bool.or_eq_true, decide_eq_true_eq]; omega)]
  have hUn : 0 ≤ U := by
    rcases Int.lt_or_le U 0 with h2 | h2
    · have h3 : U * c.g ≤ (-1) * c.g := Int.mul_le_mul_of_nonneg_right (by omega) (by omega)
      omega
    · exact h2
  refine ⟨fun h => ?_, fun h => ?_⟩
  · rw [if_neg (by omega), key _ h]
  · rw [if_pos (by omega), key _ h]
theorem aj_in {c : Ct} (hv : ctV c = true) (F : Int) : -c.m ≤ ajX c F ∧ ajX c F ≤ c.m := by
  have hc := ctV_in hv
  have key : ∀ z : Int, 0 ≤ szX c z ∧ szX c z ≤ c.m := fun z => by
    have h1 : 0 ≤ max 0 (z - c.d) * c.g := Int.mul_nonneg (by omega) (by omega)
    unfold szX
    omega
  unfold ajX
  split
  · omega
  · split
    · omega
    · have k1 := key (c.t - F)
      have k2 := key (F - c.t)
      split <;> omega


theorem spec_up18 (a b : Int) (ha : 0 ≤ a ∧ a ≤ 1099511627776) (hb : 1 ≤ b ∧ b ≤ 1099511627776) : Spec Try.prog 0 66 [vI .i64 a, vI .i64 b] [] [] (vI .i64 (upI a b)) [] [] := by
  refine spec_of_E (X := ⟨Try.prog, tt, Try.f66.ntmps, 1, fun _ => 0, (tab [])⟩) (M := []) (m := 19) rfl rfl ⟨tt_ok, tab_ok tabs_nil _ rfl rfl⟩ tt_mixed Try.func66 rfl (by decide) (by show (2 : Nat) ≤ _; exact Nat.le_of_ble_eq_true rfl) ⟨fun m hm => (V.bare_has rfl m hm).elim, by simp, by simp⟩ ?_
  simp only [↓gPre, gPost, gCore, handV, V.bufs, buildArr, toCs, Nat.reduceShiftRight, Nat.reduceMod, addB, addK, zeroOp, callSem, resName, keepsB, newB, V.pure, C.pure, V.ptrs, C.ptrs, C.bufs, appendSem, appendTo, appendZ, dstOk, lk, V.cells, Op.eff, partV, partD, cut, lay, zeroD, C.toDs, C.toD, V.toD, toDs, buildCells, if_true, if_false, ↓reduceIte, reduceCtorEq, Nat.reduceEqDiff, Nat.reduceLT, Nat.reduceLeDiff, implies_true, forall_const, eq_self, ne_eq, not_true_eq_false, not_false_eq_true, imp_self, Nat.reduceAdd, Nat.reduceMul, Int.reduceLE, Int.reduceLT, Int.reduceNeg, Int.reduceAdd, Int.reduceToNat, rs_eta, ph_eta, ct_eta, br_eta, LT_nil, LT_length, LT_getD, LT_append, LT_one, LT_cells, LT_inj, LT_nil_eq, LT_trs_LT, LT_take, LT_drop, trs_LT, gBD, Try.ntmps66, Try.results66, gTT]
  exact ⟨by omega, (upI_go ha hb).symm⟩
def E_up18 : List V → Boxes → Toks → Name → Option Ent
  | [.c (.d (.int .i64 a)), .c (.d (.int .i64 b))], [], [], _ => some ⟨(0 ≤ a ∧ a ≤ 1099511627776) ∧ (1 ≤ b ∧ b ≤ 1099511627776), vI .i64 (upI a b), [], []⟩
  | _, _, _, _ => none
theorem E_up18_eq {a b : Int}  {nF : Name} : E_up18 [.c (.d (.int .i64 a)), .c (.d (.int .i64 b))] [] [] nF = some ⟨(0 ≤ a ∧ a ≤ 1099511627776) ∧ (1 ≤ b ∧ b ≤ 1099511627776), vI .i64 (upI a b), [], []⟩ := Eq.trans rfl rfl
theorem E_up18_ok : Snd Try.prog 66 E_up18 := by
  intro vs b k n e h hn hp
  unfold E_up18 at h
  split at h
  · cases h; obtain ⟨hp0, hp1⟩ := hp; exact (spec_up18 _ _ hp0 hp1).lift rfl _
  · cases h

theorem spec_possible (W o : Int) (ho : o = 1) (hW : 1 ≤ W ∧ W ≤ 1000) : Spec Try.prog 0 69 [.agg [.d (.int .i64 W), .d (.int .i64 o)]] [] [] (vB true) [] [] := by
  refine spec_of_E (X := ⟨Try.prog, tt, Try.f69.ntmps, 1, fun _ => 0, (tab [(68, E_rrtvalid)])⟩) (M := [(1, [0, 0, 0, 0, 0, 67108647, 0, 0, 0, 0, 0, 67101703, 0, 0, 0, 0, 0, 66322439, 0, 0, 0, 0, 0, 0])]) (m := 7) rfl rfl ⟨tt_ok, tab_ok (tabs_cons E_rrtvalid_ok tabs_nil) _ rfl rfl⟩ tt_mixed Try.func69 rfl (by decide) (by show (1 : Nat) ≤ _; exact Nat.le_of_ble_eq_true rfl) ⟨fun m hm => (V.bare_has rfl m hm).elim, by simp, by simp⟩ ?_
  simp only [↓gPre, gPost, gCore, handV, V.bufs, buildArr, toCs, Nat.reduceShiftRight, Nat.reduceMod, addB, addK, zeroOp, callSem, resName, keepsB, newB, V.pure, C.pure, V.ptrs, C.ptrs, C.bufs, appendSem, appendTo, appendZ, dstOk, lk, V.cells, Op.eff, partV, partD, cut, lay, zeroD, C.toDs, C.toD, V.toD, toDs, buildCells, if_true, if_false, ↓reduceIte, reduceCtorEq, Nat.reduceEqDiff, Nat.reduceLT, Nat.reduceLeDiff, implies_true, forall_const, eq_self, ne_eq, not_true_eq_false, not_false_eq_true, imp_self, Nat.reduceAdd, Nat.reduceMul, Int.reduceLE, Int.reduceLT, Int.reduceNeg, Int.reduceAdd, Int.reduceToNat, E_rrtvalid_eq, rs_eta, ph_eta, ct_eta, br_eta, LT_nil, LT_length, LT_getD, LT_append, LT_one, LT_cells, LT_inj, LT_nil_eq, LT_trs_LT, LT_take, LT_drop, trs_LT, gBD, Try.ntmps69, Try.results69, gTT]
  subst ho
  have hr : rtV W 1 = true := by
    simp only [rtV, Bool.and_eq_true, decide_eq_true_eq, beq_iff_eq]
    exact ⟨⟨⟨⟨by omega, by decide⟩, by omega⟩, by decide⟩, by simp [gcdI]⟩
  rw [IntWalk.i64_in (64 * W) (by omega), IntWalk.i64_in (524288 * 1) (by decide), hr]
  symm
  simp only [Bool.and_eq_true, decide_eq_true_eq]
  exact ⟨⟨⟨trivial, by decide⟩, by omega⟩, by omega⟩
def E_possible : List V → Boxes → Toks → Name → Option Ent
  | [.agg [.d (.int .i64 W), .d (.int .i64 o)]], [], [], _ => some ⟨o = 1 ∧ (1 ≤ W ∧ W ≤ 1000), vB true, [], []⟩
  | _, _, _, _ => none
theorem E_possible_eq {W o : Int}  {nF : Name} : E_possible [.agg [.d (.int .i64 W), .d (.int .i64 o)]] [] [] nF = some ⟨o = 1 ∧ (1 ≤ W ∧ W ≤ 1000), vB true, [], []⟩ := Eq.trans rfl rfl
theorem E_possible_ok : Snd Try.prog 69 E_possible := by
  intro vs b k n e h hn hp
  unfold E_possible at h
  split at h
  · cases h; obtain ⟨hp0, hp1⟩ := hp; exact (spec_possible _ _ hp0 hp1).lift rfl _
  · cases h

theorem spec_sway (W o n : Int) (ho : o = 1) (hW : 1 ≤ W ∧ W ≤ 1000) (hn : 0 ≤ n ∧ n ≤ 100000) : Spec Try.prog 0 73 [.agg [.d (.int .i64 W), .d (.int .i64 o)], vI .i64 n] [] [] (vI .i64 (swI W n)) [] [] := by
  refine spec_of_E (X := ⟨Try.prog, tt, Try.f73.ntmps, 1, fun _ => 0, (tab [(66, E_up18)])⟩) (M := []) (m := 23) rfl rfl ⟨tt_ok, tab_ok (tabs_cons E_up18_ok tabs_nil) _ rfl rfl⟩ tt_mixed Try.func73 rfl (by decide) (by show (2 : Nat) ≤ _; exact Nat.le_of_ble_eq_true rfl) ⟨fun m hm => (V.bare_has rfl m hm).elim, by simp, by simp⟩ ?_
  simp only [↓gPre, gPost, gCore, handV, V.bufs, buildArr, toCs, Nat.reduceShiftRight, Nat.reduceMod, addB, addK, zeroOp, callSem, resName, keepsB, newB, V.pure, C.pure, V.ptrs, C.ptrs, C.bufs, appendSem, appendTo, appendZ, dstOk, lk, V.cells, Op.eff, partV, partD, cut, lay, zeroD, C.toDs, C.toD, V.toD, toDs, buildCells, if_true, if_false, ↓reduceIte, reduceCtorEq, Nat.reduceEqDiff, Nat.reduceLT, Nat.reduceLeDiff, implies_true, forall_const, eq_self, ne_eq, not_true_eq_false, not_false_eq_true, imp_self, Nat.reduceAdd, Nat.reduceMul, Int.reduceLE, Int.reduceLT, Int.reduceNeg, Int.reduceAdd, Int.reduceToNat, E_up18_eq, rs_eta, ph_eta, ct_eta, br_eta, LT_nil, LT_length, LT_getD, LT_append, LT_one, LT_cells, LT_inj, LT_nil_eq, LT_trs_LT, LT_take, LT_drop, trs_LT, gBD, Try.ntmps73, Try.results73, gTT]
  subst ho
  have hb := mulb (x := 2 * W) (y := n) (A := 2000) (B := 100000) (by omega) (by omega) hn.1 hn.2
  rw [IntWalk.i64_in (2 * W) (by omega), IntWalk.i64_in (2 * W * n) (by omega), IntWalk.i64_in (1 * 65536) (by decide)]
  exact ⟨⟨⟨by omega, by omega⟩, by decide, by decide⟩, rfl⟩
def E_sway : List V → Boxes → Toks → Name → Option Ent
  | [.agg [.d (.int .i64 W), .d (.int .i64 o)], .c (.d (.int .i64 n))], [], [], _ => some ⟨o = 1 ∧ (1 ≤ W ∧ W ≤ 1000) ∧ (0 ≤ n ∧ n ≤ 100000), vI .i64 (swI W n), [], []⟩
  | _, _, _, _ => none
theorem E_sway_eq {W o n : Int}  {nF : Name} : E_sway [.agg [.d (.int .i64 W), .d (.int .i64 o)], .c (.d (.int .i64 n))] [] [] nF = some ⟨o = 1 ∧ (1 ≤ W ∧ W ≤ 1000) ∧ (0 ≤ n ∧ n ≤ 100000), vI .i64 (swI W n), [], []⟩ := Eq.trans rfl rfl
theorem E_sway_ok : Snd Try.prog 73 E_sway := by
  intro vs b k n e h hn hp
  unfold E_sway at h
  split at h
  · cases h; obtain ⟨hp0, hp1, hp2⟩ := hp; exact (spec_sway _ _ _ hp0 hp1 hp2).lift rfl _
  · cases h

theorem spec_given18 (W o dr J : Int) (ho : o = 1) (hW : 1 ≤ W ∧ W ≤ 1000) (hd : 0 ≤ dr ∧ dr ≤ 4096) (hJ : 0 ≤ J ∧ J ≤ 1000) : Spec Try.prog 0 65 [.agg [.d (.int .i64 W), .d (.int .i64 o)], vI .i64 dr, vI .i64 J] [] [] (vB true) [] [] := by
  refine spec_of_E (X := ⟨Try.prog, tt, Try.f65.ntmps, 1, fun _ => 0, (tab [(69, E_possible)])⟩) (M := [(1, [0, 0, 0, 0, 0, 33550415, 0, 0, 0, 0, 0, 33423439, 0, 0, 0, 0, 0, 16777295, 0])]) (m := 79) rfl rfl ⟨tt_ok, tab_ok (tabs_cons E_possible_ok tabs_nil) _ rfl rfl⟩ tt_mixed Try.func65 rfl (by decide) (by show (3 : Nat) ≤ _; exact Nat.le_of_ble_eq_true rfl) ⟨fun m hm => (V.bare_has rfl m hm).elim, by simp, by simp⟩ ?_
  simp only [↓gPre, gPost, gCore, handV, V.bufs, buildArr, toCs, Nat.reduceShiftRight, Nat.reduceMod, addB, addK, zeroOp, callSem, resName, keepsB, newB, V.pure, C.pure, V.ptrs, C.ptrs, C.bufs, appendSem, appendTo, appendZ, dstOk, lk, V.cells, Op.eff, partV, partD, cut, lay, zeroD, C.toDs, C.toD, V.toD, toDs, buildCells, if_true, if_false, ↓reduceIte, reduceCtorEq, Nat.reduceEqDiff, Nat.reduceLT, Nat.reduceLeDiff, implies_true, forall_const, eq_self, ne_eq, not_true_eq_false, not_false_eq_true, imp_self, Nat.reduceAdd, Nat.reduceMul, Int.reduceLE, Int.reduceLT, Int.reduceNeg, Int.reduceAdd, Int.reduceToNat, E_possible_eq, rs_eta, ph_eta, ct_eta, br_eta, LT_nil, LT_length, LT_getD, LT_append, LT_one, LT_cells, LT_inj, LT_nil_eq, LT_trs_LT, LT_take, LT_drop, trs_LT, gBD, Try.ntmps65, Try.results65, gTT]
  refine ⟨⟨ho, hW⟩, ?_⟩
  symm
  simp only [Bool.and_eq_true, decide_eq_true_eq]
  omega
def E_given18 : List V → Boxes → Toks → Name → Option Ent
  | [.agg [.d (.int .i64 W), .d (.int .i64 o)], .c (.d (.int .i64 dr)), .c (.d (.int .i64 J))], [], [], _ => some ⟨o = 1 ∧ (1 ≤ W ∧ W ≤ 1000) ∧ (0 ≤ dr ∧ dr ≤ 4096) ∧ (0 ≤ J ∧ J ≤ 1000), vB true, [], []⟩
  | _, _, _, _ => none
theorem E_given18_eq {W o dr J : Int}  {nF : Name} : E_given18 [.agg [.d (.int .i64 W), .d (.int .i64 o)], .c (.d (.int .i64 dr)), .c (.d (.int .i64 J))] [] [] nF = some ⟨o = 1 ∧ (1 ≤ W ∧ W ≤ 1000) ∧ (0 ≤ dr ∧ dr ≤ 4096) ∧ (0 ≤ J ∧ J ≤ 1000), vB true, [], []⟩ := Eq.trans rfl rfl
theorem E_given18_ok : Snd Try.prog 65 E_given18 := by
  intro vs b k n e h hn hp
  unfold E_given18 at h
  split at h
  · cases h; obtain ⟨hp0, hp1, hp2, hp3⟩ := hp; exact (spec_given18 _ _ _ _ hp0 hp1 hp2 hp3).lift rfl _
  · cases h

theorem spec_start18 (W o dr J : Int) (ho : o = 1) (hW : 1 ≤ W ∧ W ≤ 1000) (hd : 0 ≤ dr ∧ dr ≤ 4096) (hJ : 0 ≤ J ∧ J ≤ 1000) : Spec Try.prog 0 36 [.agg [.d (.int .i64 W), .d (.int .i64 o)], vI .i64 dr, vI .i64 J] [] [] (vI .i64 (plS W dr J)) [] [] := by
  refine spec_of_E (X := ⟨Try.prog, tt, Try.f36.ntmps, 1, fun _ => 0, (tab [(73, E_sway)])⟩) (M := []) (m := 79) rfl rfl ⟨tt_ok, tab_ok (tabs_cons E_sway_ok tabs_nil) _ rfl rfl⟩ tt_mixed Try.func36 rfl (by decide) (by show (3 : Nat) ≤ _; exact Nat.le_of_ble_eq_true rfl) ⟨fun m hm => (V.bare_has rfl m hm).elim, by simp, by simp⟩ ?_
  simp only [↓gPre, gPost, gCore, handV, V.bufs, buildArr, toCs, Nat.reduceShiftRight, Nat.reduceMod, addB, addK, zeroOp, callSem, resName, keepsB, newB, V.pure, C.pure, V.ptrs, C.ptrs, C.bufs, appendSem, appendTo, appendZ, dstOk, lk, V.cells, Op.eff, partV, partD, cut, lay, zeroD, C.toDs, C.toD, V.toD, toDs, buildCells, if_true, if_false, ↓reduceIte, reduceCtorEq, Nat.reduceEqDiff, Nat.reduceLT, Nat.reduceLeDiff, implies_true, forall_const, eq_self, ne_eq, not_true_eq_false, not_false_eq_true, imp_self, Nat.reduceAdd, Nat.reduceMul, Int.reduceLE, Int.reduceLT, Int.reduceNeg, Int.reduceAdd, Int.reduceToNat, E_sway_eq, rs_eta, ph_eta, ct_eta, br_eta, LT_nil, LT_length, LT_getD, LT_append, LT_one, LT_cells, LT_inj, LT_nil_eq, LT_trs_LT, LT_take, LT_drop, trs_LT, gBD, Try.ntmps36, Try.results36, gTT]
  have h := swI_in (W := W) (n := dr) (by omega) (by omega)
  rw [IntWalk.i64_in (swI W dr + J) (by omega), IntWalk.i64_in (swI W dr + J + 1) (by omega)]
  exact ⟨⟨ho, hW, hd.1, by omega⟩, rfl⟩
def E_start18 : List V → Boxes → Toks → Name → Option Ent
  | [.agg [.d (.int .i64 W), .d (.int .i64 o)], .c (.d (.int .i64 dr)), .c (.d (.int .i64 J))], [], [], _ => some ⟨o = 1 ∧ (1 ≤ W ∧ W ≤ 1000) ∧ (0 ≤ dr ∧ dr ≤ 4096) ∧ (0 ≤ J ∧ J ≤ 1000), vI .i64 (plS W dr J), [], []⟩
  | _, _, _, _ => none
theorem E_start18_eq {W o dr J : Int}  {nF : Name} : E_start18 [.agg [.d (.int .i64 W), .d (.int .i64 o)], .c (.d (.int .i64 dr)), .c (.d (.int .i64 J))] [] [] nF = some ⟨o = 1 ∧ (1 ≤ W ∧ W ≤ 1000) ∧ (0 ≤ dr ∧ dr ≤ 4096) ∧ (0 ≤ J ∧ J ≤ 1000), vI .i64 (plS W dr J), [], []⟩ := Eq.trans rfl rfl
theorem E_start18_ok : Snd Try.prog 36 E_start18 := by
  intro vs b k n e h hn hp
  unfold E_start18 at h
  split at h
  · cases h; obtain ⟨hp0, hp1, hp2, hp3⟩ := hp; exact (spec_start18 _ _ _ _ hp0 hp1 hp2 hp3).lift rfl _
  · cases h

theorem spec_bound18 (ct cd cg cm W o dr J st : Int) (hv : ctV ⟨ct, cd, cg, cm⟩ = true) (ho : o = 1) (hW : 1 ≤ W ∧ W ≤ 1000) (hd : 0 ≤ dr ∧ dr ≤ 4096) (hJ : 0 ≤ J ∧ J ≤ 1000) (hm : 65536 * dr ≤ cm * (65536 - dr)) (hs : 0 ≤ st ∧ st ≤ 65536) : Spec Try.prog 0 37 [.agg [.d (.int .i64 ct), .d (.int .i64 cd), .d (.int .i64 cg), .d (.int .i64 cm)], .agg [.d (.int .i64 W), .d (.int .i64 o)], vI .i64 dr, vI .i64 J, vI .i64 st] [] [] (.tup [.int .i64 (bdI cd cg cm W dr J st), .int .i64 0]) [] [] := by
  refine spec_of_E (X := ⟨Try.prog, tt, Try.f37.ntmps, 1, fun _ => 0, (tab [(59, E_rctvalid), (65, E_given18), (66, E_up18), (73, E_sway)])⟩) (M := [(1, [0, 0, 0, 0, 0, 138512665727, 0, 0, 0, 0, 0, 138508504191, 0, 0, 0, 0, 0, 0]), (5, [0, 0, 0, 0, 0, 576457866622274687, 0, 0, 0, 0, 0, 576320152790895743, 0, 0, 0, 0, 0, 558446491769769087, 0, 0, 0, 0, 0])]) (m := 137975827583) rfl rfl ⟨tt_ok, tab_ok (tabs_cons E_rctvalid_ok (tabs_cons E_given18_ok (tabs_cons E_up18_ok (tabs_cons E_sway_ok tabs_nil)))) _ rfl rfl⟩ tt_mixed Try.func37 rfl (by decide) (by show (5 : Nat) ≤ _; exact Nat.le_of_ble_eq_true rfl) ⟨fun m hm => (V.bare_has rfl m hm).elim, by simp, by simp⟩ ?_
  simp only [↓gPre, gPost, gCore, handV, V.bufs, buildArr, toCs, Nat.reduceShiftRight, Nat.reduceMod, addB, addK, zeroOp, callSem, resName, keepsB, newB, V.pure, C.pure, V.ptrs, C.ptrs, C.bufs, appendSem, appendTo, appendZ, dstOk, lk, V.cells, Op.eff, partV, partD, cut, lay, zeroD, C.toDs, C.toD, V.toD, toDs, buildCells, if_true, if_false, ↓reduceIte, reduceCtorEq, Nat.reduceEqDiff, Nat.reduceLT, Nat.reduceLeDiff, implies_true, forall_const, eq_self, ne_eq, not_true_eq_false, not_false_eq_true, imp_self, Nat.reduceAdd, Nat.reduceMul, Int.reduceLE, Int.reduceLT, Int.reduceNeg, Int.reduceAdd, Int.reduceToNat, E_rctvalid_eq, E_given18_eq, E_up18_eq, E_sway_eq, rs_eta, ph_eta, ct_eta, br_eta, LT_nil, LT_length, LT_getD, LT_append, LT_one, LT_cells, LT_inj, LT_nil_eq, LT_trs_LT, LT_take, LT_drop, trs_LT, gBD, Try.ntmps37, Try.results37, gTT]
  have hc := ctV_in hv
  simp only at hc
  have hb := mulb (x := cm) (y := 65536 - dr) (A := 4096) (B := 65536) hc.2.2.2.1 hc.2.2.2.2 (by omega) (by omega)
  have hu := upI_in (a := cm) (b := cg) hc.2.2.2.1 hc.2.2.1.1
  have h := swI_in (W := W) (n := dr + cm) (by omega) (by omega)
  rw [hv, IntWalk.i64_in (65536 - dr) (by omega), IntWalk.i64_in (cm * _) (by omega), IntWalk.i64_in (65536 * dr) (by omega), IntWalk.i64_in (dr + cm) (by omega), IntWalk.i64_in (cd + _) (by omega), IntWalk.i64_in (2 * J) (by omega)]
  refine ⟨fun _ => ⟨ho, hW, hd, hJ⟩, fun h2 => ?_, fun _ => ⟨fun h2 => ?_, fun _ => ⟨by kernel_rfl, ⟨⟨by omega, by omega⟩, by omega, by omega⟩, ⟨ho, hW, by omega, by omega⟩, ?_⟩⟩⟩
  · simp at h2
    omega
  · have := of_decide_eq_true h2
    omega
  have e : (if st < cd + upI cm cg then cd + upI cm cg else st) = max st (cd + upI cm cg) := by split <;> omega
  rw [e, IntWalk.i64_in (max _ _ + _) (by omega), IntWalk.i64_in (max _ _ + _ + _) (by omega), IntWalk.i64_in (max _ _ + _ + _ + 2) (by omega)]
  rfl
def E_bound18 : List V → Boxes → Toks → Name → Option Ent
  | [.agg [.d (.int .i64 ct), .d (.int .i64 cd), .d (.int .i64 cg), .d (.int .i64 cm)], .agg [.d (.int .i64 W), .d (.int .i64 o)], .c (.d (.int .i64 dr)), .c (.d (.int .i64 J)), .c (.d (.int .i64 st))], [], [], _ => some ⟨ctV ⟨ct, cd, cg, cm⟩ = true ∧ o = 1 ∧ (1 ≤ W ∧ W ≤ 1000) ∧ (0 ≤ dr ∧ dr ≤ 4096) ∧ (0 ≤ J ∧ J ≤ 1000) ∧ 65536 * dr ≤ cm * (65536 - dr) ∧ (0 ≤ st ∧ st ≤ 65536), .tup [.int .i64 (bdI cd cg cm W dr J st), .int .i64 0], [], []⟩
  | _, _, _, _ => none
theorem E_bound18_eq {ct cd cg cm W o dr J st : Int}  {nF : Name} : E_bound18 [.agg [.d (.int .i64 ct), .d (.int .i64 cd), .d (.int .i64 cg), .d (.int .i64 cm)], .agg [.d (.int .i64 W), .d (.int .i64 o)], .c (.d (.int .i64 dr)), .c (.d (.int .i64 J)), .c (.d (.int .i64 st))] [] [] nF = some ⟨ctV ⟨ct, cd, cg, cm⟩ = true ∧ o = 1 ∧ (1 ≤ W ∧ W ≤ 1000) ∧ (0 ≤ dr ∧ dr ≤ 4096) ∧ (0 ≤ J ∧ J ≤ 1000) ∧ 65536 * dr ≤ cm * (65536 - dr) ∧ (0 ≤ st ∧ st ≤ 65536), .tup [.int .i64 (bdI cd cg cm W dr J st), .int .i64 0], [], []⟩ := Eq.trans rfl rfl
theorem E_bound18_ok : Snd Try.prog 37 E_bound18 := by
  intro vs b k n e h hn hp
  unfold E_bound18 at h
  split at h
  · cases h; obtain ⟨hp0, hp1, hp2, hp3, hp4, hp5, hp6⟩ := hp; exact (spec_bound18 _ _ _ _ _ _ _ _ _ hp0 hp1 hp2 hp3 hp4 hp5 hp6).lift rfl _
  · cases h

theorem spec_demand18 (ct cd cg cm W o dr J : Int) (hv : ctV ⟨ct, cd, cg, cm⟩ = true) (ho : o = 1) (hW : 1 ≤ W ∧ W ≤ 1000) (hd : 0 ≤ dr ∧ dr ≤ 4096) (hJ : 0 ≤ J ∧ J ≤ 1000) (hm : 65536 * dr ≤ cm * (65536 - dr)) : Spec Try.prog 0 67 [.agg [.d (.int .i64 ct), .d (.int .i64 cd), .d (.int .i64 cg), .d (.int .i64 cm)], .agg [.d (.int .i64 W), .d (.int .i64 o)], vI .i64 dr, vI .i64 J] [] [] (.tup [.int .i64 (W + swI W (dr + cm) + 2 * J + 3), .int .i64 0]) [] [] := by
  refine spec_of_E (X := ⟨Try.prog, tt, Try.f67.ntmps, 1, fun _ => 0, (tab [(37, E_bound18), (66, E_up18), (73, E_sway)])⟩) (M := [(4, [0, 0, 0, 0, 0, 549623696191, 0, 0, 0, 0, 0, 532578044735, 0, 0, 0, 0, 0, 0])]) (m := 2100031) rfl rfl ⟨tt_ok, tab_ok (tabs_cons E_bound18_ok (tabs_cons E_up18_ok (tabs_cons E_sway_ok tabs_nil))) _ rfl rfl⟩ tt_mixed Try.func67 rfl (by decide) (by show (4 : Nat) ≤ _; exact Nat.le_of_ble_eq_true rfl) ⟨fun m hm => (V.bare_has rfl m hm).elim, by simp, by simp⟩ ?_
  simp only [↓gPre, gPost, gCore, handV, V.bufs, buildArr, toCs, Nat.reduceShiftRight, Nat.reduceMod, addB, addK, zeroOp, callSem, resName, keepsB, newB, V.pure, C.pure, V.ptrs, C.ptrs, C.bufs, appendSem, appendTo, appendZ, dstOk, lk, V.cells, Op.eff, partV, partD, cut, lay, zeroD, C.toDs, C.toD, V.toD, toDs, buildCells, if_true, if_false, ↓reduceIte, reduceCtorEq, Nat.reduceEqDiff, Nat.reduceLT, Nat.reduceLeDiff, implies_true, forall_const, eq_self, ne_eq, not_true_eq_false, not_false_eq_true, imp_self, Nat.reduceAdd, Nat.reduceMul, Int.reduceLE, Int.reduceLT, Int.reduceNeg, Int.reduceAdd, Int.reduceToNat, E_bound18_eq, E_up18_eq, E_sway_eq, rs_eta, ph_eta, ct_eta, br_eta, LT_nil, LT_length, LT_getD, LT_append, LT_one, LT_cells, LT_inj, LT_nil_eq, LT_trs_LT, LT_take, LT_drop, trs_LT, gBD, Try.ntmps67, Try.results67, gTT]
  have hc := ctV_in hv
  simp only at hc
  have h := swI_in (W := W) (n := dr + cm) (by omega) (by omega)
  subst ho
  have hu : upI W 1 = W := by unfold upI; omega
  rw [hu, IntWalk.i64_in (dr + cm) (by omega), IntWalk.i64_in (2 * J) (by omega), IntWalk.i64_in (W + _) (by omega), IntWalk.i64_in (W + _ + _) (by omega), IntWalk.i64_in (W + _ + _ + 3) (by omega)]
  exact ⟨⟨hv, rfl, hW, hd, hJ, hm⟩, by kernel_rfl, ⟨⟨by omega, by omega⟩, by decide, by decide⟩, ⟨rfl, hW, by omega, by omega⟩, rfl⟩
def E_demand18 : List V → Boxes → Toks → Name → Option Ent
  | [.agg [.d (.int .i64 ct), .d (.int .i64 cd), .d (.int .i64 cg), .d (.int .i64 cm)], .agg [.d (.int .i64 W), .d (.int .i64 o)], .c (.d (.int .i64 dr)), .c (.d (.int .i64 J))], [], [], _ => some ⟨ctV ⟨ct, cd, cg, cm⟩ = true ∧ o = 1 ∧ (1 ≤ W ∧ W ≤ 1000) ∧ (0 ≤ dr ∧ dr ≤ 4096) ∧ (0 ≤ J ∧ J ≤ 1000) ∧ 65536 * dr ≤ cm * (65536 - dr), .tup [.int .i64 (W + swI W (dr + cm) + 2 * J + 3), .int .i64 0], [], []⟩
  | _, _, _, _ => none
theorem E_demand18_eq {ct cd cg cm W o dr J : Int}  {nF : Name} : E_demand18 [.agg [.d (.int .i64 ct), .d (.int .i64 cd), .d (.int .i64 cg), .d (.int .i64 cm)], .agg [.d (.int .i64 W), .d (.int .i64 o)], .c (.d (.int .i64 dr)), .c (.d (.int .i64 J))] [] [] nF = some ⟨ctV ⟨ct, cd, cg, cm⟩ = true ∧ o = 1 ∧ (1 ≤ W ∧ W ≤ 1000) ∧ (0 ≤ dr ∧ dr ≤ 4096) ∧ (0 ≤ J ∧ J ≤ 1000) ∧ 65536 * dr ≤ cm * (65536 - dr), .tup [.int .i64 (W + swI W (dr + cm) + 2 * J + 3), .int .i64 0], [], []⟩ := Eq.trans rfl rfl
theorem E_demand18_ok : Snd Try.prog 67 E_demand18 := by
  intro vs b k n e h hn hp
  unfold E_demand18 at h
  split at h
  · cases h; obtain ⟨hp0, hp1, hp2, hp3, hp4, hp5⟩ := hp; exact (spec_demand18 _ _ _ _ _ _ _ _ hp0 hp1 hp2 hp3 hp4 hp5).lift rfl _
  · cases h

theorem spec_plan18 (W o dr J dead g : Int) (ho : o = 1) (hW : 16 ≤ W ∧ W ≤ 40) (hd : dr = 0 ∨ dr = 66 ∨ dr = 400 ∨ dr = 1500) (hJ : 3 ≤ J ∧ J ≤ 7) (hde : 0 ≤ dead ∧ dead ≤ 39) (hg : 1 ≤ g ∧ g ≤ 256) : Spec Try.prog 0 34 [.agg [.d (.int .i64 W), .d (.int .i64 o)], vI .i64 dr, vI .i64 J, vI .i64 dead, vI .i64 g] [] [] (.tup [.agg [.int .i64 (plT W dr J dead g), .int .i64 dead, .int .i64 g, .int .i64 (plMo dr)], .int .i64 (plT W dr J dead g + plB W dr J dead g), .int .i64 0]) [] [] := by
  refine spec_of_E (X := ⟨Try.prog, tt, Try.f34.ntmps, 1, fun _ => 0, (tab [(65, E_given18), (66, E_up18), (36, E_start18), (37, E_bound18), (67, E_demand18)])⟩) (M := [(1, [0, 0, 0, 0, 0, 2417851929712533809855551, 0, 0, 0, 0, 0, 2417851929712533021326399, 0, 0, 0, 0, 0, 2417851929712465107156031, 0, 0, 0])]) (m := 2417851929711984070818879) rfl rfl ⟨tt_ok, tab_ok (tabs_cons E_given18_ok (tabs_cons E_up18_ok (tabs_cons E_start18_ok (tabs_cons E_bound18_ok (tabs_cons E_demand18_ok tabs_nil))))) _ rfl rfl⟩ tt_mixed Try.func34 rfl (by decide) (by show (5 : Nat) ≤ _; exact Nat.le_of_ble_eq_true rfl) ⟨fun m hm => (V.bare_has rfl m hm).elim, by simp, by simp⟩ ?_
  simp only [↓gPre, gPost, gCore, handV, V.bufs, buildArr, toCs, Nat.reduceShiftRight, Nat.reduceMod, addB, addK, zeroOp, callSem, resName, keepsB, newB, V.pure, C.pure, V.ptrs, C.ptrs, C.bufs, appendSem, appendTo, appendZ, dstOk, lk, V.cells, Op.eff, partV, partD, cut, lay, zeroD, C.toDs, C.toD, V.toD, toDs, buildCells, if_true, if_false, ↓reduceIte, reduceCtorEq, Nat.reduceEqDiff, Nat.reduceLT, Nat.reduceLeDiff, implies_true, forall_const, eq_self, ne_eq, not_true_eq_false, not_false_eq_true, imp_self, Nat.reduceAdd, Nat.reduceMul, Int.reduceLE, Int.reduceLT, Int.reduceNeg, Int.reduceAdd, Int.reduceToNat, E_given18_eq, E_up18_eq, E_start18_eq, E_bound18_eq, E_demand18_eq, rs_eta, ph_eta, ct_eta, br_eta, LT_nil, LT_length, LT_getD, LT_append, LT_one, LT_cells, LT_inj, LT_nil_eq, LT_trs_LT, LT_take, LT_drop, trs_LT, gBD, Try.ntmps34, Try.results34, gTT]
  obtain ⟨s1, s2, s3, s4, s5⟩ := pl_small hW hd hJ hde hg
  have hdr : 0 ≤ dr ∧ dr ≤ 1500 := by omega
  rw [IntWalk.i64_in (65536 * dr) (by omega), IntWalk.i64_in (65536 - dr) (by omega)]
  have hMo : upI (65536 * dr) (65536 - dr) = plMo dr := rfl
  rw [hMo]
  have hS : plS W dr J = swI W dr + J + 1 := rfl
  have hB : bdI dead g (plMo dr) W dr J (plS W dr J) = max (plS W dr J) (dead + upI (plMo dr) g) + swI W (dr + plMo dr) + 2 * J + 2 := rfl
  have hBe : plB W dr J dead g = bdI dead g (plMo dr) W dr J (plS W dr J) := rfl
  have hT : plT W dr J dead g = W + swI W (dr + plMo dr) + 2 * J + 3 + plB W dr J dead g := rfl
  have hv : ctV ⟨0, dead, g, plMo dr⟩ = true := by
    simp only [ctV, Bool.and_eq_true, decide_eq_true_eq]
    omega
  rw [IntWalk.i64_in (2 * bdI _ _ _ _ _ _ _) (by omega), IntWalk.i64_in (W + _ + _ + 3 + 2 * _) (by omega), IntWalk.i64_in (W + _ + _ + 3 + bdI _ _ _ _ _ _ _) (by omega), IntWalk.i64_in (W + _ + _ + 3 + bdI _ _ _ _ _ _ _ + _) (by omega)]
  have hW2 : 1 ≤ W ∧ W ≤ 1000 := by omega
  refine ⟨⟨ho, hW2, by omega, by omega⟩, fun h => ?_, fun _ => ⟨⟨⟨by omega, by omega⟩, by omega, by omega⟩, fun h => ?_, fun _ => ⟨⟨ho, hW2, by omega, by omega⟩, fun h => ?_, fun _ => ⟨⟨hv, ho, hW2, by omega, by omega, s5, by omega, by omega⟩, ⟨hv, ho, hW2, by omega, by omega, s5⟩, fun h => ?_, fun _ => ⟨by kernel_rfl, ?_⟩⟩⟩⟩⟩
  · simp only [Bool.or_eq_true, decide_eq_true_eq] at h
    omega
  · have := of_decide_eq_true h
    omega
  · have := of_decide_eq_true h
    omega
  · have := of_decide_eq_true h
    omega
  rw [hT, hBe]
def E_plan18 : List V → Boxes → Toks → Name → Option Ent
  | [.agg [.d (.int .i64 W), .d (.int .i64 o)], .c (.d (.int .i64 dr)), .c (.d (.int .i64 J)), .c (.d (.int .i64 dead)), .c (.d (.int .i64 g))], [], [], _ => some ⟨o = 1 ∧ (16 ≤ W ∧ W ≤ 40) ∧ (dr = 0 ∨ dr = 66 ∨ dr = 400 ∨ dr = 1500) ∧ (3 ≤ J ∧ J ≤ 7) ∧ (0 ≤ dead ∧ dead ≤ 39) ∧ (1 ≤ g ∧ g ≤ 256), .tup [.agg [.int .i64 (plT W dr J dead g), .int .i64 dead, .int .i64 g, .int .i64 (plMo dr)], .int .i64 (plT W dr J dead g + plB W dr J dead g), .int .i64 0], [], []⟩
  | _, _, _, _ => none
theorem E_plan18_eq {W o dr J dead g : Int}  {nF : Name} : E_plan18 [.agg [.d (.int .i64 W), .d (.int .i64 o)], .c (.d (.int .i64 dr)), .c (.d (.int .i64 J)), .c (.d (.int .i64 dead)), .c (.d (.int .i64 g))] [] [] nF = some ⟨o = 1 ∧ (16 ≤ W ∧ W ≤ 40) ∧ (dr = 0 ∨ dr = 66 ∨ dr = 400 ∨ dr = 1500) ∧ (3 ≤ J ∧ J ≤ 7) ∧ (0 ≤ dead ∧ dead ≤ 39) ∧ (1 ≤ g ∧ g ≤ 256), .tup [.agg [.int .i64 (plT W dr J dead g), .int .i64 dead, .int .i64 g, .int .i64 (plMo dr)], .int .i64 (plT W dr J dead g + plB W dr J dead g), .int .i64 0], [], []⟩ := Eq.trans rfl rfl
theorem E_plan18_ok : Snd Try.prog 34 E_plan18 := by
  intro vs b k n e h hn hp
  unfold E_plan18 at h
  split at h
  · cases h; obtain ⟨hp0, hp1, hp2, hp3, hp4, hp5⟩ := hp; exact (spec_plan18 _ _ _ _ _ _ hp0 hp1 hp2 hp3 hp4 hp5).lift rfl _
  · cases h

theorem u64_in {x : Int} (h1 : 0 ≤ x) (h2 : x < 18446744073709551616) : IntKind.u64.wrap x = x := by
  unfold IntKind.wrap
  simp [IntKind.bits, IntKind.signed]
  omega
theorem and32 {x : Int} (h1 : 0 ≤ x) (h2 : x < 4294967296) : (((BitVec.ofInt IntKind.u64.bits x &&& BitVec.ofInt IntKind.u64.bits 4294967295).toNat : Nat) : Int) = x := by
  have e1 : (BitVec.ofInt IntKind.u64.bits x).toNat = x.toNat := by
    rw [BitVec.toNat_ofInt]
    show (x % (2 : Int) ^ 64).toNat = x.toNat
    omega
  have e2 : (BitVec.ofInt IntKind.u64.bits 4294967295).toNat = 2 ^ 32 - 1 := rfl
  rw [BitVec.toNat_and, e1, e2, Nat.and_two_pow_sub_one_eq_mod]
  omega

theorem spec_mul64 (x y : Int) (hx : 0 ≤ x ∧ x < 4294967296) (hy : 0 ≤ y ∧ y < 4294967296) : Spec Try.prog 0 95 [vI .u64 x, vI .u64 y] [] [] (.tup [.int .u64 0, .int .u64 (x * y)]) [] [] := by
  refine spec_of_E (X := ⟨Try.prog, tt, Try.f95.ntmps, 1, fun _ => 0, (tab [])⟩) (M := []) (m := 16371) rfl rfl ⟨tt_ok, tab_ok tabs_nil _ rfl rfl⟩ tt_mixed Try.func95 rfl (by decide) (by show (2 : Nat) ≤ _; exact Nat.le_of_ble_eq_true rfl) ⟨fun m hm => (V.bare_has rfl m hm).elim, by simp, by simp⟩ ?_
  simp only [↓gPre, gPost, gCore, handV, V.bufs, buildArr, toCs, Nat.reduceShiftRight, Nat.reduceMod, addB, addK, zeroOp, callSem, resName, keepsB, newB, V.pure, C.pure, V.ptrs, C.ptrs, C.bufs, appendSem, appendTo, appendZ, dstOk, lk, V.cells, Op.eff, partV, partD, cut, lay, zeroD, C.toDs, C.toD, V.toD, toDs, buildCells, if_true, if_false, ↓reduceIte, reduceCtorEq, Nat.reduceEqDiff, Nat.reduceLT, Nat.reduceLeDiff, implies_true, forall_const, eq_self, ne_eq, not_true_eq_false, not_false_eq_true, imp_self, Nat.reduceAdd, Nat.reduceMul, Int.reduceLE, Int.reduceLT, Int.reduceNeg, Int.reduceAdd, Int.reduceToNat, rs_eta, ph_eta, ct_eta, br_eta, LT_nil, LT_length, LT_getD, LT_append, LT_one, LT_cells, LT_inj, LT_nil_eq, LT_trs_LT, LT_take, LT_drop, trs_LT, gBD, Try.ntmps95, Try.results95, gTT]
  have e32 : (2 : Int) ^ Nat.min 32 IntKind.u64.bits = 4294967296 := by decide
  have hxy := mulb (A := 4294967295) (B := 4294967295) hx.1 (show x ≤ 4294967295 by omega) hy.1 (show y ≤ 4294967295 by omega)
  have dv : ∀ z : Int, 0 ≤ z → z < 4294967296 → z.fdiv 4294967296 = 0 := fun z h1 h2 => by rw [Int.fdiv_eq_ediv_of_nonneg _ (by decide)]; omega
  have hq : (x * y).fdiv 4294967296 = (x * y) / 4294967296 := Int.fdiv_eq_ediv_of_nonneg _ (by decide)
  rw [e32, dv x hx.1 hx.2, dv y hy.1 hy.2, and32 hx.1 hx.2, and32 hy.1 hy.2]
  simp only [Int.zero_mul, Int.mul_zero]
  rw [u64_in (x := 0) (by decide) (by decide), u64_in hx.1 (by omega), u64_in hy.1 (by omega), u64_in (x := x * y) (by omega) (by omega), hq]
  simp only [Int.zero_add, Int.add_zero]
  rw [u64_in (x := x * y / 4294967296) (by omega) (by omega), and32 (by omega) (by omega), u64_in (x := x * y / 4294967296) (by omega) (by omega), dv (x * y / 4294967296) (by omega) (by omega), u64_in (x := 0) (by decide) (by decide)]
  rw [u64_in (x := x * y / 4294967296) (by omega) (by omega), dv (x * y / 4294967296) (by omega) (by omega)]
  rfl
def E_mul64 : List V → Boxes → Toks → Name → Option Ent
  | [.c (.d (.int .u64 x)), .c (.d (.int .u64 y))], [], [], _ => some ⟨(0 ≤ x ∧ x < 4294967296) ∧ (0 ≤ y ∧ y < 4294967296), .tup [.int .u64 0, .int .u64 (x * y)], [], []⟩
  | _, _, _, _ => none
theorem E_mul64_eq {x y : Int}  {nF : Name} : E_mul64 [.c (.d (.int .u64 x)), .c (.d (.int .u64 y))] [] [] nF = some ⟨(0 ≤ x ∧ x < 4294967296) ∧ (0 ≤ y ∧ y < 4294967296), .tup [.int .u64 0, .int .u64 (x * y)], [], []⟩ := Eq.trans rfl rfl
theorem E_mul64_ok : Snd Try.prog 95 E_mul64 := by
  intro vs b k n e h hn hp
  unfold E_mul64 at h
  split at h
  · cases h; obtain ⟨hp0, hp1⟩ := hp; exact (spec_mul64 _ _ hp0 hp1).lift rfl _
  · cases h

theorem us_three {ok : Foot} {ℓ : Loc} {w : World} {us : Array Value} {k : IntKind} {x y c : Int} (h : RVs ok ℓ w us [vI k x, vI k y, vI k c]) : us = #[.int k x, .int k y, .int k c] := by
  obtain ⟨hs, hv⟩ := h
  obtain ⟨l⟩ := us
  match l, hs with
  | [a, b, d], _ =>
    have h0 := hv 0 a _ rfl rfl
    have h1 := hv 1 b _ rfl rfl
    have h2 := hv 2 d _ rfl rfl
    obtain ⟨r0, _⟩ := h0
    obtain ⟨r1, _⟩ := h1
    obtain ⟨r2, _⟩ := h2
    cases r0
    cases r1
    cases r2
    rfl
theorem spec_add64 (x y c : Int) (hx : 0 ≤ x ∧ x < 1152921504606846976) (hy : 0 ≤ y ∧ y < 1152921504606846976) (hc : c = 0) : Spec Try.prog 0 96 [vI .u64 x, vI .u64 y, vI .u64 c] [] [] (.tup [.int .u64 (x + y), .int .u64 0]) [] [] := by
  subst hc
  refine ⟨⟨fun m hm => (V.bare_has rfl m hm).elim, by simp, by simp⟩, fun w ok ℓ us hm hv => .inr ?_⟩
  have e := us_three hv
  subst e
  have hrun : (callFunc 96 #[.int .u64 x, .int .u64 y, .int .u64 0]).run Try.prog w = .ok (.value (.tuple #[.int .u64 (x + y), .int .u64 0])) w := by
    rw [run_callFunc_extern Try.func96 (by kernel_rfl) (by kernel_rfl) (by kernel_rfl) (e := add64Entry) (by kernel_rfl), run_add64 x y 0 hx.1 hy.1 (by decide) (by decide)]
    simp only [Result.andThen]
    have e1 : (x + y + 0) % 18446744073709551616 = x + y := by omega
    have e2 : (x + y + 0) / 18446744073709551616 = 0 := by omega
    rw [e1, e2]
  refine ⟨_, w, hrun, _, freshOk ok w w, ℓ, rfl, post_val (fun x o h => hm.alive x o h) (Go.RowKit.Below.refl _ w) ?_⟩
  refine Rep.tup _ _ rfl fun i u y' hu hy' => ?_
  match i with
  | 0 => cases hu; cases hy'; exact .int _ _
  | 1 => cases hu; cases hy'; exact .int _ _
  | i + 2 => simp at hu

def E_add64 : List V → Boxes → Toks → Name → Option Ent
  | [.c (.d (.int .u64 x)), .c (.d (.int .u64 y)), .c (.d (.int .u64 c))], [], [], _ => some ⟨(0 ≤ x ∧ x < 1152921504606846976) ∧ (0 ≤ y ∧ y < 1152921504606846976) ∧ c = 0, .tup [.int .u64 (x + y), .int .u64 0], [], []⟩
  | _, _, _, _ => none
theorem E_add64_eq {x y c : Int}  {nF : Name} : E_add64 [.c (.d (.int .u64 x)), .c (.d (.int .u64 y)), .c (.d (.int .u64 c))] [] [] nF = some ⟨(0 ≤ x ∧ x < 1152921504606846976) ∧ (0 ≤ y ∧ y < 1152921504606846976) ∧ c = 0, .tup [.int .u64 (x + y), .int .u64 0], [], []⟩ := Eq.trans rfl rfl
theorem E_add64_ok : Snd Try.prog 96 E_add64 := by
  intro vs b k n e h hn hp
  unfold E_add64 at h
  split at h
  · cases h; obtain ⟨hp0, hp1, hp2⟩ := hp; exact (spec_add64 _ _ _ hp0 hp1 hp2).lift rfl _
  · cases h

theorem spec_times (a b c : Int) (ha : 0 ≤ a ∧ a < 4294967296) (hb : 0 ≤ b ∧ b < 4294967296) (hc : 0 ≤ c ∧ c < 4294967296) (hab : a * b < 4294967296) : Spec Try.prog 0 70 [vI .u64 a, vI .u64 b, vI .u64 c] [] [] (.agg [.d (.int .u64 0), .d (.int .u64 (a * b * c))]) [] [] := by
  refine spec_of_E (X := ⟨Try.prog, tt, Try.f70.ntmps, 1, fun _ => 0, (tab [(95, E_mul64)])⟩) (M := []) (m := 1991) rfl rfl ⟨tt_ok, tab_ok (tabs_cons E_mul64_ok tabs_nil) _ rfl rfl⟩ tt_mixed Try.func70 rfl (by decide) (by show (3 : Nat) ≤ _; exact Nat.le_of_ble_eq_true rfl) ⟨fun m hm => (V.bare_has rfl m hm).elim, by simp, by simp⟩ ?_
  simp only [↓gPre, gPost, gCore, handV, V.bufs, buildArr, toCs, Nat.reduceShiftRight, Nat.reduceMod, addB, addK, zeroOp, callSem, resName, keepsB, newB, V.pure, C.pure, V.ptrs, C.ptrs, C.bufs, appendSem, appendTo, appendZ, dstOk, lk, V.cells, Op.eff, partV, partD, cut, lay, zeroD, C.toDs, C.toD, V.toD, toDs, buildCells, if_true, if_false, ↓reduceIte, reduceCtorEq, Nat.reduceEqDiff, Nat.reduceLT, Nat.reduceLeDiff, implies_true, forall_const, eq_self, ne_eq, not_true_eq_false, not_false_eq_true, imp_self, Nat.reduceAdd, Nat.reduceMul, Int.reduceLE, Int.reduceLT, Int.reduceNeg, Int.reduceAdd, Int.reduceToNat, E_mul64_eq, rs_eta, ph_eta, ct_eta, br_eta, LT_nil, LT_length, LT_getD, LT_append, LT_one, LT_cells, LT_inj, LT_nil_eq, LT_trs_LT, LT_take, LT_drop, trs_LT, gBD, Try.ntmps70, Try.results70, gTT]
  have hb2 := Int.mul_nonneg ha.1 hb.1
  rw [Int.zero_mul]
  exact ⟨⟨ha, hb⟩, ⟨⟨hb2, hab⟩, hc⟩, by decide⟩
def E_times : List V → Boxes → Toks → Name → Option Ent
  | [.c (.d (.int .u64 a)), .c (.d (.int .u64 b)), .c (.d (.int .u64 c))], [], [], _ => some ⟨(0 ≤ a ∧ a < 4294967296) ∧ (0 ≤ b ∧ b < 4294967296) ∧ (0 ≤ c ∧ c < 4294967296) ∧ a * b < 4294967296, .agg [.d (.int .u64 0), .d (.int .u64 (a * b * c))], [], []⟩
  | _, _, _, _ => none
theorem E_times_eq {a b c : Int}  {nF : Name} : E_times [.c (.d (.int .u64 a)), .c (.d (.int .u64 b)), .c (.d (.int .u64 c))] [] [] nF = some ⟨(0 ≤ a ∧ a < 4294967296) ∧ (0 ≤ b ∧ b < 4294967296) ∧ (0 ≤ c ∧ c < 4294967296) ∧ a * b < 4294967296, .agg [.d (.int .u64 0), .d (.int .u64 (a * b * c))], [], []⟩ := Eq.trans rfl rfl
theorem E_times_ok : Snd Try.prog 70 E_times := by
  intro vs b k n e h hn hp
  unfold E_times at h
  split at h
  · cases h; obtain ⟨hp0, hp1, hp2, hp3⟩ := hp; exact (spec_times _ _ _ hp0 hp1 hp2 hp3).lift rfl _
  · cases h

theorem spec_plus (h x h2 y : Int) (hz : h = 0) (hz2 : h2 = 0) (hx : 0 ≤ x ∧ x < 1152921504606846976) (hy : 0 ≤ y ∧ y < 1152921504606846976) : Spec Try.prog 0 71 [.agg [.d (.int .u64 h), .d (.int .u64 x)], .agg [.d (.int .u64 h2), .d (.int .u64 y)]] [] [] (.agg [.d (.int .u64 0), .d (.int .u64 (x + y))]) [] [] := by
  refine spec_of_E (X := ⟨Try.prog, tt, Try.f71.ntmps, 1, fun _ => 0, (tab [(96, E_add64)])⟩) (M := []) (m := 255) rfl rfl ⟨tt_ok, tab_ok (tabs_cons E_add64_ok tabs_nil) _ rfl rfl⟩ tt_mixed Try.func71 rfl (by decide) (by show (2 : Nat) ≤ _; exact Nat.le_of_ble_eq_true rfl) ⟨fun m hm => (V.bare_has rfl m hm).elim, by simp, by simp⟩ ?_
  simp only [↓gPre, gPost, gCore, handV, V.bufs, buildArr, toCs, Nat.reduceShiftRight, Nat.reduceMod, addB, addK, zeroOp, callSem, resName, keepsB, newB, V.pure, C.pure, V.ptrs, C.ptrs, C.bufs, appendSem, appendTo, appendZ, dstOk, lk, V.cells, Op.eff, partV, partD, cut, lay, zeroD, C.toDs, C.toD, V.toD, toDs, buildCells, if_true, if_false, ↓reduceIte, reduceCtorEq, Nat.reduceEqDiff, Nat.reduceLT, Nat.reduceLeDiff, implies_true, forall_const, eq_self, ne_eq, not_true_eq_false, not_false_eq_true, imp_self, Nat.reduceAdd, Nat.reduceMul, Int.reduceLE, Int.reduceLT, Int.reduceNeg, Int.reduceAdd, Int.reduceToNat, E_add64_eq, rs_eta, ph_eta, ct_eta, br_eta, LT_nil, LT_length, LT_getD, LT_append, LT_one, LT_cells, LT_inj, LT_nil_eq, LT_trs_LT, LT_take, LT_drop, trs_LT, gBD, Try.ntmps71, Try.results71, gTT]
  subst hz hz2
  exact ⟨⟨hx, hy⟩, by decide, by decide⟩
def E_plus : List V → Boxes → Toks → Name → Option Ent
  | [.agg [.d (.int .u64 h), .d (.int .u64 x)], .agg [.d (.int .u64 h2), .d (.int .u64 y)]], [], [], _ => some ⟨h = 0 ∧ h2 = 0 ∧ (0 ≤ x ∧ x < 1152921504606846976) ∧ (0 ≤ y ∧ y < 1152921504606846976), .agg [.d (.int .u64 0), .d (.int .u64 (x + y))], [], []⟩
  | _, _, _, _ => none
theorem E_plus_eq {h x h2 y : Int}  {nF : Name} : E_plus [.agg [.d (.int .u64 h), .d (.int .u64 x)], .agg [.d (.int .u64 h2), .d (.int .u64 y)]] [] [] nF = some ⟨h = 0 ∧ h2 = 0 ∧ (0 ≤ x ∧ x < 1152921504606846976) ∧ (0 ≤ y ∧ y < 1152921504606846976), .agg [.d (.int .u64 0), .d (.int .u64 (x + y))], [], []⟩ := Eq.trans rfl rfl
theorem E_plus_ok : Snd Try.prog 71 E_plus := by
  intro vs b k n e h hn hp
  unfold E_plus at h
  split at h
  · cases h; obtain ⟨hp0, hp1, hp2, hp3⟩ := hp; exact (spec_plus _ _ _ _ hp0 hp1 hp2 hp3).lift rfl _
  · cases h

theorem spec_more (h x h2 y : Int) (hz : h = 0) (hz2 : h2 = 0) : Spec Try.prog 0 97 [.agg [.d (.int .u64 h), .d (.int .u64 x)], .agg [.d (.int .u64 h2), .d (.int .u64 y)]] [] [] (vB (decide (y < x))) [] [] := by
  refine spec_of_E (X := ⟨Try.prog, tt, Try.f97.ntmps, 1, fun _ => 0, (tab [])⟩) (M := [(1, [0, 0, 0, 0, 0, 16776223, 0, 0, 0, 0, 0, 16712735, 0, 0, 0, 0, 0, 12583967, 0, 0])]) (m := 31) rfl rfl ⟨tt_ok, tab_ok tabs_nil _ rfl rfl⟩ tt_mixed Try.func97 rfl (by decide) (by show (2 : Nat) ≤ _; exact Nat.le_of_ble_eq_true rfl) ⟨fun m hm => (V.bare_has rfl m hm).elim, by simp, by simp⟩ ?_
  simp only [↓gPre, gPost, gCore, handV, V.bufs, buildArr, toCs, Nat.reduceShiftRight, Nat.reduceMod, addB, addK, zeroOp, callSem, resName, keepsB, newB, V.pure, C.pure, V.ptrs, C.ptrs, C.bufs, appendSem, appendTo, appendZ, dstOk, lk, V.cells, Op.eff, partV, partD, cut, lay, zeroD, C.toDs, C.toD, V.toD, toDs, buildCells, if_true, if_false, ↓reduceIte, reduceCtorEq, Nat.reduceEqDiff, Nat.reduceLT, Nat.reduceLeDiff, implies_true, forall_const, eq_self, ne_eq, not_true_eq_false, not_false_eq_true, imp_self, Nat.reduceAdd, Nat.reduceMul, Int.reduceLE, Int.reduceLT, Int.reduceNeg, Int.reduceAdd, Int.reduceToNat, rs_eta, ph_eta, ct_eta, br_eta, LT_nil, LT_length, LT_getD, LT_append, LT_one, LT_cells, LT_inj, LT_nil_eq, LT_trs_LT, LT_take, LT_drop, trs_LT, gBD, Try.ntmps97, Try.results97, gTT]
  subst hz hz2
  simp
def E_more : List V → Boxes → Toks → Name → Option Ent
  | [.agg [.d (.int .u64 h), .d (.int .u64 x)], .agg [.d (.int .u64 h2), .d (.int .u64 y)]], [], [], _ => some ⟨h = 0 ∧ h2 = 0, vB (decide (y < x)), [], []⟩
  | _, _, _, _ => none
theorem E_more_eq {h x h2 y : Int}  {nF : Name} : E_more [.agg [.d (.int .u64 h), .d (.int .u64 x)], .agg [.d (.int .u64 h2), .d (.int .u64 y)]] [] [] nF = some ⟨h = 0 ∧ h2 = 0, vB (decide (y < x)), [], []⟩ := Eq.trans rfl rfl
theorem E_more_ok : Snd Try.prog 97 E_more := by
  intro vs b k n e h hn hp
  unfold E_more at h
  split at h
  · cases h; obtain ⟨hp0, hp1⟩ := hp; exact (spec_more _ _ _ _ hp0 hp1).lift rfl _
  · cases h

theorem spec_near (h x h2 y h3 z : Int) (hz : h = 0) (hz2 : h2 = 0) (hz3 : h3 = 0) (hx : 0 ≤ x ∧ x < 1152921504606846976) (hy : 0 ≤ y ∧ y < 1152921504606846976) (hw : 0 ≤ z ∧ z < 1152921504606846976) : Spec Try.prog 0 72 [.agg [.d (.int .u64 h), .d (.int .u64 x)], .agg [.d (.int .u64 h2), .d (.int .u64 y)], .agg [.d (.int .u64 h3), .d (.int .u64 z)]] [] [] (vB (nearB x y z)) [] [] := by
  refine spec_of_E (X := ⟨Try.prog, tt, Try.f72.ntmps, 1, fun _ => 0, (tab [(71, E_plus), (97, E_more)])⟩) (M := [(1, [0, 0, 0, 0, 0, 2093183, 0, 0, 0, 0, 0, 1843327, 0, 0, 0])]) (m := 127) rfl rfl ⟨tt_ok, tab_ok (tabs_cons E_plus_ok (tabs_cons E_more_ok tabs_nil)) _ rfl rfl⟩ tt_mixed Try.func72 rfl (by decide) (by show (3 : Nat) ≤ _; exact Nat.le_of_ble_eq_true rfl) ⟨fun m hm => (V.bare_has rfl m hm).elim, by simp, by simp⟩ ?_
  simp only [↓gPre, gPost, gCore, handV, V.bufs, buildArr, toCs, Nat.reduceShiftRight, Nat.reduceMod, addB, addK, zeroOp, callSem, resName, keepsB, newB, V.pure, C.pure, V.ptrs, C.ptrs, C.bufs, appendSem, appendTo, appendZ, dstOk, lk, V.cells, Op.eff, partV, partD, cut, lay, zeroD, C.toDs, C.toD, V.toD, toDs, buildCells, if_true, if_false, ↓reduceIte, reduceCtorEq, Nat.reduceEqDiff, Nat.reduceLT, Nat.reduceLeDiff, implies_true, forall_const, eq_self, ne_eq, not_true_eq_false, not_false_eq_true, imp_self, Nat.reduceAdd, Nat.reduceMul, Int.reduceLE, Int.reduceLT, Int.reduceNeg, Int.reduceAdd, Int.reduceToNat, E_plus_eq, E_more_eq, rs_eta, ph_eta, ct_eta, br_eta, LT_nil, LT_length, LT_getD, LT_append, LT_one, LT_cells, LT_inj, LT_nil_eq, LT_trs_LT, LT_take, LT_drop, trs_LT, gBD, Try.ntmps72, Try.results72, gTT]
  exact ⟨by kernel_rfl, ⟨hz2, hz3, hy, hw⟩, hz, fun _ => ⟨hz, hz3, hx, hw⟩, fun _ => hz2, rfl⟩
def E_near : List V → Boxes → Toks → Name → Option Ent
  | [.agg [.d (.int .u64 h), .d (.int .u64 x)], .agg [.d (.int .u64 h2), .d (.int .u64 y)], .agg [.d (.int .u64 h3), .d (.int .u64 z)]], [], [], _ => some ⟨h = 0 ∧ h2 = 0 ∧ h3 = 0 ∧ (0 ≤ x ∧ x < 1152921504606846976) ∧ (0 ≤ y ∧ y < 1152921504606846976) ∧ (0 ≤ z ∧ z < 1152921504606846976), vB (nearB x y z), [], []⟩
  | _, _, _, _ => none
theorem E_near_eq {h x h2 y h3 z : Int}  {nF : Name} : E_near [.agg [.d (.int .u64 h), .d (.int .u64 x)], .agg [.d (.int .u64 h2), .d (.int .u64 y)], .agg [.d (.int .u64 h3), .d (.int .u64 z)]] [] [] nF = some ⟨h = 0 ∧ h2 = 0 ∧ h3 = 0 ∧ (0 ≤ x ∧ x < 1152921504606846976) ∧ (0 ≤ y ∧ y < 1152921504606846976) ∧ (0 ≤ z ∧ z < 1152921504606846976), vB (nearB x y z), [], []⟩ := Eq.trans rfl rfl
theorem E_near_ok : Snd Try.prog 72 E_near := by
  intro vs b k n e h hn hp
  unfold E_near at h
  split at h
  · cases h; obtain ⟨hp0, hp1, hp2, hp3, hp4, hp5⟩ := hp; exact (spec_near _ _ _ _ _ _ hp0 hp1 hp2 hp3 hp4 hp5).lift rfl _
  · cases h

theorem tG_in {l : List (Int × Int)} (h : ∀ j, j < l.length → inB (l[j]?.getD (0, 0))) (j : Nat) : (0 ≤ tG l j ∧ tG l j ≤ 65536) ∧ (0 ≤ tP l j ∧ tP l j ≤ 65536) := by
  by_cases hj : j < l.length
  · exact h j hj
  · unfold tG tP
    rw [List.getElem?_eq_none (by omega)]
    decide
theorem sm_in {g : Nat → Int} (h : ∀ j, 0 ≤ g j ∧ g j ≤ 65536) (i : Nat) : ∀ m : Nat, 0 ≤ sm g i m ∧ sm g i m ≤ 65536 * (m : Int)
  | 0 => by simp [sm]
  | m + 1 => by
    have h1 := sm_in h i m
    have h2 := h (i + m)
    rw [sm]
    omega


theorem spec_declared (n d W o dr J : Int) (l : List (Int × Int)) (hr : rtV n d = true) (hn : 1 ≤ n ∧ n ≤ 160) (hd : 1 ≤ d ∧ d ≤ 160) (ho : o = 1) (hW : 1 ≤ W ∧ W ≤ 40) (hdr : 0 ≤ dr ∧ dr ≤ 4096) (hJ : 0 ≤ J ∧ J ≤ 1000) (hl : l.length ≤ 40) : Spec Try.prog 0 35 [.agg [.d (.int .i64 n), .d (.int .i64 d)], .agg [.d (.int .i64 W), .d (.int .i64 o)], vI .i64 dr, vI .i64 J, vL (LT l)] [] [] (vB (dclX n d W dr J l)) [] [] := by
  refine spec_of_E (X := ⟨Try.prog, tt, Try.f35.ntmps, 1, fun _ => 0, (tab [(68, E_rrtvalid), (69, E_possible), (70, E_times), (71, E_plus), (72, E_near)])⟩) (M := [(1, [0, 0, 0, 0, 0, 47890485652059026824924163038353459936488335454762111, 0, 0, 0, 0, 0, 47890485652059026824924163038353459936488216806290559, 0, 0, 0, 0, 0, 47890485652059026824924163038353459936479540972352639, 0, 0, 0, 0, 0, 47890485652059026824924163038353459936206862088664191, 0, 0, 0, 0, 0, 47890485652059026824924163038353459900459540046410879, 0, 0, 0, 0, 0, 47890485652059026824924163038353458783566832458527871, 0, 0, 0]), (6, [0, 0, 0, 0, 0, 47890485652059026824924163347781782913294896338039935, 0, 0, 0, 0, 0, 47890485652059026824924163343607210942438129969132671, 0, 0, 0, 0, 0, 0]), (9, [0, 0, 0, 0, 0, 47890485652059026824924762201332455613797314531947647, 0, 0, 0, 0, 0, 0]), (18, [0, 0, 0, 0, 0, 47890485652059110566287897488053434429589061017531519, 0, 0, 0, 0, 0, 0]), (22, [0, 0, 0, 0, 0, 47890668116756241202482707083600348298638105287586943, 0, 0, 0, 0, 0, 47890657635405997893089830561812760153908197476791423, 0, 0, 0, 0]), (23, [0, 0, 0, 0, 0, 95775125297568730036949692897469738345751237193888895, 0, 0, 0, 0, 0, 95406826884961342501562364319625235024797942193058943, 0, 0, 0, 0, 0, 72584017316401962530893621971927759389850899601945727, 0])]) (m := 47890485652059026824924163038353441489744263355823231) rfl rfl ⟨tt_ok, tab_ok (tabs_cons E_rrtvalid_ok (tabs_cons E_possible_ok (tabs_cons E_times_ok (tabs_cons E_plus_ok (tabs_cons E_near_ok tabs_nil))))) _ rfl rfl⟩ tt_mixed Try.func35 rfl (by decide) (by show (5 : Nat) ≤ _; exact Nat.le_of_ble_eq_true rfl) ⟨fun m hm => (V.bare_has rfl m hm).elim, by simp, by simp⟩ ?_
  simp only [↓gPre, gPost, gCore, handV, V.bufs, buildArr, toCs, Nat.reduceShiftRight, Nat.reduceMod, addB, addK, zeroOp, callSem, resName, keepsB, newB, V.pure, C.pure, V.ptrs, C.ptrs, C.bufs, appendSem, appendTo, appendZ, dstOk, lk, V.cells, Op.eff, partV, partD, cut, lay, zeroD, C.toDs, C.toD, V.toD, toDs, buildCells, if_true, if_false, ↓reduceIte, reduceCtorEq, Nat.reduceEqDiff, Nat.reduceLT, Nat.reduceLeDiff, implies_true, forall_const, eq_self, ne_eq, not_true_eq_false, not_false_eq_true, imp_self, Nat.reduceAdd, Nat.reduceMul, Int.reduceLE, Int.reduceLT, Int.reduceNeg, Int.reduceAdd, Int.reduceToNat, E_rrtvalid_eq, E_possible_eq, E_times_eq, E_plus_eq, E_near_eq, rs_eta, ph_eta, ct_eta, br_eta, LT_nil, LT_length, LT_getD, LT_append, LT_one, LT_cells, LT_inj, LT_nil_eq, LT_trs_LT, LT_take, LT_drop, trs_LT, gBD, Try.ntmps35, Try.results35, gTT]
  refine ⟨fun _ => ⟨ho, by omega⟩, fun h => ?_, fun _ => ?_⟩
  · rw [hr] at h
    simp only [Bool.or_eq_true, decide_eq_true_eq, Bool.not_true, Bool.false_eq_true, false_or] at h
    omega
  refine ELoop_keep (fun g => ⟨[(67, vI .i64 (g : Nat))], [], []⟩) (fun g => g ≤ l.length ∧ ∀ j, j < g → inB (l[j]?.getD (0, 0))) (fun g => l.length - g) (· + 1) 0 ⟨Nat.zero_le _, fun j hj => absurd hj (Nat.not_lt_zero _)⟩ ?_ ?_
  · simp only [↓gPre, gPost, gCore, handV, V.bufs, buildArr, toCs, Nat.reduceShiftRight, Nat.reduceMod, addB, addK, zeroOp, callSem, resName, keepsB, newB, V.pure, C.pure, V.ptrs, C.ptrs, C.bufs, appendSem, appendTo, appendZ, dstOk, lk, V.cells, Op.eff, partV, partD, cut, lay, zeroD, C.toDs, C.toD, V.toD, toDs, buildCells, if_true, if_false, ↓reduceIte, reduceCtorEq, Nat.reduceEqDiff, Nat.reduceLT, Nat.reduceLeDiff, implies_true, forall_const, eq_self, ne_eq, not_true_eq_false, not_false_eq_true, imp_self, Nat.reduceAdd, Nat.reduceMul, Int.reduceLE, Int.reduceLT, Int.reduceNeg, Int.reduceAdd, Int.reduceToNat, E_rrtvalid_eq, E_possible_eq, E_times_eq, E_plus_eq, E_near_eq, rs_eta, ph_eta, ct_eta, br_eta, LT_nil, LT_length, LT_getD, LT_append, LT_one, LT_cells, LT_inj, LT_nil_eq, LT_trs_LT, LT_take, LT_drop, trs_LT, gBD, Try.ntmps35, Try.results35, gTT]
    rfl
  rintro g ⟨hg, hin⟩
  simp only [↓gPre, gPost, gCore, handV, V.bufs, buildArr, toCs, Nat.reduceShiftRight, Nat.reduceMod, addB, addK, zeroOp, callSem, resName, keepsB, newB, V.pure, C.pure, V.ptrs, C.ptrs, C.bufs, appendSem, appendTo, appendZ, dstOk, lk, V.cells, Op.eff, partV, partD, cut, lay, zeroD, C.toDs, C.toD, V.toD, toDs, buildCells, if_true, if_false, ↓reduceIte, reduceCtorEq, Nat.reduceEqDiff, Nat.reduceLT, Nat.reduceLeDiff, implies_true, forall_const, eq_self, ne_eq, not_true_eq_false, not_false_eq_true, imp_self, Nat.reduceAdd, Nat.reduceMul, Int.reduceLE, Int.reduceLT, Int.reduceNeg, Int.reduceAdd, Int.reduceToNat, E_rrtvalid_eq, E_possible_eq, E_times_eq, E_plus_eq, E_near_eq, rs_eta, ph_eta, ct_eta, br_eta, LT_nil, LT_length, LT_getD, LT_append, LT_one, LT_cells, LT_inj, LT_nil_eq, LT_trs_LT, LT_take, LT_drop, trs_LT, gBD, Try.ntmps35, Try.results35, gTT]
  refine ⟨fun h1 => ?_, fun h1 => ⟨by kernel_rfl, ?_⟩⟩
  · have hlt : g < l.length := by have := of_decide_eq_true h1; omega
    refine ⟨⟨by omega, of_decide_eq_true h1⟩, fun h2 => dclX_false fun hP => ?_, fun h2 => ⟨(wrapN _ (by omega)).symm, ⟨by omega, fun j hj => ?_⟩, by omega⟩⟩
    · have hb := hP.1 g hlt
      unfold inB at hb
      simp only [Bool.or_eq_true, decide_eq_true_eq] at h2
      omega
    · by_cases hj2 : j < g
      · exact hin j hj2
      · have : j = g := by omega
        subst this
        unfold inB
        simp only [Bool.or_eq_false_iff, decide_eq_false_iff_not] at h2
        omega
  have hgl : g = l.length := by have := of_decide_eq_false h1; omega
  subst hgl
  have htg := tG_in hin
  subst ho
  rw [u64_in (x := 1) (by decide) (by decide), u64_in (x := W) (by omega) (by omega), u64_in (x := d) (by omega) (by omega)]
  refine ELoop_keep (fun i => ⟨[(101, vI .i64 (i : Nat))], [], []⟩) (fun i => i ≤ l.length ∧ ∀ j, j < i → ∀ m, j + m < l.length → winB n d W dr J l j m = true) (fun i => l.length - i) (· + 1) 0 ⟨Nat.zero_le _, fun j hj => absurd hj (Nat.not_lt_zero _)⟩ ?_ ?_
  · simp only [↓gPre, gPost, gCore, handV, V.bufs, buildArr, toCs, Nat.reduceShiftRight, Nat.reduceMod, addB, addK, zeroOp, callSem, resName, keepsB, newB, V.pure, C.pure, V.ptrs, C.ptrs, C.bufs, appendSem, appendTo, appendZ, dstOk, lk, V.cells, Op.eff, partV, partD, cut, lay, zeroD, C.toDs, C.toD, V.toD, toDs, buildCells, if_true, if_false, ↓reduceIte, reduceCtorEq, Nat.reduceEqDiff, Nat.reduceLT, Nat.reduceLeDiff, implies_true, forall_const, eq_self, ne_eq, not_true_eq_false, not_false_eq_true, imp_self, Nat.reduceAdd, Nat.reduceMul, Int.reduceLE, Int.reduceLT, Int.reduceNeg, Int.reduceAdd, Int.reduceToNat, E_rrtvalid_eq, E_possible_eq, E_times_eq, E_plus_eq, E_near_eq, rs_eta, ph_eta, ct_eta, br_eta, LT_nil, LT_length, LT_getD, LT_append, LT_one, LT_cells, LT_inj, LT_nil_eq, LT_trs_LT, LT_take, LT_drop, trs_LT, gBD, Try.ntmps35, Try.results35, gTT]
    rfl
  rintro i ⟨hi, hwi⟩
  simp only [↓gPre, gPost, gCore, handV, V.bufs, buildArr, toCs, Nat.reduceShiftRight, Nat.reduceMod, addB, addK, zeroOp, callSem, resName, keepsB, newB, V.pure, C.pure, V.ptrs, C.ptrs, C.bufs, appendSem, appendTo, appendZ, dstOk, lk, V.cells, Op.eff, partV, partD, cut, lay, zeroD, C.toDs, C.toD, V.toD, toDs, buildCells, if_true, if_false, ↓reduceIte, reduceCtorEq, Nat.reduceEqDiff, Nat.reduceLT, Nat.reduceLeDiff, implies_true, forall_const, eq_self, ne_eq, not_true_eq_false, not_false_eq_true, imp_self, Nat.reduceAdd, Nat.reduceMul, Int.reduceLE, Int.reduceLT, Int.reduceNeg, Int.reduceAdd, Int.reduceToNat, E_rrtvalid_eq, E_possible_eq, E_times_eq, E_plus_eq, E_near_eq, rs_eta, ph_eta, ct_eta, br_eta, LT_nil, LT_length, LT_getD, LT_append, LT_one, LT_cells, LT_inj, LT_nil_eq, LT_trs_LT, LT_take, LT_drop, trs_LT, gBD, Try.ntmps35, Try.results35, gTT]
  refine ⟨fun h1 => ⟨⟨by omega, by omega, by omega⟩, ?_⟩, fun h1 => ?_⟩
  rotate_left
  · have hil : i = l.length := by have := of_decide_eq_false h1; omega
    subst hil
    exact dclX_true ⟨hin, fun j m hjm => hwi j (by omega) m hjm⟩
  have hil : i < l.length := by have := of_decide_eq_true h1; omega
  have htk : (l.drop i).take (l.length - i) = l.drop i := List.take_of_length_le (by rw [List.length_drop]; omega)
  have hdl : (l.drop i).length = l.length - i := List.length_drop ..
  rw [htk, hdl]
  refine ELoop_keep (fun m => ⟨[(108, vI .i64 (m : Nat)), (17, vI .u64 (sm (tG l) i m)), (18, vI .u64 (sm (tP l) i m))], [], []⟩) (fun m => m ≤ l.length - i ∧ ∀ j, j < m → winB n d W dr J l i j = true) (fun m => l.length - i - m) (· + 1) 0 ⟨Nat.zero_le _, fun j hj => absurd hj (Nat.not_lt_zero _)⟩ ?_ ?_
  · simp only [↓gPre, gPost, gCore, handV, V.bufs, buildArr, toCs, Nat.reduceShiftRight, Nat.reduceMod, addB, addK, zeroOp, callSem, resName, keepsB, newB, V.pure, C.pure, V.ptrs, C.ptrs, C.bufs, appendSem, appendTo, appendZ, dstOk, lk, V.cells, Op.eff, partV, partD, cut, lay, zeroD, C.toDs, C.toD, V.toD, toDs, buildCells, if_true, if_false, ↓reduceIte, reduceCtorEq, Nat.reduceEqDiff, Nat.reduceLT, Nat.reduceLeDiff, implies_true, forall_const, eq_self, ne_eq, not_true_eq_false, not_false_eq_true, imp_self, Nat.reduceAdd, Nat.reduceMul, Int.reduceLE, Int.reduceLT, Int.reduceNeg, Int.reduceAdd, Int.reduceToNat, E_rrtvalid_eq, E_possible_eq, E_times_eq, E_plus_eq, E_near_eq, rs_eta, ph_eta, ct_eta, br_eta, LT_nil, LT_length, LT_getD, LT_append, LT_one, LT_cells, LT_inj, LT_nil_eq, LT_trs_LT, LT_take, LT_drop, trs_LT, gBD, Try.ntmps35, Try.results35, gTT]
    exact ⟨rfl, rfl, rfl⟩
  rintro m ⟨hm, hwm⟩
  simp only [↓gPre, gPost, gCore, handV, V.bufs, buildArr, toCs, Nat.reduceShiftRight, Nat.reduceMod, addB, addK, zeroOp, callSem, resName, keepsB, newB, V.pure, C.pure, V.ptrs, C.ptrs, C.bufs, appendSem, appendTo, appendZ, dstOk, lk, V.cells, Op.eff, partV, partD, cut, lay, zeroD, C.toDs, C.toD, V.toD, toDs, buildCells, if_true, if_false, ↓reduceIte, reduceCtorEq, Nat.reduceEqDiff, Nat.reduceLT, Nat.reduceLeDiff, implies_true, forall_const, eq_self, ne_eq, not_true_eq_false, not_false_eq_true, imp_self, Nat.reduceAdd, Nat.reduceMul, Int.reduceLE, Int.reduceLT, Int.reduceNeg, Int.reduceAdd, Int.reduceToNat, E_rrtvalid_eq, E_possible_eq, E_times_eq, E_plus_eq, E_near_eq, rs_eta, ph_eta, ct_eta, br_eta, LT_nil, LT_length, LT_getD, LT_append, LT_one, LT_cells, LT_inj, LT_nil_eq, LT_trs_LT, LT_take, LT_drop, trs_LT, gBD, Try.ntmps35, Try.results35, gTT]
  refine ⟨fun h2 => ?_, fun h2 => ?_⟩
  rotate_left
  · have hml : m = l.length - i := by have := of_decide_eq_false h2; omega
    refine ⟨(wrapN _ (by omega)).symm, ⟨by omega, fun j hj m' hm' => ?_⟩, by omega⟩
    by_cases hji : j < i
    · exact hwi j hji m' hm'
    · have : j = i := by omega
      subst this
      exact hwm m' (by omega)
  have hml : m < l.length - i := by have := of_decide_eq_true h2; omega
  have eg : (l.drop i)[m]? = l[i + m]? := List.getElem?_drop
  rw [eg]
  have g0 := tG_in hin (i + m)
  have g1 := sm_in (fun j => (tG_in hin j).1) i m
  have g2 := sm_in (fun j => (tG_in hin j).2) i m
  have g3 := sm_in (fun j => (tG_in hin j).1) i (m + 1)
  have g4 := sm_in (fun j => (tG_in hin j).2) i (m + 1)
  have hG : IntKind.u64.wrap (sm (tG l) i m + IntKind.u64.wrap (l[i + m]?.getD (0, 0)).1) = sm (tG l) i (m + 1) := by
    show IntKind.u64.wrap (sm (tG l) i m + IntKind.u64.wrap (tG l (i + m))) = _
    rw [u64_in (x := tG l (i + m)) (by omega) (by omega), u64_in (by omega) (by omega)]
    rfl
  have hP : IntKind.u64.wrap (sm (tP l) i m + IntKind.u64.wrap (l[i + m]?.getD (0, 0)).2) = sm (tP l) i (m + 1) := by
    show IntKind.u64.wrap (sm (tP l) i m + IntKind.u64.wrap (tP l (i + m))) = _
    rw [u64_in (x := tP l (i + m)) (by omega) (by omega), u64_in (by omega) (by omega)]
    rfl
  have p1 := mulb (x := sm (tG l) i (m + 1)) (y := n) (A := 2621440) (B := 160) g3.1 (by omega) (by omega) hn.2
  have p2 := mulb (x := sm (tP l) i (m + 1)) (y := d) (A := 2621440) (B := 160) g4.1 (by omega) (by omega) hd.2
  have p3 := mulb (x := (m : Int) + 1) (y := W) (A := 40) (B := 40) (by omega) (by omega) (by omega) hW.2
  have p4 := mulb (x := ((m : Int) + 1) * W) (y := d) (A := 1600) (B := 160) p3.1 p3.2 (by omega) hd.2
  have p5 := mulb (x := ((m : Int) + 1) * W * d) (y := dr) (A := 256000) (B := 4096) p4.1 p4.2 hdr.1 hdr.2
  have p6 := mulb (x := J) (y := d) (A := 1000) (B := 160) hJ.1 hJ.2 (by omega) hd.2
  rw [hG, hP, IntWalk.i64_in ((m : Int) + 1) (by omega), u64_in (x := (m : Int) + 1) (by omega) (by omega), u64_in (x := n) (by omega) (by omega), u64_in (x := dr) (by omega) (by omega), u64_in (x := J) (by omega) (by omega), u64_in (x := ((m : Int) + 1) * W) (by omega) (by omega), u64_in (x := J * d) (by omega) (by omega), u64_in (x := sm (tG l) i (m + 1) * n) (by omega) (by omega), u64_in (x := sm (tP l) i (m + 1) * d) (by omega) (by omega)]
  have hwb : winB n d W dr J l i m = (nearB (sm (tG l) i (m + 1) * n * 65536) (((m : Int) + 1) * W * d * 65536) (((m : Int) + 1) * W * d * dr + J * d * 65536) && nearB (sm (tP l) i (m + 1) * d * 65536) (((m : Int) + 1) * W * d * 65536) (((m : Int) + 1) * W * d * dr + J * d * 65536) && nearB (sm (tG l) i (m + 1) * n * 65536) (sm (tP l) i (m + 1) * d * 65536) (((m : Int) + 1) * W * d * dr + J * d * 65536)) := rfl
  simp only [Int.mul_one]
  generalize sm (tG l) i (m + 1) * n = ug at *
  generalize sm (tP l) i (m + 1) * d = up at *
  generalize ((m : Int) + 1) * W * d * dr = ud at *
  generalize ((m : Int) + 1) * W * d = uw at *
  generalize J * d = uj at *
  refine ⟨⟨by omega, by omega⟩, by kernel_rfl, ⟨by omega, by omega⟩, ⟨by omega, by omega⟩, ⟨by omega, by omega, by omega⟩, ⟨by omega, by omega, by omega, by omega⟩, ⟨by omega, by omega⟩, ⟨by omega, by omega⟩, ⟨by omega, by omega, by omega⟩, fun _ => ⟨by omega, by omega, by omega⟩, fun _ => ⟨by omega, by omega, by omega⟩, fun h3 => dclX_false fun hPP => ?_, fun h3 => ⟨⟨by omega, trivial, trivial⟩, ⟨by omega, fun j hj => ?_⟩, by omega⟩⟩
  · have hw := hPP.2 i m (by omega)
    rw [hwb] at hw
    simp only [Bool.and_eq_true] at hw
    rw [hw.1.1, hw.1.2, hw.2] at h3
    exact absurd h3 (by decide)
  · by_cases hj2 : j < m
    · exact hwm j hj2
    · have : j = m := by omega
      subst this
      rw [hwb]
      simp only [Bool.or_eq_false_iff, Bool.not_eq_false'] at h3
      rw [h3.1.1, h3.1.2, h3.2]
      rfl
def E_declared : List V → Boxes → Toks → Name → Option Ent
  | [.agg [.d (.int .i64 n), .d (.int .i64 d)], .agg [.d (.int .i64 W), .d (.int .i64 o)], .c (.d (.int .i64 dr)), .c (.d (.int .i64 J)), .c (.d (.list q_l))], [], [], _ => some ⟨rtV n d = true ∧ (1 ≤ n ∧ n ≤ 160) ∧ (1 ≤ d ∧ d ≤ 160) ∧ o = 1 ∧ (1 ≤ W ∧ W ≤ 40) ∧ (0 ≤ dr ∧ dr ≤ 4096) ∧ (0 ≤ J ∧ J ≤ 1000) ∧ (trs q_l).length ≤ 40 ∧ q_l = LT (trs q_l), vB (dclX n d W dr J (trs q_l)), [], []⟩
  | _, _, _, _ => none
theorem E_declared_eq {n d W o dr J : Int}  {q_l : List D} {nF : Name} : E_declared [.agg [.d (.int .i64 n), .d (.int .i64 d)], .agg [.d (.int .i64 W), .d (.int .i64 o)], .c (.d (.int .i64 dr)), .c (.d (.int .i64 J)), .c (.d (.list q_l))] [] [] nF = some ⟨rtV n d = true ∧ (1 ≤ n ∧ n ≤ 160) ∧ (1 ≤ d ∧ d ≤ 160) ∧ o = 1 ∧ (1 ≤ W ∧ W ≤ 40) ∧ (0 ≤ dr ∧ dr ≤ 4096) ∧ (0 ≤ J ∧ J ≤ 1000) ∧ (trs q_l).length ≤ 40 ∧ q_l = LT (trs q_l), vB (dclX n d W dr J (trs q_l)), [], []⟩ := Eq.trans rfl rfl
theorem E_declared_ok : Snd Try.prog 35 E_declared := by
  intro vs b k n e h hn hp
  unfold E_declared at h
  split at h
  · cases h; obtain ⟨hp0, hp1, hp2, hp3, hp4, hp5, hp6, hp7, hq0⟩ := hp; obtain ⟨_, rfl⟩ := LT_ex hq0; simp only [ints_LI, bys_LB, blks_LK, lls_LL, trs_LT] at hp0 hp1 hp2 hp3 hp4 hp5 hp6 hp7 ⊢; exact (spec_declared _ _ _ _ _ _ _ hp0 hp1 hp2 hp3 hp4 hp5 hp6 hp7).lift rfl _
  · cases h

end Go.Vam
