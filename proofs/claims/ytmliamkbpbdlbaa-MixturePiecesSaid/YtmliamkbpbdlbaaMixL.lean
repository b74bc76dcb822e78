/- The law MixtureTurns gives true. Conditions: none. -/
import Derived.Test.YtmliamkbpbdlbaaMixK
set_option linter.unusedVariables false
set_option linter.unusedSimpArgs false
set_option maxRecDepth 40000
set_option maxHeartbeats 4000000
namespace Go.Vam
open Go.Proofs

theorem cell_lt {A B i g : Nat} (hg : g < A) (hi : i < B) : i * A + g < A * B := by
  have : (i + 1) * A ≤ B * A := Nat.mul_le_mul_right _ hi
  rw [Nat.add_mul, Nat.one_mul, Nat.mul_comm B] at this
  omega

theorem dotN_congr {f f' g g' : Nat → Int} : ∀ n, (∀ c, c < n → f c = f' c ∧ g c = g' c) → dotN f g n = dotN f' g' n
  | 0, _ => rfl
  | n + 1, h => by
    show dotN f g n + f n * g n = dotN f' g' n + f' n * g' n
    rw [dotN_congr n (fun c hc => h c (by omega)), (h n (by omega)).1, (h n (by omega)).2]
theorem atL_map {f : Nat → Int} {n j : Nat} (h : j < n) : atL ((List.range n).map f) j = f j := by
  unfold atL
  rw [List.getElem?_map, List.getElem?_range h]; rfl

def turnI (k : Nat) (x : Inp) : Inp := { x with m := x.m.drop (k * x.a.toNat) ++ x.m.take (k * x.a.toNat) }
theorem turn_mod {B k r : Nat} (hk : k < B) (hr : r < B) : (r + k) % B = if r < B - k then r + k else r + k - B := by
  split
  · exact Nat.mod_eq_of_lt (by omega)
  · rw [Nat.mod_eq_sub_mod (by omega), Nat.mod_eq_of_lt (by omega)]
theorem turn_get {m : List Int} {A B k r c : Nat} (hm : m.length = A * B) (hk : k < B) (hr : r < B) (hc : c < A) : atL (m.drop (k * A) ++ m.take (k * A)) (r * A + c) = atL m ((r + k) % B * A + c) := by
  have hl : m.length = (B - k) * A + k * A := by rw [hm, ← Nat.add_mul, Nat.mul_comm A B]; congr 1; omega
  have hd : (m.drop (k * A)).length = (B - k) * A := by rw [List.length_drop, hl]; omega
  unfold atL
  rw [turn_mod hk hr]
  by_cases h : r < B - k
  · have := cell_lt hc h
    rw [if_pos h, List.getElem?_append_left (by rw [hd, Nat.mul_comm (B - k)]; exact this), List.getElem?_drop, Nat.add_mul]
    congr 2
    omega
  · have h1 : (B - k) * A ≤ r * A := Nat.mul_le_mul_right _ (by omega)
    have h2 : r * A = (B - k) * A + (r + k - B) * A := by rw [← Nat.add_mul]; congr 1; omega
    have h3 := cell_lt (i := r + k - B) (B := k) hc (by omega)
    rw [if_neg h, List.getElem?_append_right (by rw [hd]; omega), hd, h2]
    rw [show (B - k) * A + (r + k - B) * A + c - (B - k) * A = (r + k - B) * A + c by omega, List.getElem?_take_of_lt (by rw [Nat.mul_comm k]; exact h3)]
theorem turn_ok {ch fr : Int} {x : Inp} {k : Nat} (h : inE ch fr x = 0) (hk : k < ch.toNat) : inE ch fr (turnI k x) = 0 := by
  obtain ⟨h1, h2, h3, h4, h5, h6⟩ := inE_ok h
  obtain ⟨m1, m2, m3, m4⟩ := mxV_in h2
  have hle : k * x.a.toNat ≤ x.m.length := by rw [m3, Nat.mul_comm x.a.toNat]; exact Nat.mul_le_mul_right _ (by omega)
  have hm : mxV x.a x.b (x.m.drop (k * x.a.toNat) ++ x.m.take (k * x.a.toNat)) = true := by
    refine mxV_of m1 m2 ?_ ?_
    · rw [List.length_append, List.length_drop, List.length_take, toNat_mul (by omega) (by omega), ← m3]; omega
    · rw [List.all_eq_true] at m4 ⊢
      intro y hy
      rcases List.mem_append.1 hy with hy | hy
      · exact m4 y (List.mem_of_mem_drop hy)
      · exact m4 y (List.mem_of_mem_take hy)
  unfold inE
  rw [if_neg (by show ¬ ((!blkV x.c x.l || !mxV x.a x.b (x.m.drop (k * x.a.toNat) ++ x.m.take (k * x.a.toNat)) || !validG x.f x.t x.n x.i) = true); rw [h1, hm, h3]; decide), if_neg (by show ¬ ((x.a != x.c || x.b != ch) = true); rw [h4, h5]; simp), if_neg (by show ¬ fr < ((x.l.length / x.c.toNat : Nat) : Int); omega)]
/-- What passes, cell by cell. -/
theorem paO_at {ch fr : Int} {x : Inp} (h : inE ch fr x = 0) (hl : x.l.length ≤ 1000000) {z r : Nat} (hr : r < ch.toNat) : (paO ch fr x)[z * ch.toNat + r]?.getD 0 = if z < x.l.length / x.c.toNat then applyG (satG ((dotN (fun c => atL x.m (r * x.a.toNat + c)) (fun c => atL x.l (z * x.a.toNat + c)) x.a.toNat + 16384) / 32768)) (gainG x.f x.t x.n x.i (z : Int)) else 0 := by
  obtain ⟨h1, h2, h3, h4, h5, h6⟩ := inE_ok h
  obtain ⟨q1, q2, q3, q4, q5, q6⟩ := ap_blk h1 h2 h4 hl
  have hE : grE x.f x.t x.n x.i x.b (apO x.a x.b x.m x.c x.l) = 0 := by simp [grE, h3, q4]
  have hP : paO ch fr x = gO x.f x.t x.n x.i x.b (apO x.a x.b x.m x.c x.l) (apO x.a x.b x.m x.c x.l).length := by unfold paO; rw [if_pos h]; simp [grO, hE]
  have hb : x.b.toNat = ch.toNat := by rw [h5]
  rw [hP]
  unfold gO
  rw [List.getElem?_map, q5, hb]
  by_cases hz : z < x.l.length / x.c.toNat
  · have hj : z * ch.toNat + r < x.l.length / x.c.toNat * ch.toNat := by
      have := cell_lt hr hz
      rw [Nat.mul_comm ch.toNat] at this
      exact this
    rw [if_pos hz, List.getElem?_range hj]
    show gV x.f x.t x.n x.i x.b (apO x.a x.b x.m x.c x.l) (z * ch.toNat + r) = _
    unfold gV
    have e1 : (z * ch.toNat + r) / x.b.toNat = z := by rw [hb, Nat.add_comm, Nat.add_mul_div_right _ _ (by omega), Nat.div_eq_of_lt hr, Nat.zero_add]
    have e2 : (apO x.a x.b x.m x.c x.l)[z * ch.toNat + r]?.getD 0 = satG ((dotN (fun c => atL x.m (r * x.a.toNat + c)) (fun c => atL x.l (z * x.a.toNat + c)) x.a.toNat + 16384) / 32768) := by
      rw [q3, hb, h4]
      have := atL_map (f := apV x.c.toNat ch.toNat x.m x.l) hj
      unfold apL
      refine Eq.trans this ?_
      exact apV_at hr
    rw [e1, e2]
  · have hj : ¬ z * ch.toNat + r < x.l.length / x.c.toNat * ch.toNat := by
      have := Nat.mul_le_mul_right ch.toNat (Nat.le_of_not_lt hz)
      omega
    rw [if_neg hz, List.getElem?_eq_none (by rw [List.length_range]; omega)]
    rfl
theorem paO_turn {ch fr : Int} {x : Inp} {k : Nat} (h : inE ch fr x = 0) (hl : x.l.length ≤ 1000000) (hk : k < ch.toNat) {z r : Nat} (hr : r < ch.toNat) : (paO ch fr (turnI k x))[z * ch.toNat + r]?.getD 0 = (paO ch fr x)[z * ch.toNat + (r + k) % ch.toNat]?.getD 0 := by
  rw [paO_at (turn_ok h hk) hl hr, paO_at h hl (Nat.mod_lt _ (by omega))]
  obtain ⟨h1, h2, h3, h4, h5, h6⟩ := inE_ok h
  obtain ⟨m1, m2, m3, m4⟩ := mxV_in h2
  rw [h5] at m3
  show (if z < x.l.length / x.c.toNat then _ else _) = _
  split
  · have e : dotN (fun c => atL (turnI k x).m (r * (turnI k x).a.toNat + c)) (fun c => atL (turnI k x).l (z * (turnI k x).a.toNat + c)) (turnI k x).a.toNat = dotN (fun c => atL x.m ((r + k) % ch.toNat * x.a.toNat + c)) (fun c => atL x.l (z * x.a.toNat + c)) x.a.toNat := dotN_congr _ fun c hc => ⟨turn_get m3 hk hr hc, rfl⟩
    rw [e]; rfl
  · rfl
theorem sumP_turn {ch fr : Int} {k : Nat} (hk : k < ch.toNat) {z r : Nat} (hr : r < ch.toNat) : ∀ {A : List Inp}, keptI A → (∀ x ∈ A, inE ch fr x = 0) → sumP ch fr (A.map (turnI k)) (z * ch.toNat + r) = sumP ch fr A (z * ch.toNat + (r + k) % ch.toNat)
  | [], _, _ => rfl
  | x :: A, hA, hE => by
    rw [List.map_cons, sumP_cons, sumP_cons, paO_turn (hE x List.mem_cons_self) (hA x List.mem_cons_self).1 hk hr, sumP_turn hk hr (fun y hy => hA y (List.mem_cons_of_mem _ hy)) (fun y hy => hE y (List.mem_cons_of_mem _ hy))]
theorem peak_le {v : Int} : ∀ (f : List Int) (p : Int), f.foldl pstep p ≤ v ↔ p ≤ v ∧ ∀ x ∈ f, -v ≤ x ∧ x ≤ v
  | [], p => by simp
  | x :: f, p => by
    rw [List.foldl_cons, peak_le f, List.forall_mem_cons]
    have : pstep p x ≤ v ↔ p ≤ v ∧ -v ≤ x ∧ x ≤ v := by unfold pstep; omega
    rw [this, and_assoc]
theorem peak_sub {f g : List Int} (h : ∀ x, x ∈ f → x ∈ g) : peakL f ≤ peakL g := by
  have h1 := (peak_le g 0 (v := peakL g)).1 (Int.le_refl _)
  exact (peak_le f 0).2 ⟨h1.1, fun x hx => h1.2 x (h x hx)⟩
theorem gainL_eq {t r g : Int} {f f' : List Int} (h : ∀ x, x ∈ f ↔ x ∈ f') : gainL t r g f = gainL t r g f' := by
  have : peakL f = peakL f' := Int.le_antisymm (peak_sub fun x hx => (h x).1 hx) (peak_sub fun x hx => (h x).2 hx)
  unfold gainL; rw [this]
theorem gAt_eq {t r g c : Int} {s s' : List Int} {n : Nat} (h : ∀ i, i < n → ∀ x, x ∈ frL c s' i ↔ x ∈ frL c s i) : ∀ i, i ≤ n → gAt t r g c s' i = gAt t r g c s i
  | 0, _ => rfl
  | i + 1, hi => by
    show gainL t r (gAt t r g c s' i) (frL c s' i) = gainL t r (gAt t r g c s i) (frL c s i)
    rw [gAt_eq h i (by omega), gainL_eq (h i (by omega))]
theorem mem_frL {c : Int} {s : List Int} {i : Nat} (hl : (i + 1) * c.toNat ≤ s.length) {x : Int} : x ∈ frL c s i ↔ ∃ r, r < c.toNat ∧ atL s (i * c.toNat + r) = x := by
  rw [Nat.add_mul, Nat.one_mul] at hl
  unfold frL
  rw [List.mem_iff_getElem?]
  constructor
  · rintro ⟨j, hj⟩
    by_cases hjc : j < c.toNat
    · rw [List.getElem?_take_of_lt hjc, List.getElem?_drop] at hj
      exact ⟨j, hjc, by unfold atL; rw [hj]; rfl⟩
    · rw [List.getElem?_eq_none (by rw [List.length_take]; omega)] at hj; cases hj
  · rintro ⟨r, hr, rfl⟩
    refine ⟨r, ?_⟩
    rw [List.getElem?_take_of_lt hr, List.getElem?_drop, List.getElem?_eq_getElem (by omega)]
    unfold atL
    rw [List.getElem?_eq_getElem (by omega)]; rfl
theorem mem_turn {c : Int} {s s' : List Int} {i k : Nat} (hk : k < c.toNat) (hl : (i + 1) * c.toNat ≤ s.length) (hl' : s'.length = s.length) (h : ∀ r, r < c.toNat → atL s' (i * c.toNat + r) = atL s (i * c.toNat + (r + k) % c.toNat)) (x : Int) : x ∈ frL c s' i ↔ x ∈ frL c s i := by
  rw [mem_frL (by rw [hl']; exact hl), mem_frL hl]
  constructor
  · rintro ⟨r, hr, rfl⟩
    exact ⟨(r + k) % c.toNat, Nat.mod_lt _ (by omega), (h r hr).symm⟩
  · rintro ⟨r, hr, rfl⟩
    have hr2 : (r + (c.toNat - k)) % c.toNat < c.toNat := Nat.mod_lt _ (by omega)
    refine ⟨(r + (c.toNat - k)) % c.toNat, hr2, ?_⟩
    rw [h _ hr2]
    congr 2
    by_cases h0 : r < k
    · rw [Nat.mod_eq_of_lt (show r + (c.toNat - k) < c.toNat by omega), show r + (c.toNat - k) + k = r + c.toNat by omega, Nat.add_mod_right, Nat.mod_eq_of_lt hr]
    · rw [Nat.mod_eq_sub_mod (show c.toNat ≤ r + (c.toNat - k) by omega), Nat.mod_eq_of_lt (show r + (c.toNat - k) - c.toNat < c.toNat by omega), show r + (c.toNat - k) - c.toNat + k = r by omega, Nat.mod_eq_of_lt hr]
theorem oAt_at {t r g c : Int} {s : List Int} (hc : chB c s = false) : ∀ n, n ≤ s.length / c.toNat → ∀ z j, z < n → j < c.toNat → (oAt t r g c s n)[z * c.toNat + j]?.getD 0 = ampL (gAt t r g c s (z + 1)) (atL s (z * c.toNat + j))
  | 0, _, z, j, hz, _ => absurd hz (Nat.not_lt_zero _)
  | n + 1, hn, z, j, hz, hj => by
    have hlen := oAt_len (t := t) (r := r) (g := g) hc n (by omega)
    have hfl := frL_len hc (show n < s.length / c.toNat by omega)
    show (oAt t r g c s n ++ (frL c s n).map (ampL (gAt t r g c s (n + 1))))[z * c.toNat + j]?.getD 0 = _
    by_cases h : z < n
    · have hcl := cell_lt hj h
      rw [Nat.mul_comm c.toNat] at hcl
      rw [List.getElem?_append_left (by rw [hlen]; exact hcl)]
      exact oAt_at hc n (by omega) z j h hj
    · have : z = n := by omega
      subst this
      rw [List.getElem?_append_right (by rw [hlen]; omega), hlen, Nat.add_sub_cancel_left, List.getElem?_map]
      unfold frL at hfl ⊢
      rw [List.getElem?_take_of_lt hj, List.getElem?_drop]
      rw [List.length_take, List.length_drop] at hfl
      rw [List.getElem?_eq_getElem (by omega)]
      unfold atL
      rw [List.getElem?_eq_getElem (by omega)]; rfl

theorem spec_turns (s : List UInt8) (w : Int) (hw : 0 ≤ w ∧ w ≤ 255) : Spec Try.prog 0 5 [vL (LB s), vI .u8 w] [] [] (vB true) [] [] := by
  refine spec_of_E (X := ⟨Try.prog, tt, Try.f5.ntmps, 1, fun _ => 0, (tab [(8, E_sane), (9, E_new), (10, E_next), (11, E_made), (12, E_limit), (14, E_mix)])⟩) (M := [(12, [0, 0, 0, 0, 0, 178406042671152728012154583546243503794155507, 0, 0, 0, 0, 0, 178406042671152728012154581591681265515360243, 0, 0, 0, 0, 0, 178406042671152728012154362248365014062723059, 0]), (15, [0, 0, 0, 0, 0, 178406042671152728020635363516717422675488755, 0, 0, 0, 0, 0, 178406042671152728019407548231171314919927795, 0, 0]), (16, [0, 0, 0, 0, 0, 178406042671152732354615537369231535416274931, 0, 0, 0, 0, 0, 178406042671152731725974111169624364569063411, 0, 0]), (17, [0, 0, 0, 0, 0, 178406044000380565340744837688615413064134643, 0, 0, 0, 0, 0, 178406044000370582592268040382078626526392307, 0, 0, 0, 0, 0, 178406043999822957532969445280632050741669875, 0, 0, 0, 0, 0, 178406043964034645787326072817577125847494643, 0, 0, 0, 0, 0]), (22, [0, 0, 0, 0, 0, 356793629011583982467412717265869116436115443, 0, 0, 0, 0, 0, 356205621081544600802548005944227020966719475, 0, 0, 0, 0, 0, 267609704030009062455223793153291849432035315, 0])]) (m := 178406042671152728012153993313483539871690739) rfl rfl ⟨tt_ok, tab_ok (tabs_cons E_sane_ok (tabs_cons E_new_ok (tabs_cons E_next_ok (tabs_cons E_made_ok (tabs_cons E_limit_ok (tabs_cons E_mix_ok tabs_nil)))))) _ rfl rfl⟩ tt_mixed Try.func5 rfl (by decide) (by show (2 : Nat) ≤ _; exact Nat.le_of_ble_eq_true rfl) ⟨fun m hm => (V.bare_has rfl m hm).elim, by simp, by simp⟩ ?_
  simp only [↓gPre, gPost, handV, V.bufs, buildArr, toCs, List.set_cons_succ, List.set_cons_zero, List.foldr_cons, List.foldr_nil, List.append_eq, Nat.reduceShiftRight, Nat.reduceMod, List.mem_cons, addB, addK, zeroOp, callSem, resName, keepsB, newB, V.pure, C.pure, V.ptrs, C.ptrs, C.bufs, appendSem, dstOk, lk, V.cells, Op.eff, partV, partD, cut, lay, zeroD, C.toDs, C.toD, V.toD, toDs, buildCells, List.flatMap_nil, List.flatMap_cons, List.all_nil, List.all_cons, List.map_nil, List.map_cons, List.zip_cons_cons, List.zip_nil_left, List.nil_append, List.append_nil, List.cons_append, List.drop_zero, List.drop_succ_cons, List.take_succ_cons, List.take_zero, List.length_cons, List.length_nil, List.getElem?_cons_succ, List.getElem?_cons_zero, Option.getD_some, Option.getD_none, Option.map_some, Option.map_none, Option.some.injEq, Option.isSome_none, Option.isSome_some, Option.toList_some, Option.toList_none, if_true, if_false, ↓reduceIte, reduceCtorEq, Nat.reduceEqDiff, Nat.reduceLT, Nat.reduceLeDiff, List.not_mem_nil, false_implies, implies_true, true_and, and_true, forall_const, Nat.succ_ne_self, Bool.false_eq_true, Bool.true_and, Bool.and_true, eq_self, ne_eq, not_true_eq_false, not_false_eq_true, or_true, true_or, and_self, imp_self, bne_self_eq_false, beq_self_eq_true, Bool.or_false, Bool.false_or, Bool.and_false, Bool.false_and, false_or, or_false, Nat.reduceAdd, Nat.reduceMul, beq_true, beq_false, Name.mk.injEq, decide_true, decide_false, Bool.or_true, Bool.true_or, Bool.or_self, Bool.not_eq_true', Bool.not_true, Bool.not_false, Bool.true_eq_false, Bool.cond_true_left, Bool.cond_false_right, Nat.zero_add, Int.reduceLE, Int.reduceLT, Int.reduceNeg, Int.reduceAdd, Int.reduceToNat, List.range_succ, List.range_zero, Int.toNat_natCast, List.mem_nil_iff, List.mem_append, E_sane_eq, E_new_eq, E_next_eq, E_made_eq, E_limit_eq, E_mix_eq, LX_nil, LX_length, LX_getD, LX_append, LX_one, LX_cells, LX_inj, LX_nil_eq, LX_inps_LX, LX_take, LX_drop, inps_LX, Try.ntmps5, Try.results5, tt_1, tt_2, tt_3, tt_4, tt_5, tt_6, tt_7, tt_8, tt_12, tt_15, tt_16, tt_17, tt_18, tt_19, tt_21, tt_22, tt_23, tt_24, tt_25, tt_26, tt_27, tt_28, tt_29, tt_30, tt_31, tt_32, tt_33, tt_34, tt_35, tt_36, tt_37, tt_38, tt_39, tt_40, tt_41, tt_42, tt_43, tt_45, tt_46, tt_47, tt_49, tt_50, tt_52, tt_53, tt_55, tt_56, tt_57, tt_58, tt_59, tt_60, tt_61, tt_62, tt_64, tt_65, tt_66, tt_67, tt_68, tt_69, tt_70, tt_71, tt_72, tt_73, tt_74, tt_75, tt_76, tt_77, tt_78, tt_80, tt_81, tt_82, tt_83, tt_85, tt_86, tt_87, tt_88, tt_89, tt_90, tt_91, tt_92, tt_93, tt_94, tt_95, tt_96, tt_97, tt_98, tt_99, tt_100, tt_101, tt_102, tt_103, tt_106, tt_107, tt_108, tt_109, tt_110, tt_111, tt_112, tt_113, tt_114, tt_115, tt_116, tt_117, tt_118, tt_119]
  have p0 := dN_ge (List.take 300 s) 3
  have p1 := dN_lt (List.take 300 s) 3 (by decide)
  have q0 := dN_ge (dT (List.take 300 s) 3) 8
  have q1 := dN_lt (dT (List.take 300 s) 3) 8 (by decide)
  rw [IntWalk.i64_in (1 + dN (List.take 300 s) 3) (by omega)]
  generalize dT (dT (List.take 300 s) 3) 8 = s1 at *
  generalize dN (dT (List.take 300 s) 3) 8 = q at *
  generalize hp : 1 + dN (List.take 300 s) 3 = p at *
  have hpb : 1 ≤ p ∧ p ≤ 8 := by omega
  have hqb : 0 ≤ q ∧ q ≤ 100 := by omega
  have n1 := mdL_len s1 p q (dN s1 5).toNat
  have kA := kept_mdL s1 (ch := p) (fr := q) hpb hqb (dN s1 5).toNat
  have oA := md_ok s1 (ch := p) (fr := q) hpb hqb (dN s1 5).toNat
  have u0 := dN_ge s1 5
  have u1 := dN_lt s1 5 (by decide)
  generalize mdL s1 p q (dN s1 5).toNat = A at *
  generalize mdR s1 p q (dN s1 5).toNat = s2 at *
  have hv := lim_ok s2
  generalize newT (lmT s2) (lmR s2) = T at *
  generalize newR (lmT s2) (lmR s2) = R at *
  generalize newG (lmT s2) (lmR s2) = G at *
  have hA4 : A.length ≤ 4 := by omega
  rw [IntWalk.i64_in w (by omega)]
  have tm : w.tmod p = ((w.toNat % p.toNat : Nat) : Int) := by
    have := tmodN w.toNat (s := p) (by omega)
    rw [← this]
    congr 1
    omega
  rw [tm]
  have hmod : w.toNat % p.toNat < p.toNat := Nat.mod_lt _ (by omega)
  generalize w.toNat % p.toNat = k at *
  refine ⟨⟨hpb, by omega⟩, by omega, ?_⟩
  refine ELoop_nilT 11 9 ⟨1, 99⟩ rfl (by simp only [↓gPre, gPost, handV, V.bufs, buildArr, toCs, List.set_cons_succ, List.set_cons_zero, List.foldr_cons, List.foldr_nil, List.append_eq, Nat.reduceShiftRight, Nat.reduceMod, List.mem_cons, addB, addK, zeroOp, callSem, resName, keepsB, newB, V.pure, C.pure, V.ptrs, C.ptrs, C.bufs, appendSem, dstOk, lk, V.cells, Op.eff, partV, partD, cut, lay, zeroD, C.toDs, C.toD, V.toD, toDs, buildCells, List.flatMap_nil, List.flatMap_cons, List.all_nil, List.all_cons, List.map_nil, List.map_cons, List.zip_cons_cons, List.zip_nil_left, List.nil_append, List.append_nil, List.cons_append, List.drop_zero, List.drop_succ_cons, List.take_succ_cons, List.take_zero, List.length_cons, List.length_nil, List.getElem?_cons_succ, List.getElem?_cons_zero, Option.getD_some, Option.getD_none, Option.map_some, Option.map_none, Option.some.injEq, Option.isSome_none, Option.isSome_some, Option.toList_some, Option.toList_none, if_true, if_false, ↓reduceIte, reduceCtorEq, Nat.reduceEqDiff, Nat.reduceLT, Nat.reduceLeDiff, List.not_mem_nil, false_implies, implies_true, true_and, and_true, forall_const, Nat.succ_ne_self, Bool.false_eq_true, Bool.true_and, Bool.and_true, eq_self, ne_eq, not_true_eq_false, not_false_eq_true, or_true, true_or, and_self, imp_self, bne_self_eq_false, beq_self_eq_true, Bool.or_false, Bool.false_or, Bool.and_false, Bool.false_and, false_or, or_false, Nat.reduceAdd, Nat.reduceMul, beq_true, beq_false, Name.mk.injEq, decide_true, decide_false, Bool.or_true, Bool.true_or, Bool.or_self, Bool.not_eq_true', Bool.not_true, Bool.not_false, Bool.true_eq_false, Bool.cond_true_left, Bool.cond_false_right, Nat.zero_add, Int.reduceLE, Int.reduceLT, Int.reduceNeg, Int.reduceAdd, Int.reduceToNat, List.range_succ, List.range_zero, Int.toNat_natCast, List.mem_nil_iff, List.mem_append, E_sane_eq, E_new_eq, E_next_eq, E_made_eq, E_limit_eq, E_mix_eq, LX_nil, LX_length, LX_getD, LX_append, LX_one, LX_cells, LX_inj, LX_nil_eq, LX_inps_LX, LX_take, LX_drop, inps_LX, Try.ntmps5, Try.results5, tt_1, tt_2, tt_3, tt_4, tt_5, tt_6, tt_7, tt_8, tt_12, tt_15, tt_16, tt_17, tt_18, tt_19, tt_21, tt_22, tt_23, tt_24, tt_25, tt_26, tt_27, tt_28, tt_29, tt_30, tt_31, tt_32, tt_33, tt_34, tt_35, tt_36, tt_37, tt_38, tt_39, tt_40, tt_41, tt_42, tt_43, tt_45, tt_46, tt_47, tt_49, tt_50, tt_52, tt_53, tt_55, tt_56, tt_57, tt_58, tt_59, tt_60, tt_61, tt_62, tt_64, tt_65, tt_66, tt_67, tt_68, tt_69, tt_70, tt_71, tt_72, tt_73, tt_74, tt_75, tt_76, tt_77, tt_78, tt_80, tt_81, tt_82, tt_83, tt_85, tt_86, tt_87, tt_88, tt_89, tt_90, tt_91, tt_92, tt_93, tt_94, tt_95, tt_96, tt_97, tt_98, tt_99, tt_100, tt_101, tt_102, tt_103, tt_106, tt_107, tt_108, tt_109, tt_110, tt_111, tt_112, tt_113, tt_114, tt_115, tt_116, tt_117, tt_118, tt_119]) (Nat.le_refl _) ?_
  simp only [↓gPre, gPost, handV, V.bufs, buildArr, toCs, List.set_cons_succ, List.set_cons_zero, List.foldr_cons, List.foldr_nil, List.append_eq, Nat.reduceShiftRight, Nat.reduceMod, List.mem_cons, addB, addK, zeroOp, callSem, resName, keepsB, newB, V.pure, C.pure, V.ptrs, C.ptrs, C.bufs, appendSem, dstOk, lk, V.cells, Op.eff, partV, partD, cut, lay, zeroD, C.toDs, C.toD, V.toD, toDs, buildCells, List.flatMap_nil, List.flatMap_cons, List.all_nil, List.all_cons, List.map_nil, List.map_cons, List.zip_cons_cons, List.zip_nil_left, List.nil_append, List.append_nil, List.cons_append, List.drop_zero, List.drop_succ_cons, List.take_succ_cons, List.take_zero, List.length_cons, List.length_nil, List.getElem?_cons_succ, List.getElem?_cons_zero, Option.getD_some, Option.getD_none, Option.map_some, Option.map_none, Option.some.injEq, Option.isSome_none, Option.isSome_some, Option.toList_some, Option.toList_none, if_true, if_false, ↓reduceIte, reduceCtorEq, Nat.reduceEqDiff, Nat.reduceLT, Nat.reduceLeDiff, List.not_mem_nil, false_implies, implies_true, true_and, and_true, forall_const, Nat.succ_ne_self, Bool.false_eq_true, Bool.true_and, Bool.and_true, eq_self, ne_eq, not_true_eq_false, not_false_eq_true, or_true, true_or, and_self, imp_self, bne_self_eq_false, beq_self_eq_true, Bool.or_false, Bool.false_or, Bool.and_false, Bool.false_and, false_or, or_false, Nat.reduceAdd, Nat.reduceMul, beq_true, beq_false, Name.mk.injEq, decide_true, decide_false, Bool.or_true, Bool.true_or, Bool.or_self, Bool.not_eq_true', Bool.not_true, Bool.not_false, Bool.true_eq_false, Bool.cond_true_left, Bool.cond_false_right, Nat.zero_add, Int.reduceLE, Int.reduceLT, Int.reduceNeg, Int.reduceAdd, Int.reduceToNat, List.range_succ, List.range_zero, Int.toNat_natCast, List.mem_nil_iff, List.mem_append, E_sane_eq, E_new_eq, E_next_eq, E_made_eq, E_limit_eq, E_mix_eq, LX_nil, LX_length, LX_getD, LX_append, LX_one, LX_cells, LX_inj, LX_nil_eq, LX_inps_LX, LX_take, LX_drop, inps_LX, Try.ntmps5, Try.results5, tt_1, tt_2, tt_3, tt_4, tt_5, tt_6, tt_7, tt_8, tt_12, tt_15, tt_16, tt_17, tt_18, tt_19, tt_21, tt_22, tt_23, tt_24, tt_25, tt_26, tt_27, tt_28, tt_29, tt_30, tt_31, tt_32, tt_33, tt_34, tt_35, tt_36, tt_37, tt_38, tt_39, tt_40, tt_41, tt_42, tt_43, tt_45, tt_46, tt_47, tt_49, tt_50, tt_52, tt_53, tt_55, tt_56, tt_57, tt_58, tt_59, tt_60, tt_61, tt_62, tt_64, tt_65, tt_66, tt_67, tt_68, tt_69, tt_70, tt_71, tt_72, tt_73, tt_74, tt_75, tt_76, tt_77, tt_78, tt_80, tt_81, tt_82, tt_83, tt_85, tt_86, tt_87, tt_88, tt_89, tt_90, tt_91, tt_92, tt_93, tt_94, tt_95, tt_96, tt_97, tt_98, tt_99, tt_100, tt_101, tt_102, tt_103, tt_106, tt_107, tt_108, tt_109, tt_110, tt_111, tt_112, tt_113, tt_114, tt_115, tt_116, tt_117, tt_118, tt_119]
  refine ELoop_keep (fun g => ⟨[(44, vI .i64 (g : Nat)), (11, .c (.own ⟨1, 99⟩ (LX ((A.take g).map (turnI k)))))], [], [(⟨1, 99⟩, ⟨false, 9, LX ((A.take g).map (turnI k))⟩)]⟩) (fun g => g ≤ A.length) (fun g => A.length - g) (· + 1) 0 (Nat.zero_le _) ?_ ?_
  · simp only [↓gPre, gPost, handV, V.bufs, buildArr, toCs, List.set_cons_succ, List.set_cons_zero, List.foldr_cons, List.foldr_nil, List.append_eq, Nat.reduceShiftRight, Nat.reduceMod, List.mem_cons, addB, addK, zeroOp, callSem, resName, keepsB, newB, V.pure, C.pure, V.ptrs, C.ptrs, C.bufs, appendSem, dstOk, lk, V.cells, Op.eff, partV, partD, cut, lay, zeroD, C.toDs, C.toD, V.toD, toDs, buildCells, List.flatMap_nil, List.flatMap_cons, List.all_nil, List.all_cons, List.map_nil, List.map_cons, List.zip_cons_cons, List.zip_nil_left, List.nil_append, List.append_nil, List.cons_append, List.drop_zero, List.drop_succ_cons, List.take_succ_cons, List.take_zero, List.length_cons, List.length_nil, List.getElem?_cons_succ, List.getElem?_cons_zero, Option.getD_some, Option.getD_none, Option.map_some, Option.map_none, Option.some.injEq, Option.isSome_none, Option.isSome_some, Option.toList_some, Option.toList_none, if_true, if_false, ↓reduceIte, reduceCtorEq, Nat.reduceEqDiff, Nat.reduceLT, Nat.reduceLeDiff, List.not_mem_nil, false_implies, implies_true, true_and, and_true, forall_const, Nat.succ_ne_self, Bool.false_eq_true, Bool.true_and, Bool.and_true, eq_self, ne_eq, not_true_eq_false, not_false_eq_true, or_true, true_or, and_self, imp_self, bne_self_eq_false, beq_self_eq_true, Bool.or_false, Bool.false_or, Bool.and_false, Bool.false_and, false_or, or_false, Nat.reduceAdd, Nat.reduceMul, beq_true, beq_false, Name.mk.injEq, decide_true, decide_false, Bool.or_true, Bool.true_or, Bool.or_self, Bool.not_eq_true', Bool.not_true, Bool.not_false, Bool.true_eq_false, Bool.cond_true_left, Bool.cond_false_right, Nat.zero_add, Int.reduceLE, Int.reduceLT, Int.reduceNeg, Int.reduceAdd, Int.reduceToNat, List.range_succ, List.range_zero, Int.toNat_natCast, List.mem_nil_iff, List.mem_append, E_sane_eq, E_new_eq, E_next_eq, E_made_eq, E_limit_eq, E_mix_eq, LX_nil, LX_length, LX_getD, LX_append, LX_one, LX_cells, LX_inj, LX_nil_eq, LX_inps_LX, LX_take, LX_drop, inps_LX, Try.ntmps5, Try.results5, tt_1, tt_2, tt_3, tt_4, tt_5, tt_6, tt_7, tt_8, tt_12, tt_15, tt_16, tt_17, tt_18, tt_19, tt_21, tt_22, tt_23, tt_24, tt_25, tt_26, tt_27, tt_28, tt_29, tt_30, tt_31, tt_32, tt_33, tt_34, tt_35, tt_36, tt_37, tt_38, tt_39, tt_40, tt_41, tt_42, tt_43, tt_45, tt_46, tt_47, tt_49, tt_50, tt_52, tt_53, tt_55, tt_56, tt_57, tt_58, tt_59, tt_60, tt_61, tt_62, tt_64, tt_65, tt_66, tt_67, tt_68, tt_69, tt_70, tt_71, tt_72, tt_73, tt_74, tt_75, tt_76, tt_77, tt_78, tt_80, tt_81, tt_82, tt_83, tt_85, tt_86, tt_87, tt_88, tt_89, tt_90, tt_91, tt_92, tt_93, tt_94, tt_95, tt_96, tt_97, tt_98, tt_99, tt_100, tt_101, tt_102, tt_103, tt_106, tt_107, tt_108, tt_109, tt_110, tt_111, tt_112, tt_113, tt_114, tt_115, tt_116, tt_117, tt_118, tt_119]
    simp [LX_nil]
  intro g hg
  simp only [↓gPre, gPost, handV, V.bufs, buildArr, toCs, List.set_cons_succ, List.set_cons_zero, List.foldr_cons, List.foldr_nil, List.append_eq, Nat.reduceShiftRight, Nat.reduceMod, List.mem_cons, addB, addK, zeroOp, callSem, resName, keepsB, newB, V.pure, C.pure, V.ptrs, C.ptrs, C.bufs, appendSem, dstOk, lk, V.cells, Op.eff, partV, partD, cut, lay, zeroD, C.toDs, C.toD, V.toD, toDs, buildCells, List.flatMap_nil, List.flatMap_cons, List.all_nil, List.all_cons, List.map_nil, List.map_cons, List.zip_cons_cons, List.zip_nil_left, List.nil_append, List.append_nil, List.cons_append, List.drop_zero, List.drop_succ_cons, List.take_succ_cons, List.take_zero, List.length_cons, List.length_nil, List.getElem?_cons_succ, List.getElem?_cons_zero, Option.getD_some, Option.getD_none, Option.map_some, Option.map_none, Option.some.injEq, Option.isSome_none, Option.isSome_some, Option.toList_some, Option.toList_none, if_true, if_false, ↓reduceIte, reduceCtorEq, Nat.reduceEqDiff, Nat.reduceLT, Nat.reduceLeDiff, List.not_mem_nil, false_implies, implies_true, true_and, and_true, forall_const, Nat.succ_ne_self, Bool.false_eq_true, Bool.true_and, Bool.and_true, eq_self, ne_eq, not_true_eq_false, not_false_eq_true, or_true, true_or, and_self, imp_self, bne_self_eq_false, beq_self_eq_true, Bool.or_false, Bool.false_or, Bool.and_false, Bool.false_and, false_or, or_false, Nat.reduceAdd, Nat.reduceMul, beq_true, beq_false, Name.mk.injEq, decide_true, decide_false, Bool.or_true, Bool.true_or, Bool.or_self, Bool.not_eq_true', Bool.not_true, Bool.not_false, Bool.true_eq_false, Bool.cond_true_left, Bool.cond_false_right, Nat.zero_add, Int.reduceLE, Int.reduceLT, Int.reduceNeg, Int.reduceAdd, Int.reduceToNat, List.range_succ, List.range_zero, Int.toNat_natCast, List.mem_nil_iff, List.mem_append, E_sane_eq, E_new_eq, E_next_eq, E_made_eq, E_limit_eq, E_mix_eq, LX_nil, LX_length, LX_getD, LX_append, LX_one, LX_cells, LX_inj, LX_nil_eq, LX_inps_LX, LX_take, LX_drop, inps_LX, Try.ntmps5, Try.results5, tt_1, tt_2, tt_3, tt_4, tt_5, tt_6, tt_7, tt_8, tt_12, tt_15, tt_16, tt_17, tt_18, tt_19, tt_21, tt_22, tt_23, tt_24, tt_25, tt_26, tt_27, tt_28, tt_29, tt_30, tt_31, tt_32, tt_33, tt_34, tt_35, tt_36, tt_37, tt_38, tt_39, tt_40, tt_41, tt_42, tt_43, tt_45, tt_46, tt_47, tt_49, tt_50, tt_52, tt_53, tt_55, tt_56, tt_57, tt_58, tt_59, tt_60, tt_61, tt_62, tt_64, tt_65, tt_66, tt_67, tt_68, tt_69, tt_70, tt_71, tt_72, tt_73, tt_74, tt_75, tt_76, tt_77, tt_78, tt_80, tt_81, tt_82, tt_83, tt_85, tt_86, tt_87, tt_88, tt_89, tt_90, tt_91, tt_92, tt_93, tt_94, tt_95, tt_96, tt_97, tt_98, tt_99, tt_100, tt_101, tt_102, tt_103, tt_106, tt_107, tt_108, tt_109, tt_110, tt_111, tt_112, tt_113, tt_114, tt_115, tt_116, tt_117, tt_118, tt_119]
  refine ⟨fun h1 => ?_, fun h1 => ?_⟩
  · have hgl : g < A.length := by have := of_decide_eq_true h1; omega
    have hgx : A[g]?.getD inp0 = A[g] := by rw [List.getElem?_eq_getElem hgl]; rfl
    rw [hgx]
    refine ⟨by omega, by kernel_rfl, ?_⟩
    have hgm := List.getElem_mem hgl
    have hok := oA _ hgm
    have hkx := kA _ hgm
    have htk : List.map (turnI k) (List.take (g + 1) A) = List.map (turnI k) (List.take g A) ++ [turnI k A[g]] := by
      rw [List.take_add_one, List.getElem?_eq_getElem hgl, List.map_append]; rfl
    rw [htk]
    generalize A[g] = x at *
    obtain ⟨_, hm, _, hac, hbp, _⟩ := inE_ok hok
    obtain ⟨m1, m2, m3, _⟩ := mxV_in hm
    have hka : IntKind.i64.wrap ((k : Int) * x.a) = ((k * x.a.toNat : Nat) : Int) := by
      have e : (x.a.toNat : Int) = x.a := by omega
      have b := Nat.mul_le_mul (show k ≤ 8 by omega) (show x.a.toNat ≤ 8 by omega)
      have e2 : (k : Int) * x.a = ((k * x.a.toNat : Nat) : Int) := by rw [Int.natCast_mul, e]
      rw [e2, IntWalk.i64_in _ (by omega)]
    have hle : k * x.a.toNat ≤ x.m.length := by
      rw [m3, Nat.mul_comm x.a.toNat]
      exact Nat.mul_le_mul_right _ (by omega)
    have hlm : (List.map (turnI k) (List.take g A)).length ≤ 4 := by rw [List.length_map, List.length_take]; omega
    rw [hka, Int.toNat_natCast]
    have e1 : List.take (x.m.length - k * x.a.toNat) (List.drop (k * x.a.toNat) x.m) = List.drop (k * x.a.toNat) x.m := List.take_of_length_le (by rw [List.length_drop]; omega)
    have e2 : List.take (k * x.a.toNat - 0) x.m = List.take (k * x.a.toNat) x.m := rfl
    rw [e1, e2]
    have l1 : (List.drop (k * x.a.toNat) x.m).length ≤ x.m.length := by rw [List.length_drop]; omega
    have l2 : (List.take (k * x.a.toNat) x.m).length ≤ x.m.length := by rw [List.length_take]; omega
    exact ⟨by omega, by unfold roomOK; omega, by omega, by unfold roomOK; omega, by unfold roomOK; omega, ⟨⟨(wrapN _ (by omega)).symm, rfl⟩, rfl⟩, by omega, by omega⟩
  · have hgl : g = A.length := by have := of_decide_eq_false h1; omega
    rw [hgl, List.take_length]
    have hB : muB p q = false := by simp only [muB, Bool.or_eq_false_iff, decide_eq_false_iff_not]; omega
    have oT : ∀ x ∈ A.map (turnI k), inE p q x = 0 := fun x hx => by
      obtain ⟨y, hy, rfl⟩ := List.mem_map.1 hx
      exact turn_ok (oA y hy) hmod
    have kT : keptI (A.map (turnI k)) := fun x hx => by
      obtain ⟨y, hy, rfl⟩ := List.mem_map.1 hx
      obtain ⟨_, h5, _⟩ := inE_ok (turn_ok (oA y hy) hmod)
      have hm := (inE_ok (turn_ok (oA y hy) hmod)).2.1
      obtain ⟨m1, m2, m3, _⟩ := mxV_in hm
      have b3 := Nat.mul_le_mul (show (turnI k y).a.toNat ≤ 8 by omega) (show (turnI k y).b.toNat ≤ 8 by omega)
      exact ⟨(kA y hy).1, by omega⟩
    have lT : (A.map (turnI k)).length ≤ 32 := by rw [List.length_map]; omega
    obtain ⟨eA, lA, gA⟩ := muS_ok hB kA oA (by omega)
    obtain ⟨eT, lT2, gT⟩ := muS_ok hB kT oT lT
    have hR := muS_run hB kA (by omega) eA hv
    have hR2 := muS_run hB kT lT eT hv
    have hst : ∀ z r, r < p.toNat → atL (muS p q (A.map (turnI k))) (z * p.toNat + r) = atL (muS p q A) (z * p.toNat + (r + k) % p.toNat) := fun z r hr => by
      unfold atL
      rw [gT, gA, sumP_turn hmod hr kA oA]
    simp only [mxE, mxT, mxR, mxG, mxC, mxO, eA, eT, if_true]
    generalize muS p q (A.map (turnI k)) = S2 at *
    generalize muS p q A = S1 at *
    have hdiv : S1.length / p.toNat = q.toNat := by rw [lA]; exact Nat.mul_div_cancel_left _ (by omega)
    have hdiv2 : S2.length / p.toNat = q.toNat := by rw [lT2]; exact Nat.mul_div_cancel_left _ (by omega)
    have c1 : chB p S1 = false := by
      cases h : chB p S1 with
      | false => rfl
      | true => simp [runE, hv, h] at hR
    have c2 : chB p S2 = false := by
      cases h : chB p S2 with
      | false => rfl
      | true => simp [runE, hv, h] at hR2
    have hG := gAt_eq (t := T) (r := R) (g := G) (c := p) (s := S1) (s' := S2) (n := q.toNat) (fun i hi x => mem_turn hmod (by rw [lA, Nat.mul_comm p.toNat]; exact Nat.mul_le_mul_right _ hi) (by rw [lT2, lA]) (hst i) x)
    have hO1 := oAt_len (t := T) (r := R) (g := G) c1 q.toNat (by omega)
    have hO2 := oAt_len (t := T) (r := R) (g := G) c2 q.toNat (by omega)
    have hXY : ∀ z r, z < q.toNat → r < p.toNat → (oAt T R G p S2 q.toNat)[z * p.toNat + r]?.getD 0 = (oAt T R G p S1 q.toNat)[z * p.toNat + (r + k) % p.toNat]?.getD 0 := fun z r hz hr => by
      rw [oAt_at c2 q.toNat (by omega) z r hz hr, oAt_at c1 q.toNat (by omega) z _ hz (Nat.mod_lt _ (by omega)), hst z r hr, hG (z + 1) (by omega)]
    have hG2 := hG q.toNat (Nat.le_refl _)
    have hpq : p * q = ((q.toNat * p.toNat : Nat) : Int) := by
      have e1 : (p.toNat : Int) = p := by omega
      have e2 : (q.toNat : Int) = q := by omega
      rw [Int.natCast_mul, e1, e2, Int.mul_comm]
    have hb := Nat.mul_le_mul (show q.toNat ≤ 8 by omega) (show p.toNat ≤ 8 by omega)
    have hw : IntKind.i64.wrap (p * q) = ((q.toNat * p.toNat : Nat) : Int) := by rw [hpq, IntWalk.i64_in _ (by omega)]
    simp only [runT, runR, runG, runC, runO, hR, hR2, if_true, hdiv, hdiv2, hO1, hO2, hw, hG2]
    generalize oAt T R G p S2 q.toNat = Y at *
    generalize oAt T R G p S1 q.toNat = X at *
    simp only [bne_self_eq_false, beq_self_eq_true, Bool.and_self, Bool.not_true, Bool.or_self]
    refine ⟨kA, kT, fun h => absurd h (by decide), fun _ => ?_⟩
    have hB1 : 0 < p.toNat := by omega
    have hPp : ((p.toNat : Nat) : Int) = p := by omega
    refine ELoop_keep (fun i => ⟨[(124, vI .i64 (i : Nat))], [], []⟩) (fun i => i ≤ q.toNat * p.toNat) (fun i => q.toNat * p.toNat - i) (· + 1) 0 (Nat.zero_le _) ?_ ?_
    · simp only [↓gPre, gPost, handV, V.bufs, buildArr, toCs, List.set_cons_succ, List.set_cons_zero, List.foldr_cons, List.foldr_nil, List.append_eq, Nat.reduceShiftRight, Nat.reduceMod, List.mem_cons, addB, addK, zeroOp, callSem, resName, keepsB, newB, V.pure, C.pure, V.ptrs, C.ptrs, C.bufs, appendSem, dstOk, lk, V.cells, Op.eff, partV, partD, cut, lay, zeroD, C.toDs, C.toD, V.toD, toDs, buildCells, List.flatMap_nil, List.flatMap_cons, List.all_nil, List.all_cons, List.map_nil, List.map_cons, List.zip_cons_cons, List.zip_nil_left, List.nil_append, List.append_nil, List.cons_append, List.drop_zero, List.drop_succ_cons, List.take_succ_cons, List.take_zero, List.length_cons, List.length_nil, List.getElem?_cons_succ, List.getElem?_cons_zero, Option.getD_some, Option.getD_none, Option.map_some, Option.map_none, Option.some.injEq, Option.isSome_none, Option.isSome_some, Option.toList_some, Option.toList_none, if_true, if_false, ↓reduceIte, reduceCtorEq, Nat.reduceEqDiff, Nat.reduceLT, Nat.reduceLeDiff, List.not_mem_nil, false_implies, implies_true, true_and, and_true, forall_const, Nat.succ_ne_self, Bool.false_eq_true, Bool.true_and, Bool.and_true, eq_self, ne_eq, not_true_eq_false, not_false_eq_true, or_true, true_or, and_self, imp_self, bne_self_eq_false, beq_self_eq_true, Bool.or_false, Bool.false_or, Bool.and_false, Bool.false_and, false_or, or_false, Nat.reduceAdd, Nat.reduceMul, beq_true, beq_false, Name.mk.injEq, decide_true, decide_false, Bool.or_true, Bool.true_or, Bool.or_self, Bool.not_eq_true', Bool.not_true, Bool.not_false, Bool.true_eq_false, Bool.cond_true_left, Bool.cond_false_right, Nat.zero_add, Int.reduceLE, Int.reduceLT, Int.reduceNeg, Int.reduceAdd, Int.reduceToNat, List.range_succ, List.range_zero, Int.toNat_natCast, List.mem_nil_iff, List.mem_append, E_sane_eq, E_new_eq, E_next_eq, E_made_eq, E_limit_eq, E_mix_eq, LX_nil, LX_length, LX_getD, LX_append, LX_one, LX_cells, LX_inj, LX_nil_eq, LX_inps_LX, LX_take, LX_drop, inps_LX, Try.ntmps5, Try.results5, tt_1, tt_2, tt_3, tt_4, tt_5, tt_6, tt_7, tt_8, tt_12, tt_15, tt_16, tt_17, tt_18, tt_19, tt_21, tt_22, tt_23, tt_24, tt_25, tt_26, tt_27, tt_28, tt_29, tt_30, tt_31, tt_32, tt_33, tt_34, tt_35, tt_36, tt_37, tt_38, tt_39, tt_40, tt_41, tt_42, tt_43, tt_45, tt_46, tt_47, tt_49, tt_50, tt_52, tt_53, tt_55, tt_56, tt_57, tt_58, tt_59, tt_60, tt_61, tt_62, tt_64, tt_65, tt_66, tt_67, tt_68, tt_69, tt_70, tt_71, tt_72, tt_73, tt_74, tt_75, tt_76, tt_77, tt_78, tt_80, tt_81, tt_82, tt_83, tt_85, tt_86, tt_87, tt_88, tt_89, tt_90, tt_91, tt_92, tt_93, tt_94, tt_95, tt_96, tt_97, tt_98, tt_99, tt_100, tt_101, tt_102, tt_103, tt_106, tt_107, tt_108, tt_109, tt_110, tt_111, tt_112, tt_113, tt_114, tt_115, tt_116, tt_117, tt_118, tt_119]
      rfl
    intro i hi
    simp only [↓gPre, gPost, handV, V.bufs, buildArr, toCs, List.set_cons_succ, List.set_cons_zero, List.foldr_cons, List.foldr_nil, List.append_eq, Nat.reduceShiftRight, Nat.reduceMod, List.mem_cons, addB, addK, zeroOp, callSem, resName, keepsB, newB, V.pure, C.pure, V.ptrs, C.ptrs, C.bufs, appendSem, dstOk, lk, V.cells, Op.eff, partV, partD, cut, lay, zeroD, C.toDs, C.toD, V.toD, toDs, buildCells, List.flatMap_nil, List.flatMap_cons, List.all_nil, List.all_cons, List.map_nil, List.map_cons, List.zip_cons_cons, List.zip_nil_left, List.nil_append, List.append_nil, List.cons_append, List.drop_zero, List.drop_succ_cons, List.take_succ_cons, List.take_zero, List.length_cons, List.length_nil, List.getElem?_cons_succ, List.getElem?_cons_zero, Option.getD_some, Option.getD_none, Option.map_some, Option.map_none, Option.some.injEq, Option.isSome_none, Option.isSome_some, Option.toList_some, Option.toList_none, if_true, if_false, ↓reduceIte, reduceCtorEq, Nat.reduceEqDiff, Nat.reduceLT, Nat.reduceLeDiff, List.not_mem_nil, false_implies, implies_true, true_and, and_true, forall_const, Nat.succ_ne_self, Bool.false_eq_true, Bool.true_and, Bool.and_true, eq_self, ne_eq, not_true_eq_false, not_false_eq_true, or_true, true_or, and_self, imp_self, bne_self_eq_false, beq_self_eq_true, Bool.or_false, Bool.false_or, Bool.and_false, Bool.false_and, false_or, or_false, Nat.reduceAdd, Nat.reduceMul, beq_true, beq_false, Name.mk.injEq, decide_true, decide_false, Bool.or_true, Bool.true_or, Bool.or_self, Bool.not_eq_true', Bool.not_true, Bool.not_false, Bool.true_eq_false, Bool.cond_true_left, Bool.cond_false_right, Nat.zero_add, Int.reduceLE, Int.reduceLT, Int.reduceNeg, Int.reduceAdd, Int.reduceToNat, List.range_succ, List.range_zero, Int.toNat_natCast, List.mem_nil_iff, List.mem_append, E_sane_eq, E_new_eq, E_next_eq, E_made_eq, E_limit_eq, E_mix_eq, LX_nil, LX_length, LX_getD, LX_append, LX_one, LX_cells, LX_inj, LX_nil_eq, LX_inps_LX, LX_take, LX_drop, inps_LX, Try.ntmps5, Try.results5, tt_1, tt_2, tt_3, tt_4, tt_5, tt_6, tt_7, tt_8, tt_12, tt_15, tt_16, tt_17, tt_18, tt_19, tt_21, tt_22, tt_23, tt_24, tt_25, tt_26, tt_27, tt_28, tt_29, tt_30, tt_31, tt_32, tt_33, tt_34, tt_35, tt_36, tt_37, tt_38, tt_39, tt_40, tt_41, tt_42, tt_43, tt_45, tt_46, tt_47, tt_49, tt_50, tt_52, tt_53, tt_55, tt_56, tt_57, tt_58, tt_59, tt_60, tt_61, tt_62, tt_64, tt_65, tt_66, tt_67, tt_68, tt_69, tt_70, tt_71, tt_72, tt_73, tt_74, tt_75, tt_76, tt_77, tt_78, tt_80, tt_81, tt_82, tt_83, tt_85, tt_86, tt_87, tt_88, tt_89, tt_90, tt_91, tt_92, tt_93, tt_94, tt_95, tt_96, tt_97, tt_98, tt_99, tt_100, tt_101, tt_102, tt_103, tt_106, tt_107, tt_108, tt_109, tt_110, tt_111, tt_112, tt_113, tt_114, tt_115, tt_116, tt_117, tt_118, tt_119]
    refine fun h1 => ⟨by have := of_decide_eq_true h1; omega, by kernel_rfl, ?_⟩
    have hiq : i < q.toNat * p.toNat := by have := of_decide_eq_true h1; omega
    have td : (i : Int).tdiv p = ((i / p.toNat : Nat) : Int) := tdivN i (by omega)
    have tmi : (i : Int).tmod p = ((i % p.toNat : Nat) : Int) := tmodN i (by omega)
    have hml := Nat.mod_lt i hB1
    have hdm : i = i / p.toNat * p.toNat + i % p.toNat := by rw [Nat.mul_comm]; exact (Nat.div_add_mod i p.toNat).symm
    have hzq : i / p.toNat < q.toNat := Nat.div_lt_of_lt_mul (by rw [Nat.mul_comm]; exact hiq)
    have hxy := hXY (i / p.toNat) (i % p.toNat) hzq hml
    rw [← hdm] at hxy
    have hm2 := Nat.mod_lt (i % p.toNat + k) hB1
    have hcl := cell_lt hm2 hzq
    rw [Nat.mul_comm p.toNat] at hcl
    have e0 : ∀ z : Nat, z ≤ 64 → IntKind.i64.wrap (z : Int) = (z : Int) := fun z hz => IntWalk.i64_in _ (by omega)
    have hz64 : i / p.toNat * p.toNat ≤ 64 := by omega
    have hz8 : i / p.toNat ≤ 64 := by omega
    rw [td, tmi, e0 _ hz8]
    have e1 : ((i / p.toNat : Nat) : Int) * p = ((i / p.toNat * p.toNat : Nat) : Int) := by rw [Int.natCast_mul, hPp]
    have e2 : ((i % p.toNat : Nat) : Int) + (k : Int) = ((i % p.toNat + k : Nat) : Int) := by omega
    rw [e1, e0 _ hz64, e2, e0 _ (by omega)]
    have tm3 : ((i % p.toNat + k : Nat) : Int).tmod p = (((i % p.toNat + k) % p.toNat : Nat) : Int) := tmodN _ (by omega)
    rw [tm3]
    generalize (i % p.toNat + k) % p.toNat = u at *
    generalize i / p.toNat * p.toNat = v at *
    have e3 : (v : Int) + (u : Int) = ((v + u : Nat) : Int) := by omega
    rw [e3, e0 _ (by omega), Int.toNat_natCast, hxy, bne_self_eq_false]
    exact ⟨by omega, by omega, by omega, by omega, fun h => absurd h (by decide), fun _ => ⟨(wrapN _ (by omega)).symm, by omega, by omega⟩⟩

end Go.Vam
