/- Run. Conditions: none. -/
import Derived.Test.YtjciocipdoophaaGreatCvM
set_option linter.unusedVariables false
set_option linter.defProp false
set_option linter.unusedSimpArgs false
set_option maxRecDepth 40000
set_option maxHeartbeats 4000000
namespace Go.Vam
open Go.Proofs

def colVal (to : List Int) (p : Int) (j : Nat) : Int := if p ∈ to then (if (j : Int) = idxL to p then 32768 else 0) else match (heirsL p).find? (qual to) with
  | some l => if l.any (fun q => decide (idxL to q = j)) = true then 23170 else 0
  | none => 0
theorem set_at (M : List Int) (i : Nat) (v : Int) (k : Nat) : atL (M.set i v) k = if k = i ∧ i < M.length then v else atL M k := by
  unfold atL
  rw [List.getElem?_set]
  by_cases h : i = k
  · subst h
    by_cases h2 : i < M.length
    · simp [h2]
    · simp [h2, List.getElem?_eq_none (Nat.le_of_not_lt h2)]
  · rw [if_neg h, if_neg (fun k' => h k'.1.symm)]
theorem cell_eq {A i j c c' : Nat} (hc : c < A) (hc' : c' < A) (h : i * A + c = j * A + c') : i = j ∧ c = c' := by
  have hA : 0 < A := by omega
  have e1 : (i * A + c) / A = i := by rw [Nat.add_comm, Nat.add_mul_div_right _ _ hA, Nat.div_eq_of_lt hc, Nat.zero_add]
  have e2 : (j * A + c') / A = j := by rw [Nat.add_comm, Nat.add_mul_div_right _ _ hA, Nat.div_eq_of_lt hc', Nat.zero_add]
  have : i = j := by rw [← e1, h, e2]
  subst this
  exact ⟨rfl, by omega⟩
theorem setC_at {A : Nat} {to : List Int} {c c' j : Nat} {v : Int} {M : List Int} {q : Int} (hq : q ∈ to) (hM : M.length = A * to.length) (hc : c < A) (hc' : c' < A) : atL (setC A to c v M q) (j * A + c') = if c' = c ∧ idxL to q = j then v else atL M (j * A + c') := by
  have hi := idx_in hq
  have hb := cell_lt (A := A) hc hi.2.1
  unfold setC
  rw [set_at]
  by_cases h : c' = c ∧ idxL to q = j
  · rw [if_pos h, if_pos ⟨by rw [h.1, h.2, Int.toNat_natCast], by omega⟩]
  · rw [if_neg h, if_neg]
    rintro ⟨h1, _⟩
    have := cell_eq hc' hc h1
    exact h ⟨this.2, by omega⟩
theorem fold_at {A : Nat} {to : List Int} {c c' j : Nat} {v : Int} (hc : c < A) (hc' : c' < A) : ∀ (l : List Int) (M : List Int), (∀ q ∈ l, q ∈ to) → M.length = A * to.length →
    atL (l.foldl (setC A to c v) M) (j * A + c') = if c' = c ∧ l.any (fun q => decide (idxL to q = j)) = true then v else atL M (j * A + c')
  | [], M, _, _ => by simp
  | q :: l, M, hq, hM => by
    rw [List.foldl_cons, fold_at hc hc' l _ (fun x hx => hq x (List.mem_cons_of_mem _ hx)) (by simp [setC, hM]), setC_at (hq q List.mem_cons_self) hM hc hc', List.any_cons]
    by_cases h1 : c' = c
    · by_cases h2 : idxL to q = j
      · simp [h1, h2]
      · simp [h1, h2]
    · simp [h1]
theorem colM_at {A : Nat} {to : List Int} {c c' j : Nat} {p : Int} {M : List Int} (hM : M.length = A * to.length) (hc : c < A) (hc' : c' < A) (h0 : atL M (j * A + c) = 0) : atL (colM A to c p M) (j * A + c') = if c' = c then colVal to p j else atL M (j * A + c') := by
  unfold colM colVal
  by_cases hp : p ∈ to
  · rw [if_pos hp, if_pos hp, setC_at hp hM hc hc']
    by_cases h1 : c' = c
    · subst h1
      by_cases h2 : idxL to p = j
      · simp [h2]
      · rw [if_neg (fun h => h2 h.2), if_pos rfl, if_neg (fun h => h2 h.symm), h0]
    · simp [h1]
  · rw [if_neg hp, if_neg hp]
    cases hf : (heirsL p).find? (qual to) with
    | none =>
      show atL M _ = if c' = c then 0 else _
      by_cases h1 : c' = c
      · subst h1; simp [h0]
      · simp [h1]
    | some l =>
      have hq : qual to l = true := List.find?_some hf
      show atL (l.foldl (setC A to c 23170) M) _ = if c' = c then _ else _
      rw [fold_at hc hc' l M (fun q hq' => of_decide_eq_true (List.all_eq_true.1 hq q hq')) hM]
      by_cases h1 : c' = c
      · subst h1; simp [h0]
      · simp [h1]
theorem dfM_at {A : Nat} {fr to : List Int} : ∀ n, n ≤ A → ∀ c j, c < A → j < to.length → atL (dfM A fr to n) (j * A + c) = if c < n then colVal to (fr[c]?.getD 0) j else 0
  | 0, _, c, j, hc, hj => by
    have : j * A + c < A * to.length := cell_lt hc hj
    show atL (List.replicate (A * to.length) 0) _ = _
    unfold atL
    rw [List.getElem?_replicate, if_pos this]; rfl
  | n + 1, hn, c, j, hc, hj => by
    have ih := dfM_at (A := A) (fr := fr) (to := to) n (by omega)
    show atL (colM A to n (fr[n]?.getD 0) (dfM A fr to n)) _ = _
    rw [colM_at (c := n) (c' := c) (j := j) (dfM_len A fr to n) (by omega) hc (by rw [ih n j (by omega) hj, if_neg (Nat.lt_irrefl n)] : atL (dfM A fr to n) (j * A + n) = 0)]
    by_cases h : c = n
    · subst h; simp
    · rw [if_neg h, ih c j hc hj]
      by_cases h2 : c < n
      · rw [if_pos h2, if_pos (by omega)]
      · rw [if_neg h2, if_neg (by omega)]
theorem col_three (to : List Int) (p : Int) (j : Nat) : colVal to p j = 32768 ∨ colVal to p j = 23170 ∨ colVal to p j = 0 := by
  unfold colVal
  split
  · split
    · exact .inl rfl
    · exact .inr (.inr rfl)
  · split
    · split
      · exact .inr (.inl rfl)
      · exact .inr (.inr rfl)
    · exact .inr (.inr rfl)

theorem dfO_mx {p q : List Int} (hp : chV p = true) (hq : chV q = true) : mxV p.length q.length (dfO p q) = true := by
  have h1 := chV_in hp
  have h2 := chV_in hq
  have e : dfE p q = 0 := by unfold dfE; rw [hp, hq]; rfl
  have e2 : dfO p q = dfM p.length p q p.length := by unfold dfO; rw [if_pos e]
  rw [e2]
  refine mxV_of (by omega) (by omega) (by rw [dfM_len, ← Int.natCast_mul, Int.toNat_natCast]) ?_
  rw [List.all_eq_true]
  intro v hv
  obtain ⟨j, hj, rfl⟩ := List.getElem_of_mem hv
  have hj2 := hj
  rw [dfM_len] at hj
  have hm := Nat.mod_lt j (show p.length > 0 by omega)
  have hat := dfM_at (A := p.length) (fr := p) (to := q) p.length (Nat.le_refl _) (j % p.length) (j / p.length) hm (Nat.div_lt_of_lt_mul hj)
  rw [if_pos hm, Nat.mul_comm, Nat.div_add_mod] at hat
  unfold atL at hat
  rw [List.getElem?_eq_getElem hj2] at hat
  simp only [Option.getD_some] at hat
  rw [hat]
  rcases col_three q (p[j % p.length]?.getD 0) (j / p.length) with h | h | h <;> rw [h] <;> decide
theorem cv_is {x : Cv} (hv : cvV x = true) : fmV x.f = true ∧ fmV x.t = true ∧ x.mi = x.f.m.length ∧ x.mo = x.t.m.length ∧ x.mc = dfO x.f.m x.t.m ∧ rsV x.r = true ∧ mxV x.f.m.length x.t.m.length (dfO x.f.m x.t.m) = true ∧ x.mc.length ≤ 64 := by
  obtain ⟨h1, h2, h3, h4, h5, h6, h7, h8, _⟩ := cv_in hv
  have f1 := fm_in h1
  have f2 := fm_in h2
  have e : dfE x.f.m x.t.m = 0 := by unfold dfE; rw [f1.2.2.1, f2.2.2.1]; rfl
  have hd : ∀ l, dfN x.f.m x.t.m l = (l.length : Int) := fun l => by unfold dfN; rw [if_pos e]
  have hr : cnR x.f x.t = ⟨x.f, x.t, dfN x.f.m x.t.m x.f.m, dfN x.f.m x.t.m x.t.m, dfO x.f.m x.t.m, nwR x.t.m.length (mqN x.f.r x.t.r) (mqD x.f.r x.t.r)⟩ := by unfold cnR; rw [if_pos h3]
  have hm := dfO_mx f1.2.2.1 f2.2.2.1
  rw [hr] at h4 h5 h6 h8
  simp only [hd] at h4 h5 h6
  refine ⟨h1, h2, h4, h5, h6, h7, hm, ?_⟩
  rw [h6, (mxV_in hm).2.2.1]
  exact Nat.mul_le_mul (show _ ≤ 8 by omega) (show _ ≤ 8 by omega)
theorem run_facts {x : Cv} {b : List UInt8} (hv : cvV x = true) (hl : x.r.l.length ≤ 1000000) (hb : b.length ≤ 1000000) (h2 : b.length % fz x.f = 0) (h3 : b.length / fz x.f ≤ 65536) :
    decE x.f.k b.length = 0 ∧ apE x.mi x.mo x.mc x.f.m.length (decO x.f.k b) = 0 ∧ (decO x.f.k b).length ≤ 524288 ∧ (cvA x b).length ≤ 1000000 ∧ (cvE x.r x.mo (cvA x b) = 0 → encE x.t.k (cvO x.r x.mo (cvA x b)) = 0 ∧ (cvO x.r x.mo (cvA x b)).length ≤ 524288) := by
  obtain ⟨h1, h4, e1, e2, e3, h5, hm, _⟩ := cv_is hv
  have f1 := fm_in h1
  have f2 := fm_in h4
  have hz := fz_eq h1
  have hs : 0 < (szK x.f.k).toNat := by omega
  generalize hq : b.length / fz x.f = q at *
  have hbq : b.length = q * x.f.m.length * (szK x.f.k).toNat := by
    have := Nat.div_add_mod b.length (fz x.f)
    rw [hq, h2, Nat.add_zero] at this
    rw [← this]
    unfold fz
    rw [Nat.mul_comm, Nat.mul_assoc, Nat.mul_comm x.f.m.length]
  have hqc : q * x.f.m.length ≤ 65536 * 8 := Nat.mul_le_mul h3 (by omega)
  have hdE : decE x.f.k b.length = 0 := by
    unfold decE
    rw [if_neg (by omega), hbq, Nat.mul_div_cancel _ hs, if_neg (by omega), Nat.mul_mod_left, if_neg (by simp)]
  have hdO : decO x.f.k b = decL x.f.k b (q * x.f.m.length) := by
    unfold decO
    rw [if_pos hdE, hbq, Nat.mul_div_cancel _ hs]
  have hdl : (decL x.f.k b (q * x.f.m.length)).length = q * x.f.m.length := decL_len ..
  have hbk : blkV (x.f.m.length : Int) (decL x.f.k b (q * x.f.m.length)) = true := blkV_mk (z := q) (by omega) (by rw [hdl, Int.toNat_natCast]) h3 (decL_all ..)
  have haE : apE x.mi x.mo x.mc x.f.m.length (decO x.f.k b) = 0 := by
    rw [e1, e2, e3, hdO]
    exact apE_ok hm hbk rfl
  have hal : (cvA x b).length ≤ 524288 := by
    unfold cvA apO
    rw [if_pos haE, apL_len, hdO, hdl, e1, e2, Int.toNat_natCast, Int.toNat_natCast, Nat.mul_div_cancel _ (by omega)]
    exact Nat.mul_le_mul (show q ≤ 65536 from h3) (show x.t.m.length ≤ 8 by omega)
  refine ⟨hdE, haE, by rw [hdO, hdl]; omega, by omega, fun h6 => ?_⟩
  obtain ⟨g1, g2⟩ := cvE_tk h6
  obtain ⟨u1, u2, u3⟩ := feR_ok g1 hl (by omega)
  obtain ⟨_, t2, _⟩ := tkE_po g2
  obtain ⟨p1, p2, p3, p4, p5⟩ := po_ok u2 (by omega) t2
  have e : cvO x.r x.mo (cvA x b) = outO (feR x.r x.mo (cvA x b)) (cvN x.r x.mo (cvA x b)).toNat := if_pos h6
  obtain ⟨⟨k1, k2⟩, k3, k4, k5⟩ := blk_in (rsV_in u2).2 (by omega)
  have hlen : (cvO x.r x.mo (cvA x b)).length ≤ 524288 := by
    have := Nat.mul_le_mul (show (cvN x.r x.mo (cvA x b)).toNat ≤ 65536 by omega) (show (feR x.r x.mo (cvA x b)).c.toNat ≤ 8 by omega)
    rw [e, outO_len]
    omega
  refine ⟨enc_ok f2.1.1 hlen ?_, hlen⟩
  rw [e]
  exact outO_all (rsV_in u2).1 k5 _ (by omega)
/-- The cells of a run behind so many steps. -/
def stR0 (x : Cv) (b : List UInt8) (g : Nat) : Rs := if g < 3 then x.r else cvR x.r x.mo (cvA x b)
def stY (x : Cv) (b : List UInt8) (g : Nat) : List UInt8 := if g < 4 then b else encO x.t.k (cvO x.r x.mo (cvA x b))
def stC (x : Cv) (b : List UInt8) (g : Nat) : Int := if g = 0 then 0 else if g = 1 then x.f.m.length else if g = 2 then apC x.mi x.mo x.mc x.f.m.length (decO x.f.k b) else cvC x.r x.mo (cvA x b)
def stD (x : Cv) (b : List UInt8) (g : Nat) : List Int := if g = 0 then [] else if g = 1 then decO x.f.k b else if g = 2 then cvA x b else cvO x.r x.mo (cvA x b)


theorem spec_crun (fk fr : Int) (fm : List Int) (tk tr : Int) (tm : List Int) (mi mo : Int) (mc : List Int) (c n d a p f : Int) (l : List Int) (y : List UInt8) (hfm : fm.length ≤ 1000000) (htm : tm.length ≤ 1000000) (hmc : mc.length ≤ 1000000) (hl : l.length ≤ 1000000) (hy : y.length ≤ 1000000) : Spec Tryz.prog 0 10 [.agg (cvtC ⟨⟨fk, fr, fm⟩, ⟨tk, tr, tm⟩, mi, mo, mc, ⟨c, ⟨n, d, a, p, f⟩, l⟩⟩), vL (LB y)] [] [] (.tup [.list (LB (ruO ⟨⟨fk, fr, fm⟩, ⟨tk, tr, tm⟩, mi, mo, mc, ⟨c, ⟨n, d, a, p, f⟩, l⟩⟩ y)), .agg (cvtD (ruR ⟨⟨fk, fr, fm⟩, ⟨tk, tr, tm⟩, mi, mo, mc, ⟨c, ⟨n, d, a, p, f⟩, l⟩⟩ y)), .int .i64 (ruE ⟨⟨fk, fr, fm⟩, ⟨tk, tr, tm⟩, mi, mo, mc, ⟨c, ⟨n, d, a, p, f⟩, l⟩⟩ y)]) [] [] := by
  refine spec_of_E (X := ⟨Tryz.prog, tt, Tryz.f10.ntmps, 1, fun s => if s = 57 then 5 else 0, (tab [(15, E_cvvalid), (16, E_fsize), (20, E_cown), (29, E_clone64), (30, E_gdecode), (31, E_gspread), (32, E_gstretch), (33, E_gencode)])⟩) (M := []) (m := 75948704116521324023) rfl rfl ⟨tt_ok, tab_ok (tabs_cons E_cvvalid_ok (tabs_cons E_fsize_ok (tabs_cons E_cown_ok (tabs_cons E_clone64_ok (tabs_cons E_gdecode_ok (tabs_cons E_gspread_ok (tabs_cons E_gstretch_ok (tabs_cons E_gencode_ok tabs_nil)))))))) _ rfl rfl⟩ tt_mixed Tryz.func10 rfl (by decide) (by show (2 : Nat) ≤ _; exact Nat.le_of_ble_eq_true rfl) ⟨fun m hm => (V.bare_has rfl m hm).elim, by simp, by simp⟩ ?_
  simp only [↓gPre, gPost, gCore, gDef, Nat.reduceShiftRight, Nat.reduceMod, if_true, if_false, ↓reduceIte, reduceCtorEq, Nat.reduceEqDiff, Nat.reduceLT, Nat.reduceLeDiff, implies_true, forall_const, eq_self, ne_eq, not_true_eq_false, not_false_eq_true, imp_self, Nat.reduceAdd, Nat.reduceMul, Int.reduceLE, Int.reduceLT, Int.reduceNeg, Int.reduceAdd, Int.reduceToNat, E_cvvalid_eq, E_fsize_eq, E_cown_eq, E_clone64_eq, E_gdecode_eq, E_gspread_eq, E_gstretch_eq, E_gencode_eq, ph_eta, rs_eta, fm_eta, cv_eta, cvtD_eq, cvtC_eq, Nat.reduceSub, Tryz.ntmps10, Tryz.results10, gTT]
  refine ⟨⟨hfm, htm, hmc, hl⟩, fun h => ?_, fun h => ?_⟩
  · have e : ruE ⟨⟨fk, fr, fm⟩, ⟨tk, tr, tm⟩, mi, mo, mc, ⟨c, ⟨n, d, a, p, f⟩, l⟩⟩ y = 1 := by unfold ruE; rw [if_pos h]
    simp [ruO, ruR, e, cv0, rs0, LI_nil, LB_nil]
  have hv : cvV ⟨⟨fk, fr, fm⟩, ⟨tk, tr, tm⟩, mi, mo, mc, ⟨c, ⟨n, d, a, p, f⟩, l⟩⟩ = true := by simpa using h
  obtain ⟨c1, c2, c3, c4, c5, c6, c7, c8⟩ := cv_is hv
  simp only at c1 c2 c3 c4 c5 c6 c7 c8
  obtain ⟨z1, z2, z3⟩ := fz_eq c1
  rw [z1, tdivN _ (by omega), tmodN _ (by omega), Int.toNat_natCast]
  have hqb : y.length / fz ⟨fk, fr, fm⟩ ≤ y.length := Nat.div_le_self ..
  have hqw : IntKind.i64.wrap ((y.length / fz ⟨fk, fr, fm⟩ : Nat) : Int) = ((y.length / fz ⟨fk, fr, fm⟩ : Nat) : Int) := by
    generalize y.length / fz ⟨fk, fr, fm⟩ = q at *
    exact IntWalk.i64_in _ (by omega)
  rw [hqw]
  have zm : (y.length : Int).tmod (fmZ ⟨fk, fr, fm⟩) = ((y.length % fz ⟨fk, fr, fm⟩ : Nat) : Int) := by rw [z1, tmodN _ (by omega), Int.toNat_natCast]
  have zd : (y.length : Int).tdiv (fmZ ⟨fk, fr, fm⟩) = ((y.length / fz ⟨fk, fr, fm⟩ : Nat) : Int) := by rw [z1, tdivN _ (by omega), Int.toNat_natCast]
  refine ⟨hfm, by omega, fun h2 => ?_, fun h2 => ⟨by omega, fun h3 => ?_, fun h3 => ⟨by kernel_rfl, hfm, htm, by omega, ?_⟩⟩⟩
  · have e : ruE ⟨⟨fk, fr, fm⟩, ⟨tk, tr, tm⟩, mi, mo, mc, ⟨c, ⟨n, d, a, p, f⟩, l⟩⟩ y = 4 := by
      unfold ruE
      rw [if_neg (by rw [hv]; decide), if_pos]
      show (y.length : Int).tmod (fmZ ⟨fk, fr, fm⟩) ≠ 0
      rw [zm]
      simpa using h2
    simp [ruO, ruR, e, cv0, rs0, LI_nil, LB_nil]
  all_goals
    have k2 : y.length % fz ⟨fk, fr, fm⟩ = 0 := by
      have h9 : ((y.length % fz ⟨fk, fr, fm⟩ : Nat) : Int) = 0 := by simpa using h2
      exact Int.ofNat_eq_zero.1 h9
  · have e : ruE ⟨⟨fk, fr, fm⟩, ⟨tk, tr, tm⟩, mi, mo, mc, ⟨c, ⟨n, d, a, p, f⟩, l⟩⟩ y = 3 := by
      unfold ruE
      rw [if_neg (by rw [hv]; decide), if_neg, if_pos]
      · show 65536 < (y.length : Int).tdiv (fmZ ⟨fk, fr, fm⟩)
        rw [zd]
        exact of_decide_eq_true h3
      · show ¬ (y.length : Int).tmod (fmZ ⟨fk, fr, fm⟩) ≠ 0
        rw [zm, k2]
        decide
    simp [ruO, ruR, e, cv0, rs0, LI_nil, LB_nil]
  have k3 : y.length / fz ⟨fk, fr, fm⟩ ≤ 65536 := by have := of_decide_eq_false h3; omega
  obtain ⟨r1, r2, r3, r4, r5⟩ := run_facts (x := ⟨⟨fk, fr, fm⟩, ⟨tk, tr, tm⟩, mi, mo, mc, ⟨c, ⟨n, d, a, p, f⟩, l⟩⟩) (b := y) hv hl hy k2 k3
  have e : ruE ⟨⟨fk, fr, fm⟩, ⟨tk, tr, tm⟩, mi, mo, mc, ⟨c, ⟨n, d, a, p, f⟩, l⟩⟩ y = cvE ⟨c, ⟨n, d, a, p, f⟩, l⟩ mo (cvA ⟨⟨fk, fr, fm⟩, ⟨tk, tr, tm⟩, mi, mo, mc, ⟨c, ⟨n, d, a, p, f⟩, l⟩⟩ y) := by
    unfold ruE
    rw [if_neg (by rw [hv]; decide), if_neg, if_neg]
    · show ¬ 65536 < (y.length : Int).tdiv (fmZ ⟨fk, fr, fm⟩)
      rw [zd]; omega
    · show ¬ (y.length : Int).tmod (fmZ ⟨fk, fr, fm⟩) ≠ 0
      rw [zm, k2]; decide
  simp only at r1 r2 r3 r4 r5
  have r6 : apC mi mo mc (fm.length : Int) (decO fk y) = mo := by unfold apC; rw [if_pos r2]
  refine ELoop_keep (fun g => ⟨[(59, vI .i64 (g : Nat))], [(⟨1, 48⟩, [.d (.int .i64 fk), .d (.int .i64 fr), .d (.list (LI .i64 fm)), .d (.int .i64 tk), .d (.int .i64 tr), .d (.list (LI .i64 tm)), .d (.int .i64 mi), .d (.int .i64 mo), .d (.list (LI .i64 mc)), .d (.int .i64 (stR0 ⟨⟨fk, fr, fm⟩, ⟨tk, tr, tm⟩, mi, mo, mc, ⟨c, ⟨n, d, a, p, f⟩, l⟩⟩ y g).c), .d (.int .i64 (stR0 ⟨⟨fk, fr, fm⟩, ⟨tk, tr, tm⟩, mi, mo, mc, ⟨c, ⟨n, d, a, p, f⟩, l⟩⟩ y g).p.n), .d (.int .i64 (stR0 ⟨⟨fk, fr, fm⟩, ⟨tk, tr, tm⟩, mi, mo, mc, ⟨c, ⟨n, d, a, p, f⟩, l⟩⟩ y g).p.d), .d (.int .i64 (stR0 ⟨⟨fk, fr, fm⟩, ⟨tk, tr, tm⟩, mi, mo, mc, ⟨c, ⟨n, d, a, p, f⟩, l⟩⟩ y g).p.a), .d (.int .i64 (stR0 ⟨⟨fk, fr, fm⟩, ⟨tk, tr, tm⟩, mi, mo, mc, ⟨c, ⟨n, d, a, p, f⟩, l⟩⟩ y g).p.p), .d (.int .i64 (stR0 ⟨⟨fk, fr, fm⟩, ⟨tk, tr, tm⟩, mi, mo, mc, ⟨c, ⟨n, d, a, p, f⟩, l⟩⟩ y g).p.f), .d (.list (LI .i32 (stR0 ⟨⟨fk, fr, fm⟩, ⟨tk, tr, tm⟩, mi, mo, mc, ⟨c, ⟨n, d, a, p, f⟩, l⟩⟩ y g).l)), .d (.list (LB (stY ⟨⟨fk, fr, fm⟩, ⟨tk, tr, tm⟩, mi, mo, mc, ⟨c, ⟨n, d, a, p, f⟩, l⟩⟩ y g))), .d (.int .i64 (stC ⟨⟨fk, fr, fm⟩, ⟨tk, tr, tm⟩, mi, mo, mc, ⟨c, ⟨n, d, a, p, f⟩, l⟩⟩ y g)), .d (.list (LI .i32 (stD ⟨⟨fk, fr, fm⟩, ⟨tk, tr, tm⟩, mi, mo, mc, ⟨c, ⟨n, d, a, p, f⟩, l⟩⟩ y g)))])], []⟩) (fun g => g ≤ 4 ∧ (3 ≤ g → ruE ⟨⟨fk, fr, fm⟩, ⟨tk, tr, tm⟩, mi, mo, mc, ⟨c, ⟨n, d, a, p, f⟩, l⟩⟩ y = 0)) (fun g => 4 - g) (· + 1) 0 ⟨by omega, fun h => absurd h (by decide)⟩ ?_ ?_
  · simp only [↓gPre, gPost, gCore, gDef, Nat.reduceShiftRight, Nat.reduceMod, if_true, if_false, ↓reduceIte, reduceCtorEq, Nat.reduceEqDiff, Nat.reduceLT, Nat.reduceLeDiff, implies_true, forall_const, eq_self, ne_eq, not_true_eq_false, not_false_eq_true, imp_self, Nat.reduceAdd, Nat.reduceMul, Int.reduceLE, Int.reduceLT, Int.reduceNeg, Int.reduceAdd, Int.reduceToNat, E_cvvalid_eq, E_fsize_eq, E_cown_eq, E_clone64_eq, E_gdecode_eq, E_gspread_eq, E_gstretch_eq, E_gencode_eq, ph_eta, rs_eta, fm_eta, cv_eta, cvtD_eq, cvtC_eq, Nat.reduceSub, Tryz.ntmps10, Tryz.results10, gTT]
    simp [stR0, stY, stC, stD, LI_nil]
  rintro g ⟨hg, he⟩
  obtain ⟨a0, a1, a2, a3, a4⟩ : stR0 ⟨⟨fk, fr, fm⟩, ⟨tk, tr, tm⟩, mi, mo, mc, ⟨c, ⟨n, d, a, p, f⟩, l⟩⟩ y 0 = ⟨c, ⟨n, d, a, p, f⟩, l⟩ ∧ stR0 ⟨⟨fk, fr, fm⟩, ⟨tk, tr, tm⟩, mi, mo, mc, ⟨c, ⟨n, d, a, p, f⟩, l⟩⟩ y 1 = ⟨c, ⟨n, d, a, p, f⟩, l⟩ ∧ stR0 ⟨⟨fk, fr, fm⟩, ⟨tk, tr, tm⟩, mi, mo, mc, ⟨c, ⟨n, d, a, p, f⟩, l⟩⟩ y 2 = ⟨c, ⟨n, d, a, p, f⟩, l⟩ ∧ stR0 ⟨⟨fk, fr, fm⟩, ⟨tk, tr, tm⟩, mi, mo, mc, ⟨c, ⟨n, d, a, p, f⟩, l⟩⟩ y 3 = cvR ⟨c, ⟨n, d, a, p, f⟩, l⟩ mo (cvA ⟨⟨fk, fr, fm⟩, ⟨tk, tr, tm⟩, mi, mo, mc, ⟨c, ⟨n, d, a, p, f⟩, l⟩⟩ y) ∧ stR0 ⟨⟨fk, fr, fm⟩, ⟨tk, tr, tm⟩, mi, mo, mc, ⟨c, ⟨n, d, a, p, f⟩, l⟩⟩ y 4 = cvR ⟨c, ⟨n, d, a, p, f⟩, l⟩ mo (cvA ⟨⟨fk, fr, fm⟩, ⟨tk, tr, tm⟩, mi, mo, mc, ⟨c, ⟨n, d, a, p, f⟩, l⟩⟩ y) := ⟨rfl, rfl, rfl, rfl, rfl⟩
  obtain ⟨b0, b1, b2, b3, b4⟩ : stY ⟨⟨fk, fr, fm⟩, ⟨tk, tr, tm⟩, mi, mo, mc, ⟨c, ⟨n, d, a, p, f⟩, l⟩⟩ y 0 = y ∧ stY ⟨⟨fk, fr, fm⟩, ⟨tk, tr, tm⟩, mi, mo, mc, ⟨c, ⟨n, d, a, p, f⟩, l⟩⟩ y 1 = y ∧ stY ⟨⟨fk, fr, fm⟩, ⟨tk, tr, tm⟩, mi, mo, mc, ⟨c, ⟨n, d, a, p, f⟩, l⟩⟩ y 2 = y ∧ stY ⟨⟨fk, fr, fm⟩, ⟨tk, tr, tm⟩, mi, mo, mc, ⟨c, ⟨n, d, a, p, f⟩, l⟩⟩ y 3 = y ∧ stY ⟨⟨fk, fr, fm⟩, ⟨tk, tr, tm⟩, mi, mo, mc, ⟨c, ⟨n, d, a, p, f⟩, l⟩⟩ y 4 = encO tk (cvO ⟨c, ⟨n, d, a, p, f⟩, l⟩ mo (cvA ⟨⟨fk, fr, fm⟩, ⟨tk, tr, tm⟩, mi, mo, mc, ⟨c, ⟨n, d, a, p, f⟩, l⟩⟩ y)) := ⟨rfl, rfl, rfl, rfl, rfl⟩
  obtain ⟨c0, c1, c2, c3, c4⟩ : stC ⟨⟨fk, fr, fm⟩, ⟨tk, tr, tm⟩, mi, mo, mc, ⟨c, ⟨n, d, a, p, f⟩, l⟩⟩ y 0 = 0 ∧ stC ⟨⟨fk, fr, fm⟩, ⟨tk, tr, tm⟩, mi, mo, mc, ⟨c, ⟨n, d, a, p, f⟩, l⟩⟩ y 1 = fm.length ∧ stC ⟨⟨fk, fr, fm⟩, ⟨tk, tr, tm⟩, mi, mo, mc, ⟨c, ⟨n, d, a, p, f⟩, l⟩⟩ y 2 = apC mi mo mc fm.length (decO fk y) ∧ stC ⟨⟨fk, fr, fm⟩, ⟨tk, tr, tm⟩, mi, mo, mc, ⟨c, ⟨n, d, a, p, f⟩, l⟩⟩ y 3 = cvC ⟨c, ⟨n, d, a, p, f⟩, l⟩ mo (cvA ⟨⟨fk, fr, fm⟩, ⟨tk, tr, tm⟩, mi, mo, mc, ⟨c, ⟨n, d, a, p, f⟩, l⟩⟩ y) ∧ stC ⟨⟨fk, fr, fm⟩, ⟨tk, tr, tm⟩, mi, mo, mc, ⟨c, ⟨n, d, a, p, f⟩, l⟩⟩ y 4 = cvC ⟨c, ⟨n, d, a, p, f⟩, l⟩ mo (cvA ⟨⟨fk, fr, fm⟩, ⟨tk, tr, tm⟩, mi, mo, mc, ⟨c, ⟨n, d, a, p, f⟩, l⟩⟩ y) := ⟨rfl, rfl, rfl, rfl, rfl⟩
  obtain ⟨d0, d1, d2, d3, d4⟩ : stD ⟨⟨fk, fr, fm⟩, ⟨tk, tr, tm⟩, mi, mo, mc, ⟨c, ⟨n, d, a, p, f⟩, l⟩⟩ y 0 = [] ∧ stD ⟨⟨fk, fr, fm⟩, ⟨tk, tr, tm⟩, mi, mo, mc, ⟨c, ⟨n, d, a, p, f⟩, l⟩⟩ y 1 = decO fk y ∧ stD ⟨⟨fk, fr, fm⟩, ⟨tk, tr, tm⟩, mi, mo, mc, ⟨c, ⟨n, d, a, p, f⟩, l⟩⟩ y 2 = apO mi mo mc fm.length (decO fk y) ∧ stD ⟨⟨fk, fr, fm⟩, ⟨tk, tr, tm⟩, mi, mo, mc, ⟨c, ⟨n, d, a, p, f⟩, l⟩⟩ y 3 = cvO ⟨c, ⟨n, d, a, p, f⟩, l⟩ mo (cvA ⟨⟨fk, fr, fm⟩, ⟨tk, tr, tm⟩, mi, mo, mc, ⟨c, ⟨n, d, a, p, f⟩, l⟩⟩ y) ∧ stD ⟨⟨fk, fr, fm⟩, ⟨tk, tr, tm⟩, mi, mo, mc, ⟨c, ⟨n, d, a, p, f⟩, l⟩⟩ y 4 = cvO ⟨c, ⟨n, d, a, p, f⟩, l⟩ mo (cvA ⟨⟨fk, fr, fm⟩, ⟨tk, tr, tm⟩, mi, mo, mc, ⟨c, ⟨n, d, a, p, f⟩, l⟩⟩ y) := ⟨rfl, rfl, rfl, rfl, rfl⟩
  obtain rfl | rfl | rfl | rfl | rfl : g = 0 ∨ g = 1 ∨ g = 2 ∨ g = 3 ∨ g = 4 := by omega
  · simp only [↓gPre, gPost, gCore, gDef, Nat.reduceShiftRight, Nat.reduceMod, if_true, if_false, ↓reduceIte, reduceCtorEq, Nat.reduceEqDiff, Nat.reduceLT, Nat.reduceLeDiff, implies_true, forall_const, eq_self, ne_eq, not_true_eq_false, not_false_eq_true, imp_self, Nat.reduceAdd, Nat.reduceMul, Int.reduceLE, Int.reduceLT, Int.reduceNeg, Int.reduceAdd, Int.reduceToNat, E_cvvalid_eq, E_fsize_eq, E_cown_eq, E_clone64_eq, E_gdecode_eq, E_gspread_eq, E_gstretch_eq, E_gencode_eq, ph_eta, rs_eta, fm_eta, cv_eta, cvtD_eq, cvtC_eq, Nat.reduceSub, Tryz.ntmps10, Tryz.results10, gTT]
    simp only [a0, a1, a2, a3, a4, b0, b1, b2, b3, b4, c0, c1, c2, c3, c4, d0, d1, d2, d3, d4, r1]
    exact ⟨fun _ => ⟨by omega, ⟨hfm, htm, hmc, hl, hy, Nat.zero_le _⟩, fun h6 => absurd h6 (by decide), fun _ => ⟨by decide, by simp⟩⟩, fun h5 => absurd h5 (by decide)⟩
  · simp only [↓gPre, gPost, gCore, gDef, Nat.reduceShiftRight, Nat.reduceMod, if_true, if_false, ↓reduceIte, reduceCtorEq, Nat.reduceEqDiff, Nat.reduceLT, Nat.reduceLeDiff, implies_true, forall_const, eq_self, ne_eq, not_true_eq_false, not_false_eq_true, imp_self, Nat.reduceAdd, Nat.reduceMul, Int.reduceLE, Int.reduceLT, Int.reduceNeg, Int.reduceAdd, Int.reduceToNat, E_cvvalid_eq, E_fsize_eq, E_cown_eq, E_clone64_eq, E_gdecode_eq, E_gspread_eq, E_gstretch_eq, E_gencode_eq, ph_eta, rs_eta, fm_eta, cv_eta, cvtD_eq, cvtC_eq, Nat.reduceSub, Tryz.ntmps10, Tryz.results10, gTT]
    simp only [a0, a1, a2, a3, a4, b0, b1, b2, b3, b4, c0, c1, c2, c3, c4, d0, d1, d2, d3, d4, r2]
    exact ⟨fun _ => ⟨by omega, ⟨hfm, htm, hmc, hl, hy, by omega⟩, fun h6 => absurd h6 (by decide), fun _ => ⟨by decide, by simp⟩⟩, fun h5 => absurd h5 (by decide)⟩
  · simp only [↓gPre, gPost, gCore, gDef, Nat.reduceShiftRight, Nat.reduceMod, if_true, if_false, ↓reduceIte, reduceCtorEq, Nat.reduceEqDiff, Nat.reduceLT, Nat.reduceLeDiff, implies_true, forall_const, eq_self, ne_eq, not_true_eq_false, not_false_eq_true, imp_self, Nat.reduceAdd, Nat.reduceMul, Int.reduceLE, Int.reduceLT, Int.reduceNeg, Int.reduceAdd, Int.reduceToNat, E_cvvalid_eq, E_fsize_eq, E_cown_eq, E_clone64_eq, E_gdecode_eq, E_gspread_eq, E_gstretch_eq, E_gencode_eq, ph_eta, rs_eta, fm_eta, cv_eta, cvtD_eq, cvtC_eq, Nat.reduceSub, Tryz.ntmps10, Tryz.results10, gTT]
    have rA : apO mi mo mc (fm.length : Int) (decO fk y) = cvA ⟨⟨fk, fr, fm⟩, ⟨tk, tr, tm⟩, mi, mo, mc, ⟨c, ⟨n, d, a, p, f⟩, l⟩⟩ y := rfl
    simp only [a0, a1, a2, a3, a4, b0, b1, b2, b3, b4, c0, c1, c2, c3, c4, d0, d1, d2, d3, d4, r6, rA]
    rw [← e]
    refine ⟨fun _ => ⟨by omega, ⟨hfm, htm, hmc, hl, hy, r4⟩, fun h6 => ?_, fun h6 => ?_⟩, fun h5 => absurd h5 (by decide)⟩
    · have hne : ruE ⟨⟨fk, fr, fm⟩, ⟨tk, tr, tm⟩, mi, mo, mc, ⟨c, ⟨n, d, a, p, f⟩, l⟩⟩ y ≠ 0 := by simpa using h6
      simp [ruO, ruR, hne, cv0, rs0, LI_nil, LB_nil]
    · have hz : ruE ⟨⟨fk, fr, fm⟩, ⟨tk, tr, tm⟩, mi, mo, mc, ⟨c, ⟨n, d, a, p, f⟩, l⟩⟩ y = 0 := by simpa using h6
      simp [hz]
      try decide
  · simp only [↓gPre, gPost, gCore, gDef, Nat.reduceShiftRight, Nat.reduceMod, if_true, if_false, ↓reduceIte, reduceCtorEq, Nat.reduceEqDiff, Nat.reduceLT, Nat.reduceLeDiff, implies_true, forall_const, eq_self, ne_eq, not_true_eq_false, not_false_eq_true, imp_self, Nat.reduceAdd, Nat.reduceMul, Int.reduceLE, Int.reduceLT, Int.reduceNeg, Int.reduceAdd, Int.reduceToNat, E_cvvalid_eq, E_fsize_eq, E_cown_eq, E_clone64_eq, E_gdecode_eq, E_gspread_eq, E_gstretch_eq, E_gencode_eq, ph_eta, rs_eta, fm_eta, cv_eta, cvtD_eq, cvtC_eq, Nat.reduceSub, Tryz.ntmps10, Tryz.results10, gTT]
    have hz : ruE ⟨⟨fk, fr, fm⟩, ⟨tk, tr, tm⟩, mi, mo, mc, ⟨c, ⟨n, d, a, p, f⟩, l⟩⟩ y = 0 := he (by decide)
    obtain ⟨r7, r8⟩ := r5 (by rw [← e]; exact hz)
    simp only [a0, a1, a2, a3, a4, b0, b1, b2, b3, b4, c0, c1, c2, c3, c4, d0, d1, d2, d3, d4, r7]
    have hcl : (cvR ⟨c, ⟨n, d, a, p, f⟩, l⟩ mo (cvA ⟨⟨fk, fr, fm⟩, ⟨tk, tr, tm⟩, mi, mo, mc, ⟨c, ⟨n, d, a, p, f⟩, l⟩⟩ y)).l.length ≤ 1000000 := by
      have := (cv_ok (ch := c) ⟨c6, rfl, rs_len c6 hl⟩ r4 (by rw [← e]; exact hz)).len
      omega
    exact ⟨fun _ => ⟨by omega, ⟨hfm, htm, hmc, hcl, hy, by omega⟩, fun h6 => absurd h6 (by decide), fun _ => ⟨by decide, hz⟩⟩, fun h5 => absurd h5 (by decide)⟩
  · simp only [↓gPre, gPost, gCore, gDef, Nat.reduceShiftRight, Nat.reduceMod, if_true, if_false, ↓reduceIte, reduceCtorEq, Nat.reduceEqDiff, Nat.reduceLT, Nat.reduceLeDiff, implies_true, forall_const, eq_self, ne_eq, not_true_eq_false, not_false_eq_true, imp_self, Nat.reduceAdd, Nat.reduceMul, Int.reduceLE, Int.reduceLT, Int.reduceNeg, Int.reduceAdd, Int.reduceToNat, E_cvvalid_eq, E_fsize_eq, E_cown_eq, E_clone64_eq, E_gdecode_eq, E_gspread_eq, E_gstretch_eq, E_gencode_eq, ph_eta, rs_eta, fm_eta, cv_eta, cvtD_eq, cvtC_eq, Nat.reduceSub, Tryz.ntmps10, Tryz.results10, gTT]
    have hz : ruE ⟨⟨fk, fr, fm⟩, ⟨tk, tr, tm⟩, mi, mo, mc, ⟨c, ⟨n, d, a, p, f⟩, l⟩⟩ y = 0 := he (by decide)
    simp only [a0, a1, a2, a3, a4, b0, b1, b2, b3, b4, c0, c1, c2, c3, c4, d0, d1, d2, d3, d4]
    refine ⟨fun h5 => absurd h5 (by decide), fun _ => ⟨by kernel_rfl, ?_⟩⟩
    simp [ruO, ruR, hz]
def E_crun : List V → Boxes → Toks → Name → Option Ent
  | [.agg [.d (.int .i64 fk), .d (.int .i64 fr), .d (.list q_fm), .d (.int .i64 tk), .d (.int .i64 tr), .d (.list q_tm), .d (.int .i64 mi), .d (.int .i64 mo), .d (.list q_mc), .d (.int .i64 c), .d (.int .i64 n), .d (.int .i64 d), .d (.int .i64 a), .d (.int .i64 p), .d (.int .i64 f), .d (.list q_l)], .c (.d (.list q_y))], [], [], _ => some ⟨(ints q_fm).length ≤ 1000000 ∧ (ints q_tm).length ≤ 1000000 ∧ (ints q_mc).length ≤ 1000000 ∧ (ints q_l).length ≤ 1000000 ∧ (bys q_y).length ≤ 1000000 ∧ q_fm = LI .i64 (ints q_fm) ∧ q_tm = LI .i64 (ints q_tm) ∧ q_mc = LI .i64 (ints q_mc) ∧ q_l = LI .i32 (ints q_l) ∧ q_y = LB (bys q_y), .tup [.list (LB (ruO ⟨⟨fk, fr, (ints q_fm)⟩, ⟨tk, tr, (ints q_tm)⟩, mi, mo, (ints q_mc), ⟨c, ⟨n, d, a, p, f⟩, (ints q_l)⟩⟩ (bys q_y))), .agg (cvtD (ruR ⟨⟨fk, fr, (ints q_fm)⟩, ⟨tk, tr, (ints q_tm)⟩, mi, mo, (ints q_mc), ⟨c, ⟨n, d, a, p, f⟩, (ints q_l)⟩⟩ (bys q_y))), .int .i64 (ruE ⟨⟨fk, fr, (ints q_fm)⟩, ⟨tk, tr, (ints q_tm)⟩, mi, mo, (ints q_mc), ⟨c, ⟨n, d, a, p, f⟩, (ints q_l)⟩⟩ (bys q_y))], [], []⟩
  | _, _, _, _ => none
def E_crun_eq := And.intro (@E_crun.eq_1) (@E_crun.eq_1)
theorem E_crun_ok : Snd Tryz.prog 10 E_crun := by
  intro vs b k n e h hn hp
  unfold E_crun at h
  split at h
  · cases h; obtain ⟨hp0, hp1, hp2, hp3, hp4, hq0, hq1, hq2, hq3, hq4⟩ := hp; obtain ⟨_, rfl⟩ := LI_ex hq0; obtain ⟨_, rfl⟩ := LI_ex hq1; obtain ⟨_, rfl⟩ := LI_ex hq2; obtain ⟨_, rfl⟩ := LI_ex hq3; obtain ⟨_, rfl⟩ := LB_ex hq4; simp only [ints_LI, bys_LB, blks_LK, lls_LL] at hp0 hp1 hp2 hp3 hp4 ⊢; exact (spec_crun _ _ _ _ _ _ _ _ _ _ _ _ _ _ _ _ _ hp0 hp1 hp2 hp3 hp4).lift rfl _
  · cases h

end Go.Vam
