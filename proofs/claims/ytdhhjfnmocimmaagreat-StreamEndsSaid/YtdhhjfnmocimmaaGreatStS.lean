/- What holds of streams; the sanity check. Conditions: none. -/
import Derived.Test.YtdhhjfnmocimmaaGreatStR
set_option linter.unusedVariables false
set_option linter.defProp false
set_option linter.unusedSimpArgs false
set_option maxRecDepth 40000
set_option maxHeartbeats 4000000
namespace Go.Vam
open Go.Proofs

theorem po_go {x : Rs} (hv : rsV x = true) {n : Int} (hn : 0 ≤ n ∧ n ≤ 65536) (hp : x.p.p ≤ 62000000000000) : poE x n = 0 := by
  have h1 := (rsV_in hv).1
  have h2 := qAt_in h1 hn
  have h3 := phC_of h1 hn
  unfold poE adE
  rw [if_pos h3, if_neg]
  unfold atP
  rw [if_pos h3]
  omega
theorem tk_go {x : Rs} (hv : rsV x = true) (hl : x.l.length ≤ 1000000) {n : Int} (hn : 0 ≤ n ∧ n ≤ 65536) (hm : n ≤ ((mkN x.p (waN x) : Nat) : Int)) (hp : x.p.p ≤ 62000000000000) : tkE x n = 0 := by
  have h1 := (rsV_in hv).1
  have hw := waN_V hv hl
  have h2 := mkN_iff h1 hw.2.1 (k := n.toNat) (by omega)
  have h3 : ned x.p n ≤ waN x := by
    have := h2.1 (by omega)
    rwa [show ((n.toNat : Nat) : Int) = n by omega] at this
  unfold tkE
  rw [if_neg (by rw [rcE_of hv hn]; decide), if_neg (by rw [← hw.1]; omega), po_go hv hn hp]
theorem fi_go {x : Rs} (hv : rsV x = true) (hl : x.l.length ≤ 1000000) {n : Int} (hn : 0 ≤ n ∧ n ≤ 65536) (hp : x.p.p ≤ 62000000000000) : fiE x n = 0 := by
  have h1 := cnt_in hv hl hn.1
  unfold fiE
  rw [if_neg (by rw [rcE_of hv hn]; decide), po_go hv (by omega) hp]
theorem okS.far {x : Sm} {di ch : Int} {k : Nat} (h : okS x di ch k) (hk : k ≤ 900) : x.r.p.p ≤ 62000000000000 := by
  have := h.pp
  omega
theorem okS.lr {x : Sm} {di ch : Int} {k : Nat} (h : okS x di ch k) : x.r.l.length ≤ 1000000 := by have := h.ll; omega
theorem okS.lg {x : Sm} {di ch : Int} {k : Nat} (h : okS x di ch k) : x.g.l.length ≤ 1000000 := by have := h.gl; omega
theorem okS.P {x : Sm} {ch : Int} {k : Nat} (h : okS x 1 ch k) : smP x = true := by unfold smP; rw [h.v, h.d]; rfl
theorem okS.R {x : Sm} {ch : Int} {k : Nat} (h : okS x 2 ch k) : smR x = true := by unfold smR; rw [h.v, h.d]; rfl
theorem okS.N {x : Sm} {ch : Int} {k : Nat} (h : okS x 1 ch k) : smN x = waN x.r := by
  unfold smN
  rw [if_neg (by rw [h.v]; decide), if_neg (by rw [h.d]; decide)]
theorem sk_go {x : Sm} {ch : Int} {k : Nat} (h : okS x 1 ch k) (hk : k ≤ 900) {i : Int} (hi : 0 ≤ i ∧ i ≤ 65536) : skE x i = 0 := by
  have hb := smB_in h.b
  have hr : (decide (i < 0) || decide (65536 < i)) = false := by simp only [Bool.or_eq_false_iff, decide_eq_false_iff_not]; omega
  have hK := skK_in (x := x) hi.1
  rw [skE_go h.P hr]
  split
  · exact tk_go hb.2.2.2.1 h.lr (by omega) (by unfold skK; omega) (h.far hk)
  · split
    · exact fi_go hb.2.2.2.1 h.lr hi (h.far hk)
    · rfl
theorem owes_go {x : Sm} {ch : Int} {k : Nat} (h : okS x 1 ch k) (hk : k ≤ 900) (hs : x.st = 3) {i : Int} (hi : 0 ≤ i ∧ i ≤ 65536) : owE x i = 0 ∧ (owN x i = 0 ↔ skX x i = 0) := by
  have hb := smB_in h.b
  have hr : (decide (i < 0) || decide (65536 < i)) = false := by simp only [Bool.or_eq_false_iff, decide_eq_false_iff_not]; omega
  have e : owE x i = 0 := by unfold owE; rw [if_neg (by rw [h.P]; decide), if_neg (by rw [hr]; decide)]
  have h1 := (rsV_in hb.2.2.2.1).1
  have hw := waN_V hb.2.2.2.1 h.lr
  have h2 := mkN_iff h1 hw.2.1 (k := i.toNat) (by omega)
  rw [show ((i.toNat : Nat) : Int) = i by omega] at h2
  have eN : owN x i = max 0 (ned x.r.p i - waN x.r) := by unfold owN; rw [if_pos e, h.N]
  have eX : skX x i = i - skK x i := if_pos ⟨sk_go h hk hi, hs⟩
  have eK : skK x i = min ((mkN x.r.p (waN x.r) : Nat) : Int) i := rfl
  refine ⟨e, ?_⟩
  rw [eN, eX, eK]
  constructor
  · intro h3
    have := h2.2 (by omega)
    omega
  · intro h3
    have := h2.1 (by omega)
    omega
theorem skO_len {x : Sm} {ch : Int} {k : Nat} (h : okS x 1 ch k) (hk : k ≤ 900) {i : Int} (hi : 0 ≤ i ∧ i ≤ 65536) : skC x i = ch ∧ (skO x i).length = i.toNat * ch.toNat ∧ (skO x i).all smpX = true := by
  have e := sk_go h hk hi
  have hb := smB_in h.b
  have hv := rsV_in hb.2.2.2.1
  have hM : 0 ≤ skM x i ∧ skM x i ≤ i := by
    have hK := skK_in (x := x) hi.1
    have hc := cnt_in hb.2.2.2.1 h.lr hi.1
    unfold skM
    split
    · exact hK
    · split
      · exact ⟨hc.1, hc.2.1⟩
      · exact ⟨Int.le_refl _, hi.1⟩
  have hol : (outO x.r (skM x i).toNat).length = (skM x i).toNat * x.r.c.toNat := outO_len _ _
  have hle := Nat.mul_le_mul_right x.r.c.toNat (show (skM x i).toNat ≤ i.toNat by omega)
  have eO : skO x i = outO x.r (skM x i).toNat ++ List.replicate ((i.toNat - (skM x i).toNat) * x.r.c.toNat) 0 := if_pos e
  have eC : skC x i = x.r.c := if_pos e
  rw [eC, eO, ← h.c, List.length_append, hol, List.length_replicate, Nat.sub_mul]
  refine ⟨rfl, by omega, ?_⟩
  rw [List.all_append, outO_all hv.1 (blk_in hv.2 h.lr).2.2.2 _ (by omega), Bool.true_and, List.all_eq_true]
  intro z hz
  rw [(List.mem_replicate.1 hz).2]
  decide
theorem frames_of {c : Int} {l : List Int} {n : Nat} (hc : 1 ≤ c ∧ c ≤ 8) (hl : l.length = n * c.toNat) (hn : n ≤ 65536) (ha : l.all smpX = true) : (if blkV c l = true then ((l.length / c.toNat : Nat) : Int) else 0) = n := by
  rw [if_pos (blkV_mk hc hl hn ha), hl, Nat.mul_div_cancel _ (by omega)]
/-- A new stream in a state. -/
def nwS (di ch n d q s0 st : Int) : Sm := ⟨di, st, q, s0, ⟨ch, ⟨n, d, 0, 0, 0⟩, []⟩, if di = 2 then ⟨ch, q, 0, 0, []⟩ else rg0, 0, 0, 0⟩
theorem nw_S {di ch n d q s0 st : Int} (hp : phV ⟨n, d, 0, 0, 0⟩ = true) (hc : 1 ≤ ch ∧ ch ≤ 8) (hq : 1 ≤ q ∧ q ≤ 65536) (h0 : 0 ≤ s0 ∧ s0 ≤ q) (hs : 1 ≤ st ∧ st ≤ 7) (hd : di = 1 ∨ di = 2) : okS (nwS di ch n d q s0 st) di ch 0 := by
  have hv : rsV ⟨ch, ⟨n, d, 0, 0, 0⟩, []⟩ = true := by
    unfold rsV
    rw [hp, blk_nil hc]
    rfl
  have hw : waN ⟨ch, ⟨n, d, 0, 0, 0⟩, []⟩ = 0 := by rw [(waN_V hv (Nat.zero_le _)).1]; simp
  have hB : smB (nwS di ch n d q s0 st) = true := smB_mk hs hq h0 hv rfl (by show (0 : Int) ≤ 0; decide) (by show (0 : Int) ≤ 0; decide) (by show (0 : Int) ≤ 0; decide)
  rcases hd with rfl | rfl
  · exact ⟨smV_1 hB rfl (by show waN ⟨ch, ⟨n, d, 0, 0, 0⟩, []⟩ ≤ q; rw [hw]; omega) rfl, rfl, rfl, Nat.zero_le _, Nat.zero_le _, by show (0 : Int) ≤ 70000 * ((0 : Nat) : Int); decide, by show (0 : Int) ≤ 70000 * ((0 : Nat) : Int); decide, by show (0 : Int) ≤ 70000 * ((0 : Nat) : Int); decide, by show (0 : Int) ≤ 62000000003 * ((0 : Nat) : Int); decide⟩
  · exact ⟨smV_2 hB rfl (rgV_mk hq ⟨by show (0 : Int) ≤ 0; decide, by show (0 : Int) ≤ 0; decide, by show (0 : Int) ≤ 1125899906842624; decide⟩ (blk_nil hc) (by simp [nwS]) (by show (0 : Int) - 0 ≤ q; omega)) rfl rfl, rfl, rfl, Nat.zero_le _, Nat.zero_le _, by show (0 : Int) ≤ 70000 * ((0 : Nat) : Int); decide, by show (0 : Int) ≤ 70000 * ((0 : Nat) : Int); decide, by show (0 : Int) ≤ 70000 * ((0 : Nat) : Int); decide, by show (0 : Int) ≤ 62000000003 * ((0 : Nat) : Int); decide⟩
theorem new_ok {di ch n d q s0 : Int} (hp : phV ⟨n, d, 0, 0, 0⟩ = true) (hc : 1 ≤ ch ∧ ch ≤ 8) (hq : 1 ≤ q ∧ q ≤ 65536) (h0 : 0 ≤ s0 ∧ s0 ≤ q) (hd : di = 1 ∨ di = 2) : snE di ch n d q s0 = 0 ∧ snR di ch n d q s0 = nwS di ch n d q s0 1 := by
  have hv : rsV ⟨ch, ⟨n, d, 0, 0, 0⟩, []⟩ = true := by
    unfold rsV
    rw [hp, blk_nil hc]
    rfl
  have hg : rgV ⟨ch, q, 0, 0, []⟩ = true := rgV_mk hq ⟨by show (0 : Int) ≤ 0; decide, by show (0 : Int) ≤ 0; decide, by show (0 : Int) ≤ 1125899906842624; decide⟩ (blk_nil hc) (by simp) (by show (0 : Int) - 0 ≤ q; omega)
  have e : snS di ch n d q s0 = nwS di ch n d q s0 1 := by
    unfold snS nwR rnR
    rw [if_pos hv, if_pos hg]
    rfl
  have hV := (nw_S (st := 1) hp hc hq h0 (by decide) hd).v
  unfold snE snR
  rw [e, if_pos hV, if_pos hV]
  exact ⟨rfl, rfl⟩
theorem start_ok {di ch n d q : Int} (hp : phV ⟨n, d, 0, 0, 0⟩ = true) (hc : 1 ≤ ch ∧ ch ≤ 8) (hq : 1 ≤ q ∧ q ≤ 65536) (hd : di = 1 ∨ di = 2) : doE (nwS di ch n d q 0 1) 1 = 0 ∧ doR (nwS di ch n d q 0 1) 1 = nwS di ch n d q 0 3 := by
  have hV := (nw_S (st := 1) (s0 := 0) hp hc hq ⟨Int.le_refl _, by omega⟩ (by decide) hd).v
  have ha : doA (nwS di ch n d q 0 1) 1 = true := by simp [doA, nwS]
  have e := do0 hV (by decide : (1 : Int) ≤ 1 ∧ (1 : Int) ≤ 7) ha (fun h => absurd h.2.1 (by show ¬ (1 : Int) = 2; decide))
  refine ⟨e, ?_⟩
  unfold doR
  rw [if_pos e]
  simp [doT, setS, nwS]


theorem feR_le (x : Rs) (k : Int) (y : List Int) : (feR x k y).l.length ≤ x.l.length + y.length := by
  unfold feR
  split
  · show (x.l ++ y).length ≤ _; rw [List.length_append]; omega
  · exact Nat.zero_le _
theorem poR_le (x : Rs) (n : Int) : (poR x n).l.length ≤ x.l.length := by
  unfold poR
  split
  · show (List.drop _ x.l).length ≤ _; rw [List.length_drop]; omega
  · exact Nat.zero_le _

theorem gB2 {k k2 : Int} {y y2 : List Int} {i : Nat} : (([D.agg [D.int .i64 k, D.list (LI .i32 y)], D.agg [D.int .i64 k2, D.list (LI .i32 y2)]])[i]?).getD (D.agg [D.int .i64 0, D.list []]) = D.agg [D.int .i64 (([(k, y), (k2, y2)])[i]?.getD (0, [])).1, D.list (LI .i32 (([(k, y), (k2, y2)])[i]?.getD (0, [])).2)] := by
  match i with
  | 0 => rfl
  | 1 => rfl
  | i + 2 => rfl
theorem two_of {α : Type} {P : α → Prop} {a b z : α} (ha : P a) (hb : P b) (hz : P z) (i : Nat) : P (([a, b])[i]?.getD z) := by
  match i with
  | 0 => exact ha
  | 1 => exact hb
  | i + 2 => exact hz
theorem gS2 {di st q s0 c n d a p f gc gq gw gr wr pl mi di2 st2 q2 s02 c2 n2 d2 a2 p2 f2 gc2 gq2 gw2 gr2 wr2 pl2 mi2 : Int} {l gl l2 gl2 : List Int} {i : Nat} : (([D.agg [D.int .i64 di, D.int .i64 st, D.int .i64 q, D.int .i64 s0, D.int .i64 c, D.int .i64 n, D.int .i64 d, D.int .i64 a, D.int .i64 p, D.int .i64 f, D.list (LI .i32 l), D.int .i64 gc, D.int .i64 gq, D.int .i64 gw, D.int .i64 gr, D.list (LI .i32 gl), D.int .i64 wr, D.int .i64 pl, D.int .i64 mi], D.agg [D.int .i64 di2, D.int .i64 st2, D.int .i64 q2, D.int .i64 s02, D.int .i64 c2, D.int .i64 n2, D.int .i64 d2, D.int .i64 a2, D.int .i64 p2, D.int .i64 f2, D.list (LI .i32 l2), D.int .i64 gc2, D.int .i64 gq2, D.int .i64 gw2, D.int .i64 gr2, D.list (LI .i32 gl2), D.int .i64 wr2, D.int .i64 pl2, D.int .i64 mi2]])[i]?).getD (D.agg [D.int .i64 0, D.int .i64 0, D.int .i64 0, D.int .i64 0, D.int .i64 0, D.int .i64 0, D.int .i64 0, D.int .i64 0, D.int .i64 0, D.int .i64 0, D.list [], D.int .i64 0, D.int .i64 0, D.int .i64 0, D.int .i64 0, D.list [], D.int .i64 0, D.int .i64 0, D.int .i64 0]) = .agg (smD (([⟨di, st, q, s0, ⟨c, ⟨n, d, a, p, f⟩, l⟩, ⟨gc, gq, gw, gr, gl⟩, wr, pl, mi⟩, ⟨di2, st2, q2, s02, ⟨c2, ⟨n2, d2, a2, p2, f2⟩, l2⟩, ⟨gc2, gq2, gw2, gr2, gl2⟩, wr2, pl2, mi2⟩] : List Sm)[i]?.getD sm0)) := by
  match i with
  | 0 => rfl
  | 1 => rfl
  | i + 2 => rfl
theorem gB3 {k k2 k3 : Int} {y y2 : List Int} {i : Nat} : (([D.agg [D.int .i64 k, D.list (LI .i32 y)], D.agg [D.int .i64 k2, D.list (LI .i32 y2)], D.agg [D.int .i64 k3, D.list []]])[i]?).getD (D.agg [D.int .i64 0, D.list []]) = D.agg [D.int .i64 (([(k, y), (k2, y2), (k3, [])])[i]?.getD (0, [])).1, D.list (LI .i32 (([(k, y), (k2, y2), (k3, [])])[i]?.getD (0, [])).2)] := by
  match i with
  | 0 => rfl
  | 1 => rfl
  | 2 => rfl
  | i + 3 => rfl
theorem three_of {α : Type} {P : α → Prop} {a b c z : α} (ha : P a) (hb : P b) (hc : P c) (hz : P z) (i : Nat) : P (([a, b, c])[i]?.getD z) := by
  match i with
  | 0 => exact ha
  | 1 => exact hb
  | 2 => exact hc
  | i + 3 => exact hz
theorem snR_le (di ch n d q s0 : Int) : (snR di ch n d q s0).r.l.length = 0 ∧ (snR di ch n d q s0).g.l.length = 0 := by
  have h1 : (nwR ch n d).l.length = 0 := by
    unfold nwR
    split <;> rfl
  have h2 : (rnR ch q).l.length = 0 := by
    unfold rnR
    split <;> rfl
  unfold snR
  split
  · refine ⟨h1, ?_⟩
    show (if di = 2 then rnR ch q else rg0).l.length = 0
    split
    · exact h2
    · rfl
  · exact ⟨rfl, rfl⟩
theorem swR_le (x : Sm) (k : Int) (y : List Int) : (swR x k y).r.l.length ≤ x.r.l.length + y.length ∧ (swR x k y).g.l.length ≤ x.g.l.length := by
  unfold swR
  split
  · exact ⟨feR_le x.r k y, Nat.le_refl _⟩
  · exact ⟨Nat.zero_le _, Nat.zero_le _⟩
theorem rdR_le (x : Rg) (i : Int) : (rdR x i).l.length ≤ x.l.length := by
  unfold rdR
  split
  · show (x.l.drop _).length ≤ _
    rw [List.length_drop]; omega
  · exact Nat.zero_le _
theorem srR_le (x : Sm) (i : Int) : (srR x i).r.l.length ≤ x.r.l.length ∧ (srR x i).g.l.length ≤ x.g.l.length := by
  unfold srR
  split
  · exact ⟨Nat.le_refl _, rdR_le x.g _⟩
  · exact ⟨Nat.zero_le _, Nat.zero_le _⟩
theorem rdO_le {x : Rg} {i : Int} (hl : x.l.length ≤ 1000000) : (rdO x i).length ≤ 524288 := by
  unfold rdO
  split
  · rename_i h
    unfold rdE at h
    split at h
    · cases h
    · split at h
      · cases h
      · rename_i h1 h2
        have hv : rgV x = true := by simpa using h1
        simp only [Bool.or_eq_true, decide_eq_true_eq, not_or] at h2
        obtain ⟨v1, v2, v3, v4, v5⟩ := rgV_in hv
        obtain ⟨⟨k1, k2⟩, k3, k4, k5⟩ := blk_in v3 hl
        have hN : 0 ≤ rdN x i ∧ rdN x i ≤ i := by unfold rdN; omega
        have h3 := Nat.mul_le_mul (show (rdN x i).toNat + (i - rdN x i).toNat ≤ 65536 by omega) (show x.c.toNat ≤ 8 by omega)
        rw [Nat.add_mul] at h3
        rw [List.length_append, List.length_take, List.length_replicate]
        omega
  · exact Nat.zero_le _
theorem srO_le {x : Sm} {i : Int} (hl : x.g.l.length ≤ 1000000) : (srO x i).length ≤ 524288 := by
  unfold srO
  split
  · exact rdO_le hl
  · exact Nat.zero_le _
theorem smE_le (x : Sm) : (smE x).r.l.length ≤ x.r.l.length ∧ (smE x).g.l.length ≤ x.g.l.length := by
  have h1 : (nwR x.r.c x.r.p.n x.r.p.d).l.length = 0 := by
    unfold nwR
    split <;> rfl
  have h2 : (rcL x.g).l.length = 0 := by
    unfold rcL
    split <;> rfl
  unfold smE
  refine ⟨by show (nwR _ _ _).l.length ≤ _; omega, ?_⟩
  show (if x.di = 2 then rcL x.g else x.g).l.length ≤ _
  split <;> omega
theorem doR_le (x : Sm) (k : Int) : (doR x k).r.l.length ≤ x.r.l.length ∧ (doR x k).g.l.length ≤ x.g.l.length := by
  unfold doR
  split
  · split
    · exact smE_le (setS x _)
    · exact ⟨Nat.le_refl _, Nat.le_refl _⟩
  · exact ⟨Nat.zero_le _, Nat.zero_le _⟩
theorem skR_le (x : Sm) (i : Int) : (skR x i).r.l.length ≤ x.r.l.length ∧ (skR x i).g.l.length ≤ x.g.l.length := by
  unfold skR
  split
  · split
    · exact ⟨poR_le x.r _, Nat.le_refl _⟩
    · exact ⟨Nat.le_refl _, Nat.le_refl _⟩
  · exact ⟨Nat.zero_le _, Nat.zero_le _⟩
theorem skO_le {x : Sm} {i : Int} (hl : x.r.l.length ≤ 1000000) : (skO x i).length ≤ 524288 := by
  unfold skO
  split
  · rename_i h
    obtain ⟨h1, h2, h3, h4, h5⟩ := skE_ok h
    have hb := smB_in (smV_in h1).1
    obtain ⟨⟨k1, k2⟩, _⟩ := blk_in (rsV_in hb.2.2.2.1).2 hl
    have hM : 0 ≤ skM x i ∧ skM x i ≤ i := by
      have hK := skK_in (x := x) h3.1
      have hc := cnt_in hb.2.2.2.1 hl h3.1
      unfold skM
      split
      · exact hK
      · split
        · exact ⟨hc.1, hc.2.1⟩
        · exact ⟨Int.le_refl _, h3.1⟩
    have hol : (outO x.r (skM x i).toNat).length = (skM x i).toNat * x.r.c.toNat := outO_len _ _
    rw [List.length_append, hol, List.length_replicate, ← Nat.add_mul]
    exact Nat.mul_le_mul (show _ ≤ 65536 by omega) (show x.r.c.toNat ≤ 8 by omega)
  · exact Nat.zero_le _
theorem rwR_le (x : Rg) (k : Int) (y : List Int) : (rwR x k y).l.length ≤ x.l.length + y.length := by
  unfold rwR
  split
  · show (x.l ++ y.take _).length ≤ _
    rw [List.length_append, List.length_take]; omega
  · exact Nat.zero_le _
theorem gvR_le {x : Sm} {k : Int} {y : List Int} (hl : x.r.l.length ≤ 1000000) (hy : y.length ≤ 1000000) : (gvR x k y).r.l.length ≤ x.r.l.length + y.length ∧ (gvR x k y).g.l.length ≤ x.g.l.length + 524288 := by
  unfold gvR
  split
  · rename_i he
    split
    · rename_i hs
      obtain ⟨h1, h2, h3, h4, h5⟩ := gvE_ok he
      obtain ⟨c1, c2⟩ := h5 hs
      have ec : cvR x.r k y = poR (feR x.r k y) (cvN x.r k y) := if_pos c1
      have h6 := poR_le (feR x.r k y) (cvN x.r k y)
      have h7 := feR_le x.r k y
      have h8 := rwR_le x.g (cvC x.r k y) (cvO x.r k y)
      have h9 := cvO_len hl hy c1
      refine ⟨?_, ?_⟩
      · show (cvR x.r k y).l.length ≤ _
        rw [ec]; omega
      · show (rwR x.g (cvC x.r k y) (cvO x.r k y)).l.length ≤ _
        omega
    · exact ⟨Nat.le_add_right _ _, Nat.le_add_right _ _⟩
  · exact ⟨Nat.zero_le _, Nat.zero_le _⟩


def sB1 : Sm := ⟨1, 1, 10, 2, ⟨1, ⟨1, 1, 0, 0, 0⟩, []⟩, rg0, 0, 0, 0⟩
def sB2 : Sm := ⟨1, 2, 10, 2, ⟨1, ⟨1, 1, 0, 0, 0⟩, waO 1 1 0 5⟩, rg0, 5, 0, 0⟩
def sB3 : Sm := ⟨1, 3, 10, 2, ⟨1, ⟨1, 1, 0, 0, 0⟩, waO 1 1 0 5⟩, rg0, 5, 0, 0⟩
def sB4 : Sm := ⟨1, 3, 10, 2, ⟨1, ⟨1, 1, 0, 4, 0⟩, (waO 1 1 0 5).drop 4⟩, rg0, 5, 4, 0⟩
theorem sg1 : snR 1 1 1 1 10 2 = sB1 ∧ snE 1 1 1 1 10 2 = 0 := ⟨by kernel_rfl, by kernel_rfl⟩
theorem sg2 : swR sB1 1 (waO 1 1 0 5) = sB2 ∧ swE sB1 1 (waO 1 1 0 5) = 0 := ⟨by kernel_rfl, by kernel_rfl⟩
theorem sg3 : owE sB2 4 = 0 ∧ owN sB2 4 = 0 ∧ owE sB2 5 = 0 ∧ owN sB2 5 = 1 := ⟨by kernel_rfl, by kernel_rfl, by kernel_rfl, by kernel_rfl⟩
theorem sg4 : doR sB2 1 = sB3 ∧ doE sB2 1 = 0 := ⟨by kernel_rfl, by kernel_rfl⟩
theorem sg5 : skR sB3 4 = sB4 ∧ skE sB3 4 = 0 ∧ skX sB3 4 = 0 ∧ (skO sB3 4).length = 4 := ⟨by kernel_rfl, by kernel_rfl, by kernel_rfl, by kernel_rfl⟩
theorem sg6 : smN sB4 = 1 ∧ smO sB4 = 9 ∧ smV sB4 = true := ⟨by kernel_rfl, by kernel_rfl, by kernel_rfl⟩


theorem spec_sane  : Spec Tryz.prog 0 9 [] [] [] (vB true) [] [] := by
  refine spec_of_E (X := ⟨Tryz.prog, tt, Tryz.f9.ntmps, 1, fun _ => 0, (tab [(21, E_snew), (28, E_wave), (29, E_swrite), (13, E_sowes), (27, E_sdo), (25, E_stake), (17, E_swaiting), (19, E_sroom), (15, E_svalid)])⟩) (M := [(6, [0, 0, 0, 0, 0, 133040906977279, 0, 0, 0, 0, 0, 70368744194047, 0]), (7, [0, 0, 0, 0, 0, 83076749736557242051984341640167423, 0, 0, 0, 0, 0, 83076749736557241912372753191682047, 0, 0, 0, 0, 0, 83076749736557223609743867557986303, 0, 0, 0, 0, 0, 83076749736556651760677582561886207, 0, 0, 0, 0, 0, 83076749736481684192762026944118783, 0, 0, 0, 0, 0, 83076749731721538778029424568713215, 0, 0, 0, 0, 0, 83076749581814737145815406905147391, 0, 0, 0, 0, 0, 83076732405396692061164092679798783, 0, 0, 0, 0, 0, 83075640542282042355761631652233215, 0, 0, 0, 0, 0, 82995620098142635374792152262393855, 0, 0, 0, 0, 0, 77884452878022414427957444938317823, 0, 0, 0, 0])]) (m := 16383) rfl rfl ⟨tt_ok, tab_ok (tabs_cons E_snew_ok (tabs_cons E_wave_ok (tabs_cons E_swrite_ok (tabs_cons E_sowes_ok (tabs_cons E_sdo_ok (tabs_cons E_stake_ok (tabs_cons E_swaiting_ok (tabs_cons E_sroom_ok (tabs_cons E_svalid_ok tabs_nil))))))))) _ rfl rfl⟩ tt_mixed Tryz.func9 rfl (by decide) (by show (0 : Nat) ≤ _; exact Nat.le_of_ble_eq_true rfl) ⟨fun m hm => (V.bare_has rfl m hm).elim, by simp, by simp⟩ ?_
  simp only [↓gPre, gPost, gCore, gDef, Nat.reduceShiftRight, Nat.reduceMod, if_true, if_false, ↓reduceIte, reduceCtorEq, Nat.reduceEqDiff, Nat.reduceLT, Nat.reduceLeDiff, implies_true, forall_const, eq_self, ne_eq, not_true_eq_false, not_false_eq_true, imp_self, Nat.reduceAdd, Nat.reduceMul, Int.reduceLE, Int.reduceLT, Int.reduceNeg, Int.reduceAdd, Int.reduceToNat, E_snew_eq, E_wave_eq, E_swrite_eq, E_sowes_eq, E_sdo_eq, E_stake_eq, E_swaiting_eq, E_sroom_eq, E_svalid_eq, rg_eta, sm_eta, ph_eta, rs_eta, smD_eq, smC_eq, Tryz.ntmps9, Tryz.results9, gTT]
  refine ⟨by kernel_rfl, ?_⟩
  rw [sg1.1, sg1.2, sg2.1, sg2.2, sg3.1, sg3.2.1, sg3.2.2.1, sg3.2.2.2, sg4.1, sg4.2, sg5.1, sg5.2.1, sg5.2.2.1, sg5.2.2.2, sg6.1, sg6.2.1, sg6.2.2]
  decide +kernel
def E_sane : List V → Boxes → Toks → Name → Option Ent
  | [], [], [], _ => some ⟨True, vB true, [], []⟩
  | _, _, _, _ => none
def E_sane_eq := And.intro (@E_sane.eq_1) (@E_sane.eq_1)
theorem E_sane_ok : Snd Tryz.prog 9 E_sane := by
  intro vs b k n e h hn hp
  unfold E_sane at h
  split at h
  · cases h; exact (spec_sane ).lift rfl _
  · cases h

end Go.Vam
