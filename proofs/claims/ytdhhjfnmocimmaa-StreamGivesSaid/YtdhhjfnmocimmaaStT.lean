/- The law StreamGives gives true. Conditions: none. -/
import Derived.Test.YtdhhjfnmocimmaaStQ
set_option linter.unusedVariables false
set_option linter.defProp false
set_option linter.unusedSimpArgs false
set_option maxRecDepth 40000
set_option maxHeartbeats 4000000
namespace Go.Vam
open Go.Proofs

theorem ooL_all {p : Ph} (h : phV p = true) (c : Int) {s : List Int} (ha : s.all smpX = true) : ∀ N : Nat, N ≤ 65536 → (ooL p c s N).all smpX = true
  | 0, _ => rfl
  | N + 1, hN => by
    rw [ooL, List.all_append, ooL_all h c ha N (by omega), Bool.true_and, List.all_eq_true]
    intro x hx
    rw [List.mem_map] at hx
    obtain ⟨j, _, rfl⟩ := hx
    have hp := prt_in h
    have hq := qAt_in h (n := (N : Int)) (by omega)
    have := btw_in (a := s[qN p N * c.toNat + j]?.getD 0) (b := s[(qN p N + 1) * c.toNat + j]?.getD 0) (f := fAt p N) (P := prt p) (by omega) ⟨hq.2.1, hq.2.2.1⟩ (smp_get ha _) (smp_get ha _)
    simp only [smpX, Bool.and_eq_true, decide_eq_true_eq]
    exact this


/-- A capture stream after some frames were given and some read. -/
def grS (P : Ph) (b : List Int) (T R : Nat) : Sm := ⟨2, 3, 1000, 0, stR P 2 b (mkN P (T : Int)), ⟨2, 1000, ((mkN P (T : Int) : Nat) : Int), (R : Int), (ooL P 2 b (mkN P (T : Int))).drop (R * 2)⟩, (R : Int), (T : Int), 0⟩
structure giH (P : Ph) (b : List Int) (F : Nat) : Prop where
  hp : phV P = true
  h0 : P.p = 0
  h1 : P.a = 0
  hb : b.length = F * 2
  ha : b.all smpX = true
  hF : F ≤ 39
  hr : P.d ≤ 20 * P.n
theorem gi_few {P : Ph} {b : List Int} {F : Nat} (H : giH P b F) {T : Nat} (hT : T ≤ 39) : mkN P (T : Int) ≤ 780 := by
  have hpr := prt_in H.hp
  have hst := stp_in H.hp
  have hph := phV_in H.hp
  have e1 : prt P ≤ 20 * stp P := by
    rw [hst.1, H.h1, hph.2.2.2.2.2]
    have := H.hr
    omega
  have hq : 39 ≤ qAt P 780 := by
    unfold qAt
    refine Int.le_ediv_of_mul_le (by omega) ?_
    unfold ahd
    omega
  have hif := mkN_iff H.hp (n := (T : Int)) (by omega) (k := 781) (by decide)
  have hn : ¬ ned P ((781 : Nat) : Int) ≤ (T : Int) := by
    unfold ned
    rw [if_neg (by decide)]
    show ¬ max (qAt P 780 + 2) _ ≤ _
    omega
  have : ¬ 781 ≤ mkN P (T : Int) := fun h => hn (hif.1 h)
  omega
theorem gi_l {P : Ph} {b : List Int} {F : Nat} (H : giH P b F) {T : Nat} (hT : T ≤ F) : (b.take (T * 2)).length = T * 2 ∧ (b.take (T * 2)).all smpX = true := by
  refine ⟨by rw [List.length_take, H.hb]; omega, ?_⟩
  rw [List.all_eq_true]
  intro x hx
  exact List.all_eq_true.1 H.ha x (List.mem_of_mem_take hx)
theorem gi_ned {P : Ph} {b : List Int} {F : Nat} (H : giH P b F) {T : Nat} (hT : T ≤ 39) : ned P ((mkN P (T : Int) : Nat) : Int) ≤ (T : Int) :=
  (mkN_iff H.hp (n := (T : Int)) (by omega) (k := mkN P (T : Int)) (by have := gi_few H hT; omega)).1 (Nat.le_refl _)
theorem gr_V {P : Ph} {b s : List Int} {F : Nat} (H : giH P b F) {T R : Nat} (hT : T ≤ 39) (hs : s.length = T * 2) (ha : s.all smpX = true) (hR : R ≤ mkN P (T : Int)) : okS (grS P s T R) 2 2 1 ∧ rgN (grS P s T R).g = ((mkN P (T : Int) - R : Nat) : Int) ∧ rgV (grS P s T R).g = true := by
  have hM := gi_few H hT
  have hN := gi_ned H hT
  obtain ⟨v1, v2, v3, v4⟩ := stR_V H.hp (c := 2) (N := mkN P (T : Int)) (by decide) (by rw [hs]; rfl) ha (by omega) (by omega) hN (by rw [H.h0]; omega)
  have v2' : (stR P 2 s (mkN P (T : Int))).l.length = (T - qN P (mkN P (T : Int))) * 2 := v2
  have hol : (ooL P 2 s (mkN P (T : Int))).length = mkN P (T : Int) * 2 := ooL_len ..
  have hoa := ooL_all H.hp 2 ha (mkN P (T : Int)) (by omega)
  have hdl : ((ooL P 2 s (mkN P (T : Int))).drop (R * 2)).length = (mkN P (T : Int) - R) * 2 := by rw [List.length_drop, hol, Nat.sub_mul]
  have hdb : blkV 2 ((ooL P 2 s (mkN P (T : Int))).drop (R * 2)) = true := blkV_mk (z := mkN P (T : Int) - R) (by decide) hdl (by omega) (by
    rw [List.all_eq_true]
    intro x hx
    exact List.all_eq_true.1 hoa x (List.mem_of_mem_drop hx))
  have hg : rgV (grS P s T R).g = true := by
    refine rgV_mk (x := (grS P s T R).g) ⟨by show (1 : Int) ≤ 1000; decide, by show (1000 : Int) ≤ 65536; decide⟩ ⟨by show (0 : Int) ≤ (R : Int); omega, by show (R : Int) ≤ ((mkN P (T : Int) : Nat) : Int); omega, by show ((mkN P (T : Int) : Nat) : Int) ≤ _; omega⟩ hdb ?_ ?_
    · show ((mkN P (T : Int) : Nat) : Int) - (R : Int) = ((((ooL P 2 s (mkN P (T : Int))).drop (R * 2)).length / 2 : Nat) : Int)
      rw [hdl, Nat.mul_div_cancel _ (by decide)]
      omega
    · show ((mkN P (T : Int) : Nat) : Int) - (R : Int) ≤ 1000
      omega
  have hB : smB (grS P s T R) = true := smB_mk ⟨by show (1 : Int) ≤ 3; decide, by show (3 : Int) ≤ 7; decide⟩ ⟨by show (1 : Int) ≤ 1000; decide, by show (1000 : Int) ≤ 65536; decide⟩ ⟨by show (0 : Int) ≤ 0; decide, by show (0 : Int) ≤ 1000; decide⟩ v1 H.h1 (by show (0 : Int) ≤ (R : Int); omega) (by show (0 : Int) ≤ (T : Int); omega) (by show (0 : Int) ≤ 0; decide)
  have hq := q_le_ned H.hp (n := mkN P (T : Int)) (by omega)
  refine ⟨⟨smV_2 hB rfl hg rfl rfl, rfl, rfl, by show (stR P 2 s _).l.length ≤ _; omega, by show ((ooL P 2 s _).drop _).length ≤ _; omega, by show (R : Int) ≤ _; omega, by show (T : Int) ≤ _; omega, by show (0 : Int) ≤ 70000 * ((1 : Nat) : Int); decide, ?_⟩, ?_, hg⟩
  · show P.p + ((qN P (mkN P (T : Int)) : Nat) : Int) ≤ _
    rw [H.h0]
    omega
  · unfold rgN
    rw [if_pos hg]
    show ((mkN P (T : Int) : Nat) : Int) - (R : Int) = _
    omega
theorem mk_zero {P : Ph} (hp : phV P = true) : mkN P ((0 : Nat) : Int) = 0 := by
  have h := mkN_iff hp (n := ((0 : Nat) : Int)) (by decide) (k := 1) (by decide)
  have h2 := ned_two hp (n := 1) (by decide)
  have : ¬ 1 ≤ mkN P ((0 : Nat) : Int) := fun h3 => by
    have h4 : ned P 1 ≤ ((0 : Nat) : Int) := h.1 h3
    omega
  omega
theorem gi_zero {P : Ph} {b : List Int} {F : Nat} (H : giH P b F) : grS P (b.take (0 * 2)) 0 0 = ⟨2, 3, 1000, 0, ⟨2, P, []⟩, ⟨2, 1000, 0, 0, []⟩, 0, 0, 0⟩ := by
  unfold grS
  rw [mk_zero H.hp, Nat.zero_mul, List.take_zero, stR_zero H.hp]
  rfl
theorem gi_give {P : Ph} {b : List Int} {F : Nat} (H : giH P b F) {T m : Nat} (hT : T ≤ m) (hm : m ≤ F) :
    gvE (grS P (b.take (T * 2)) T 0) 2 (cutK 2 b T m) = 0 ∧ gvL (grS P (b.take (T * 2)) T 0) 2 (cutK 2 b T m) = 0 ∧ gvR (grS P (b.take (T * 2)) T 0) 2 (cutK 2 b T m) = grS P (b.take (m * 2)) m 0 := by
  have hF := H.hF
  obtain ⟨l1, l2⟩ := gi_l H (T := T) (by omega)
  obtain ⟨k1, k2⟩ := gi_l H (T := m) hm
  obtain ⟨ok, hN, hgV⟩ := gr_V H (s := b.take (T * 2)) (T := T) (R := 0) (by omega) l1 l2 (Nat.zero_le _)
  have hM1 := gi_few H (T := T) (by omega)
  have hM2 := gi_few H (T := m) (by omega)
  have hmB : m * (2 : Int).toNat ≤ b.length := by rw [H.hb]; exact Nat.mul_le_mul_right _ hm
  have hcl : (cutK 2 b T m).length = (m - T) * 2 := cutK_len (f := T) hmB
  have hca : (cutK 2 b T m).all smpX = true := by
    rw [List.all_eq_true]
    intro x hx
    exact List.all_eq_true.1 H.ha x (List.mem_of_mem_drop (List.mem_of_mem_take hx))
  have hcb : blkV 2 (cutK 2 b T m) = true := blkV_mk (z := m - T) (by decide) hcl (by omega) hca
  have hTm : T + (m - T) = m := by omega
  obtain ⟨c1, c2, c3, c4⟩ := cv_step H.hp (c := 2) (s := b.take (T * 2)) (y := cutK 2 b T m) (W := T) (V := m - T) (N := mkN P (T : Int)) (by decide) l1 l2 hcl hca (by omega) (by omega) (gi_ned H (by omega)) (by rw [H.h0]; omega) (by rw [hTm]; omega)
  have etk : b.take (T * 2) ++ cutK 2 b T m = b.take (m * 2) := by
    unfold cutK
    show b.take (T * 2) ++ (b.drop (T * 2)).take ((m - T) * 2) = _
    have e : m * 2 = T * 2 + (m - T) * 2 := by omega
    rw [e, List.take_add]
  rw [hTm, etk] at c3 c4
  have hol1 : (ooL P 2 (b.take (T * 2)) (mkN P (T : Int))).length = mkN P (T : Int) * 2 := ooL_len ..
  have hol2 : (ooL P 2 (b.take (m * 2)) (mkN P (m : Int))).length = mkN P (m : Int) * 2 := ooL_len ..
  have hcvl : (cvO (stR P 2 (b.take (T * 2)) (mkN P (T : Int))) 2 (cutK 2 b T m)).length = mkN P (m : Int) * 2 - mkN P (T : Int) * 2 := by
    have := congrArg List.length c4
    rw [List.length_append, hol1, hol2] at this
    omega
  have hmono : mkN P (T : Int) ≤ mkN P (m : Int) := by
    have := congrArg List.length c4
    rw [List.length_append, hol1, hol2] at this
    omega
  have hcva : (cvO (stR P 2 (b.take (T * 2)) (mkN P (T : Int))) 2 (cutK 2 b T m)).all smpX = true := by
    have := ooL_all H.hp 2 k2 (mkN P (m : Int)) (by omega)
    rw [← c4, List.all_append, Bool.and_eq_true] at this
    exact this.2
  have hcvb : blkV 2 (cvO (stR P 2 (b.take (T * 2)) (mkN P (T : Int))) 2 (cutK 2 b T m)) = true := blkV_mk (z := mkN P (m : Int) - mkN P (T : Int)) (by decide) (by rw [hcvl]; show _ = (_ - _) * 2; omega) (by omega) hcva
  generalize hY : cvO (stR P 2 (b.take (T * 2)) (mkN P (T : Int))) 2 (cutK 2 b T m) = Y at *
  have hrN : rwN (grS P (b.take (T * 2)) T 0).g 2 Y = ((mkN P (m : Int) - mkN P (T : Int) : Nat) : Int) := by
    show min ((Y.length / 2 : Nat) : Int) (1000 - (((mkN P (T : Int) : Nat) : Int) - ((0 : Nat) : Int))) = _
    rw [hcvl]
    omega
  have hrE : rwE (grS P (b.take (T * 2)) T 0).g 2 Y = 0 := by
    unfold rwE
    rw [if_neg (by rw [hgV, hcvb]; decide), if_neg (by show ¬ ((2 : Int) ≠ 2); decide), if_neg]
    rw [hrN]
    show ¬ 1125899906842624 < ((mkN P (T : Int) : Nat) : Int) + _
    omega
  have hrL : rwL (grS P (b.take (T * 2)) T 0).g 2 Y = 0 := by
    unfold rwL
    rw [if_pos hrE, hrN]
    show ((Y.length / 2 : Nat) : Int) - _ = 0
    rw [hcvl]
    omega
  have hrR : rwR (grS P (b.take (T * 2)) T 0).g 2 Y = ⟨2, 1000, ((mkN P (m : Int) : Nat) : Int), 0, ooL P 2 (b.take (m * 2)) (mkN P (m : Int))⟩ := by
    unfold rwR
    rw [if_pos hrE, hrN]
    show (⟨2, 1000, ((mkN P (T : Int) : Nat) : Int) + ((mkN P (m : Int) - mkN P (T : Int) : Nat) : Int), ((0 : Nat) : Int), (ooL P 2 (b.take (T * 2)) (mkN P (T : Int))).drop (0 * 2) ++ Y.take ((((mkN P (m : Int) - mkN P (T : Int) : Nat) : Int)).toNat * 2)⟩ : Rg) = _
    have htk : Y.take ((mkN P (m : Int) - mkN P (T : Int)) * 2) = Y := List.take_of_length_le (by rw [hcvl]; omega)
    rw [Int.toNat_natCast, htk, Nat.zero_mul, List.drop_zero, c4]
    congr 1
    omega
  have hE : gvE (grS P (b.take (T * 2)) T 0) 2 (cutK 2 b T m) = 0 := by
    unfold gvE
    rw [if_neg (by rw [ok.R, hcb]; decide), if_neg (by show ¬ ((2 : Int) ≠ 2); decide), if_neg (by show ¬ ((3 : Int) ≠ 3); decide)]
    show (if cvE (stR P 2 (b.take (T * 2)) (mkN P (T : Int))) 2 (cutK 2 b T m) ≠ 0 then _ else rwE (grS P (b.take (T * 2)) T 0).g (cvC (stR P 2 (b.take (T * 2)) (mkN P (T : Int))) 2 (cutK 2 b T m)) (cvO (stR P 2 (b.take (T * 2)) (mkN P (T : Int))) 2 (cutK 2 b T m))) = 0
    rw [if_neg (by rw [c1]; decide), c2, hY, hrE]
  have hL : gvL (grS P (b.take (T * 2)) T 0) 2 (cutK 2 b T m) = 0 := by
    unfold gvL
    rw [if_pos ⟨hE, rfl⟩]
    show rwL (grS P (b.take (T * 2)) T 0).g (cvC (stR P 2 (b.take (T * 2)) (mkN P (T : Int))) 2 (cutK 2 b T m)) (cvO (stR P 2 (b.take (T * 2)) (mkN P (T : Int))) 2 (cutK 2 b T m)) = 0
    rw [c2, hY, hrL]
  refine ⟨hE, hL, ?_⟩
  unfold gvR
  rw [if_pos hE, if_pos (show (grS P (b.take (T * 2)) T 0).st = 3 from rfl), hL, swN_of (n := m - T) (by decide) hcl]
  show (⟨2, 3, 1000, 0, cvR (stR P 2 (b.take (T * 2)) (mkN P (T : Int))) 2 (cutK 2 b T m), rwR (grS P (b.take (T * 2)) T 0).g (cvC (stR P 2 (b.take (T * 2)) (mkN P (T : Int))) 2 (cutK 2 b T m)) (cvO (stR P 2 (b.take (T * 2)) (mkN P (T : Int))) 2 (cutK 2 b T m)), ((0 : Nat) : Int), IntKind.i64.wrap ((T : Int) + ((m - T : Nat) : Int)), IntKind.i64.wrap (0 + 0)⟩ : Sm) = _
  rw [c2, hY, hrR, c3, IntWalk.i64_in ((T : Int) + _) (by omega), IntWalk.i64_in (0 + 0) (by decide)]
  unfold grS
  rw [Nat.zero_mul, List.drop_zero]
  congr 1
  omega
theorem gi_read {P : Ph} {b s : List Int} {F : Nat} (H : giH P b F) {T R i : Nat} (hT : T ≤ 39) (hs : s.length = T * 2) (ha : s.all smpX = true) (hR : R ≤ mkN P (T : Int)) (hi : i ≤ 60000) :
    srE (grS P s T R) i = 0 ∧ srC (grS P s T R) i = 2 ∧ srO (grS P s T R) i = ((ooL P 2 s (mkN P (T : Int))).drop (R * 2)).take (min i (mkN P (T : Int) - R) * 2) ∧ srR (grS P s T R) i = grS P s T (R + min i (mkN P (T : Int) - R)) := by
  obtain ⟨ok, hN, hgV⟩ := gr_V H hT hs ha hR
  have hM := gi_few H hT
  have hE : srE (grS P s T R) i = 0 := by
    unfold srE
    rw [if_neg (by rw [ok.R]; decide), if_neg (by simp only [Bool.or_eq_true, decide_eq_true_eq]; omega), if_neg (by show ¬ (3 : Int) = 7; decide)]
  have hsN : smN (grS P s T R) = ((mkN P (T : Int) - R : Nat) : Int) := by
    unfold smN
    rw [if_neg (by rw [ok.v]; decide), if_pos (by rfl), hN]
  have hn : srN (grS P s T R) i = ((min i (mkN P (T : Int) - R) : Nat) : Int) := by
    unfold srN
    rw [hsN]
    omega
  generalize hz : min i (mkN P (T : Int) - R) = n at *
  have hnle : n ≤ mkN P (T : Int) - R := by omega
  have hdE : rdE (grS P s T R).g (n : Int) = 0 := by
    unfold rdE
    rw [if_neg (by rw [hgV]; decide), if_neg (by simp only [Bool.or_eq_true, decide_eq_true_eq]; omega)]
  have hdN : rdN (grS P s T R).g (n : Int) = (n : Int) := by
    show min (n : Int) (((mkN P (T : Int) : Nat) : Int) - (R : Int)) = _
    omega
  refine ⟨hE, ?_, ?_, ?_⟩
  · unfold srC
    rw [if_pos hE, hn]
    exact if_pos hdE
  · unfold srO
    rw [if_pos hE, hn]
    unfold rdO
    rw [if_pos hdE, hdN, Int.sub_self]
    show List.take ((n : Int).toNat * 2) ((ooL P 2 s (mkN P (T : Int))).drop (R * 2)) ++ List.replicate ((0 : Int).toNat * 2) 0 = _
    simp
  · unfold srR
    rw [if_pos hE, hn]
    unfold rdR
    rw [if_pos hdE, hdN]
    show (⟨2, 3, 1000, 0, stR P 2 s (mkN P (T : Int)), ⟨2, 1000, ((mkN P (T : Int) : Nat) : Int), (R : Int) + (n : Int), ((ooL P 2 s (mkN P (T : Int))).drop (R * 2)).drop ((n : Int).toNat * 2)⟩, IntKind.i64.wrap ((R : Int) + (n : Int)), (T : Int), 0⟩ : Sm) = grS P s T (R + n)
    rw [IntWalk.i64_in ((R : Int) + (n : Int)) (by omega), List.drop_drop, Int.toNat_natCast]
    unfold grS
    rw [show (R + n) * 2 = R * 2 + n * 2 by omega, Int.natCast_add]


theorem spec_gives20 (u p t : List UInt8) (f : Int) (hf : 0 ≤ f ∧ f ≤ 255) : Spec Try.prog 0 6 [vL (LB u), vL (LB p), vL (LB t), vI .u8 f] [] [] (vB true) [] [] := by
  refine spec_of_E (X := ⟨Try.prog, tt, Try.f6.ntmps, 1, fun _ => 0, (tab [(7, E_sane), (8, E_new), (9, E_base), (11, E_snew), (15, E_sdo), (12, E_wave), (26, E_sgive), (14, E_mcut), (16, E_rssame20), (27, E_sread), (18, E_join), (19, E_frames), (20, E_same)])⟩) (M := [(13, [0, 0, 0, 0, 0, 2722892557852964776459139346534837780239, 0, 0, 0, 0, 0, 2722892557852955407284037333158733807375, 0, 0]), (29, [0, 0, 0, 0, 0, 3916539298067742161305757654056699690767, 0, 0, 0, 0, 0, 3743739658615703097828262736220254895887, 0, 0]), (34, [0, 0, 0, 0, 0, 39203251561849963878688192915053622909992719, 0, 0, 0, 0, 0, 22303468091088476029243156411562286456241935, 0]), (35, [0, 0, 0, 0, 0, 181438865658137707732422311304405983137606926095, 0, 0, 0, 0, 0, 91343855056073990240618009482906602653446045455, 0])]) (m := 2722892557852887707438138913924950261519) rfl rfl ⟨tt_ok, tab_ok (tabs_cons E_sane_ok (tabs_cons E_new_ok (tabs_cons E_base_ok (tabs_cons E_snew_ok (tabs_cons E_sdo_ok (tabs_cons E_wave_ok (tabs_cons E_sgive_ok (tabs_cons E_mcut_ok (tabs_cons E_rssame20_ok (tabs_cons E_sread_ok (tabs_cons E_join_ok (tabs_cons E_frames_ok (tabs_cons E_same_ok tabs_nil))))))))))))) _ rfl rfl⟩ tt_mixed Try.func6 rfl (by decide) (by show (4 : Nat) ≤ _; exact Nat.le_of_ble_eq_true rfl) ⟨fun m hm => (V.bare_has rfl m hm).elim, by simp, by simp⟩ ?_
  simp only [↓gPre, gPost, gCore, gDef, Nat.reduceShiftRight, Nat.reduceMod, if_true, if_false, ↓reduceIte, reduceCtorEq, Nat.reduceEqDiff, Nat.reduceLT, Nat.reduceLeDiff, implies_true, forall_const, eq_self, ne_eq, not_true_eq_false, not_false_eq_true, imp_self, Nat.reduceAdd, Nat.reduceMul, Int.reduceLE, Int.reduceLT, Int.reduceNeg, Int.reduceAdd, Int.reduceToNat, E_sane_eq, E_new_eq, E_base_eq, E_snew_eq, E_sdo_eq, E_wave_eq, E_sgive_eq, E_mcut_eq, E_rssame20_eq, E_sread_eq, E_join_eq, E_frames_eq, E_same_eq, rg_eta, sm_eta, ph_eta, rs_eta, smD_eq, smC_eq, Try.ntmps6, Try.results6, gTT]
  refine fun h8 h0 => ?_
  have hph := ba_ok (u.take 300)
  have hpi := phV_in hph
  simp only at hpi
  have hg := of_decide_eq_false h0
  rw [IntWalk.i64_in (20 * baN (u.take 300)) (by omega)] at hg
  have hlens : p.length ≤ 8 ∧ t.length ≤ 8 := by
    simp only [Bool.or_eq_false_iff, decide_eq_false_iff_not] at h8
    omega
  have tf : 0 ≤ f.tmod 40 ∧ f.tmod 40 < 40 := by rw [Int.tmod_eq_emod_of_nonneg hf.1]; omega
  rw [IntWalk.i64_in (f.tmod 40) (by omega)]
  generalize hF0 : (f.tmod 40).toNat = F at *
  have hF : F ≤ 39 := by omega
  obtain ⟨n1, n2⟩ := new_ok (di := 2) (s0 := 0) (q := 1000) (ch := 2) hph (by decide) (by decide) (by decide) (.inr rfl)
  obtain ⟨n3, n4⟩ := start_ok (di := 2) (q := 1000) (ch := 2) hph (by decide) (by decide) (.inr rfl)
  have okn := nw_S (st := 1) (q := 1000) (s0 := 0) (di := 2) (ch := 2) hph (by decide) (by decide) (by decide) (by decide) (.inr rfl)
  generalize hP : (⟨baN (u.take 300), baD (u.take 300), 0, 0, 0⟩ : Ph) = P at *
  have hPn : baN (u.take 300) = P.n := by rw [← hP]
  have hPd : baD (u.take 300) = P.d := by rw [← hP]
  have H : giH P (waO 3 2 0 F) F := ⟨hph, by rw [← hP], by rw [← hP], waO_len _ _ _ _, waO_all _ _ _ _, hF, by rw [← hPn, ← hPd]; omega⟩
  have hz : nwS 2 2 (baN (u.take 300)) (baD (u.take 300)) 1000 0 3 = grS P ((waO 3 2 0 F).take (0 * 2)) 0 0 := by rw [gi_zero H, ← hP]; rfl
  rw [n1, n2, n3, n4, hz]
  generalize waO 3 2 0 F = B at *
  have hbt : B.take (F * 2) = B := by rw [← H.hb, List.take_length]
  have hca : cutK 2 B 0 F = B := by
    unfold cutK
    show (B.drop (0 * 2)).take ((F - 0) * 2) = B
    rw [Nat.zero_mul, List.drop_zero, Nat.sub_zero, hbt]
  obtain ⟨g1, g2, g3⟩ := gi_give H (T := 0) (m := F) (Nat.zero_le _) (Nat.le_refl _)
  rw [hca] at g1 g2 g3
  rw [hbt] at g3
  rw [g1, g2, g3]
  have hBd : B.length / 2 = F := by rw [H.hb, Nat.mul_div_cancel _ (by decide)]
  have hBle : B.length ≤ 100 := by have := H.hb; omega
  have hBb : blkV 2 B = true := blkV_mk (z := F) (by decide) H.hb (by omega) H.ha
  obtain ⟨l1, l2⟩ := gi_l H (T := 0) (Nat.zero_le _)
  have ok0 := (gr_V H (T := 0) (R := 0) (by decide) l1 l2 (Nat.zero_le _)).1
  rw [hBd]
  refine ⟨⟨okn.lr, okn.lg⟩, by decide, ⟨by omega, by omega⟩, ⟨ok0.lr, ok0.lg, by omega⟩, fun h => absurd h (by decide), fun _ => ⟨⟨by omega, hBb, by omega⟩, ?_⟩⟩
  have hch2 := chain_parts 2 B F p p.length
  have hpl : 1 ≤ (cqL 2 B F p p.length ++ [(2, cutK 2 B (cqP F p p.length) F)]).length ∧ (cqL 2 B F p p.length ++ [(2, cutK 2 B (cqP F p p.length) F)]).length ≤ 11 := by
    have := cqL_len 2 B F p p.length
    rw [List.length_append, List.length_singleton]
    omega
  generalize cqL 2 B F p p.length ++ [(2, cutK 2 B (cqP F p p.length) F)] = L at *
  refine ELoop_keep (fun g : Nat × Nat => ⟨[(91, vI .i64 (g.1 : Nat))], [(⟨1, 11⟩, [.d (.int .i64 (grS P (B.take (g.2 * 2)) g.2 0).di), .d (.int .i64 (grS P (B.take (g.2 * 2)) g.2 0).st), .d (.int .i64 (grS P (B.take (g.2 * 2)) g.2 0).q), .d (.int .i64 (grS P (B.take (g.2 * 2)) g.2 0).s0), .d (.int .i64 (grS P (B.take (g.2 * 2)) g.2 0).r.c), .d (.int .i64 (grS P (B.take (g.2 * 2)) g.2 0).r.p.n), .d (.int .i64 (grS P (B.take (g.2 * 2)) g.2 0).r.p.d), .d (.int .i64 (grS P (B.take (g.2 * 2)) g.2 0).r.p.a), .d (.int .i64 (grS P (B.take (g.2 * 2)) g.2 0).r.p.p), .d (.int .i64 (grS P (B.take (g.2 * 2)) g.2 0).r.p.f), .d (.list (LI .i32 (grS P (B.take (g.2 * 2)) g.2 0).r.l)), .d (.int .i64 (grS P (B.take (g.2 * 2)) g.2 0).g.c), .d (.int .i64 (grS P (B.take (g.2 * 2)) g.2 0).g.q), .d (.int .i64 (grS P (B.take (g.2 * 2)) g.2 0).g.w), .d (.int .i64 (grS P (B.take (g.2 * 2)) g.2 0).g.r), .d (.list (LI .i32 (grS P (B.take (g.2 * 2)) g.2 0).g.l)), .d (.int .i64 (grS P (B.take (g.2 * 2)) g.2 0).wr), .d (.int .i64 (grS P (B.take (g.2 * 2)) g.2 0).pl), .d (.int .i64 (grS P (B.take (g.2 * 2)) g.2 0).mi)])], []⟩) (fun g => g.1 ≤ L.length ∧ g.2 ≤ F ∧ chain 2 B F g.2 (L.drop g.1)) (fun g => L.length - g.1) (fun g => (g.1 + 1, g.2 + (L[g.1]?.getD (0, [])).2.length / 2)) (0, 0) ⟨Nat.zero_le _, Nat.zero_le _, hch2⟩ ?_ ?_
  · simp only [↓gPre, gPost, gCore, gDef, Nat.reduceShiftRight, Nat.reduceMod, if_true, if_false, ↓reduceIte, reduceCtorEq, Nat.reduceEqDiff, Nat.reduceLT, Nat.reduceLeDiff, implies_true, forall_const, eq_self, ne_eq, not_true_eq_false, not_false_eq_true, imp_self, Nat.reduceAdd, Nat.reduceMul, Int.reduceLE, Int.reduceLT, Int.reduceNeg, Int.reduceAdd, Int.reduceToNat, E_sane_eq, E_new_eq, E_base_eq, E_snew_eq, E_sdo_eq, E_wave_eq, E_sgive_eq, E_mcut_eq, E_rssame20_eq, E_sread_eq, E_join_eq, E_frames_eq, E_same_eq, rg_eta, sm_eta, ph_eta, rs_eta, smD_eq, smC_eq, Try.ntmps6, Try.results6, gTT]
    first | exact rfl | exact ⟨rfl, rfl, rfl, rfl, rfl, rfl, rfl, rfl, rfl, rfl, rfl, rfl, rfl, rfl, rfl, rfl, rfl, rfl, rfl, rfl⟩
  rintro ⟨i, q⟩ ⟨hi, hq, hc⟩
  simp only [↓gPre, gPost, gCore, gDef, Nat.reduceShiftRight, Nat.reduceMod, if_true, if_false, ↓reduceIte, reduceCtorEq, Nat.reduceEqDiff, Nat.reduceLT, Nat.reduceLeDiff, implies_true, forall_const, eq_self, ne_eq, not_true_eq_false, not_false_eq_true, imp_self, Nat.reduceAdd, Nat.reduceMul, Int.reduceLE, Int.reduceLT, Int.reduceNeg, Int.reduceAdd, Int.reduceToNat, E_sane_eq, E_new_eq, E_base_eq, E_snew_eq, E_sdo_eq, E_wave_eq, E_sgive_eq, E_mcut_eq, E_rssame20_eq, E_sread_eq, E_join_eq, E_frames_eq, E_same_eq, rg_eta, sm_eta, ph_eta, rs_eta, smD_eq, smC_eq, Try.ntmps6, Try.results6, gTT]
  replace hi : i ≤ L.length := hi
  replace hq : q ≤ F := hq
  replace hc : chain 2 B F q (L.drop i) := hc
  obtain ⟨q1, q2⟩ := gi_l H (T := q) hq
  have okq := (gr_V H (T := q) (R := 0) (by omega) q1 q2 (Nat.zero_le _)).1
  refine ⟨fun h1 => ?_, fun h1 => ?_⟩
  · have hlt : i < L.length := by have := of_decide_eq_true h1; omega
    rw [List.drop_eq_getElem_cons hlt] at hc
    obtain ⟨m, m1, m2, m3, m4⟩ := hc
    have hgx : L[i]?.getD (0, []) = (2, cutK 2 B q m) := by rw [List.getElem?_eq_getElem hlt]; exact m3
    have hcl : (cutK 2 B q m).length = (m - q) * 2 := cutK_len (f := q) (show m * (2 : Int).toNat ≤ B.length by rw [H.hb]; exact Nat.mul_le_mul_right _ m2)
    have hdl : (cutK 2 B q m).length / 2 = m - q := by rw [hcl]; exact Nat.mul_div_cancel _ (by decide)
    have hqm : q + (m - q) = m := by omega
    obtain ⟨v1, v2, v3⟩ := gi_give H (T := q) (m := m) m1 m2
    rw [hgx]
    simp only [hdl, hqm]
    rw [v1, v2, v3]
    exact ⟨⟨by omega, by omega⟩, ⟨okq.lr, okq.lg, by omega⟩, fun h => absurd h (by decide), fun _ => ⟨⟨(wrapN _ (by omega)).symm, rfl, rfl, rfl, rfl, rfl, rfl, rfl, rfl, rfl, rfl, rfl, rfl, rfl, rfl, rfl, rfl, rfl, rfl, rfl⟩, ⟨by omega, m2, m4⟩, by omega⟩⟩
  · have hil : i = L.length := by have := of_decide_eq_false h1; omega
    rw [hil, List.drop_length] at hc
    have hqF : q = F := hc
    subst hqF
    rw [hbt]
    have hM := gi_few H hF
    generalize hMM : mkN P (q : Int) = M at *
    have okR : ∀ R : Nat, R ≤ M → okS (grS P B q R) 2 2 1 := fun R hR => (gr_V H (T := q) (R := R) hF (by rw [H.hb]) H.ha (by rw [hMM]; exact hR)).1
    have okz := okR 0 (Nat.zero_le _)
    refine ⟨⟨by have := okz.lr; omega, by have := okz.lg; omega⟩, fun h => ?_, fun _ => ?_⟩
    · simp at h
    refine ELoop_keep (fun g : Nat × Nat => ⟨[(117, vI .i64 (g.1 : Nat))], [(⟨1, 11⟩, [.d (.int .i64 (grS P B q g.2).di), .d (.int .i64 (grS P B q g.2).st), .d (.int .i64 (grS P B q g.2).q), .d (.int .i64 (grS P B q g.2).s0), .d (.int .i64 (grS P B q g.2).r.c), .d (.int .i64 (grS P B q g.2).r.p.n), .d (.int .i64 (grS P B q g.2).r.p.d), .d (.int .i64 (grS P B q g.2).r.p.a), .d (.int .i64 (grS P B q g.2).r.p.p), .d (.int .i64 (grS P B q g.2).r.p.f), .d (.list (LI .i32 (grS P B q g.2).r.l)), .d (.int .i64 (grS P B q g.2).g.c), .d (.int .i64 (grS P B q g.2).g.q), .d (.int .i64 (grS P B q g.2).g.w), .d (.int .i64 (grS P B q g.2).g.r), .d (.list (LI .i32 (grS P B q g.2).g.l)), .d (.int .i64 (grS P B q g.2).wr), .d (.int .i64 (grS P B q g.2).pl), .d (.int .i64 (grS P B q g.2).mi)]), (⟨1, 23⟩, [.d (.int .i64 2), .d (.list (LI .i32 ((ooL P 2 B M).take (g.2 * 2))))])], []⟩) (fun g => g.1 ≤ t.length ∧ g.2 ≤ M) (fun g => t.length - g.1) (fun g => (g.1 + 1, g.2 + min ((t[g.1]?.getD 0).toNat % 20) (M - g.2))) (0, 0) ⟨Nat.zero_le _, Nat.zero_le _⟩ ?_ ?_
    · simp only [↓gPre, gPost, gCore, gDef, Nat.reduceShiftRight, Nat.reduceMod, if_true, if_false, ↓reduceIte, reduceCtorEq, Nat.reduceEqDiff, Nat.reduceLT, Nat.reduceLeDiff, implies_true, forall_const, eq_self, ne_eq, not_true_eq_false, not_false_eq_true, imp_self, Nat.reduceAdd, Nat.reduceMul, Int.reduceLE, Int.reduceLT, Int.reduceNeg, Int.reduceAdd, Int.reduceToNat, E_sane_eq, E_new_eq, E_base_eq, E_snew_eq, E_sdo_eq, E_wave_eq, E_sgive_eq, E_mcut_eq, E_rssame20_eq, E_sread_eq, E_join_eq, E_frames_eq, E_same_eq, rg_eta, sm_eta, ph_eta, rs_eta, smD_eq, smC_eq, Try.ntmps6, Try.results6, gTT]
      rfl
    rintro ⟨j, R⟩ ⟨hj, hR⟩
    simp only [↓gPre, gPost, gCore, gDef, Nat.reduceShiftRight, Nat.reduceMod, if_true, if_false, ↓reduceIte, reduceCtorEq, Nat.reduceEqDiff, Nat.reduceLT, Nat.reduceLeDiff, implies_true, forall_const, eq_self, ne_eq, not_true_eq_false, not_false_eq_true, imp_self, Nat.reduceAdd, Nat.reduceMul, Int.reduceLE, Int.reduceLT, Int.reduceNeg, Int.reduceAdd, Int.reduceToNat, E_sane_eq, E_new_eq, E_base_eq, E_snew_eq, E_sdo_eq, E_wave_eq, E_sgive_eq, E_mcut_eq, E_rssame20_eq, E_sread_eq, E_join_eq, E_frames_eq, E_same_eq, rg_eta, sm_eta, ph_eta, rs_eta, smD_eq, smC_eq, Try.ntmps6, Try.results6, gTT]
    replace hj : j ≤ t.length := hj
    replace hR : R ≤ M := hR
    have hkm : IntKind.i64.wrap ((((t[j]?.getD 0).toNat : Nat) : Int).tmod 20) = (((t[j]?.getD 0).toNat % 20 : Nat) : Int) := by
      rw [Int.tmod_eq_emod_of_nonneg (Int.natCast_nonneg _), IntWalk.i64_in _ (by omega)]
      omega
    rw [hkm]
    have hol : (ooL P 2 B M).length = M * 2 := ooL_len ..
    have hoa := ooL_all H.hp 2 H.ha M (by omega)
    have htl : (List.take (R * 2) (ooL P 2 B M)).length = R * 2 := by rw [List.length_take, hol]; omega
    have okr := okR R hR
    refine ⟨fun h1 => ?_, fun h1 => ?_⟩
    · have hk20 : (t[j]?.getD 0).toNat % 20 ≤ 19 := by omega
      generalize (t[j]?.getD 0).toNat % 20 = k at *
      obtain ⟨r1, r2, r3, r4⟩ := gi_read H (T := q) (R := R) (i := k) hF H.hb H.ha (by rw [hMM]; exact hR) (by omega)
      rw [hMM] at r3 r4
      have h1' := of_decide_eq_true h1
      have hap : List.take (R * 2) (ooL P 2 B M) ++ ((ooL P 2 B M).drop (R * 2)).take (min k (M - R) * 2) = List.take ((R + min k (M - R)) * 2) (ooL P 2 B M) := by
        rw [Nat.add_mul, List.take_add]
      rw [r1, r3, r4]
      refine ⟨⟨by omega, h1'⟩, by decide, ⟨okr.lr, okr.lg⟩, fun h => absurd h (by decide), fun _ => ⟨by kernel_rfl, ?_, ⟨(wrapN _ (by omega)).symm, ⟨rfl, rfl, rfl, rfl, rfl, rfl, rfl, rfl, rfl, rfl, rfl, rfl, rfl, rfl, rfl, rfl, rfl, rfl, rfl⟩, hap.symm⟩, ⟨by omega, by omega⟩, by omega⟩⟩
      rw [← List.length_append, hap, List.length_take]
      omega
    · have htb : blkV 2 (List.take (R * 2) (ooL P 2 B M)) = true := blkV_mk (z := R) (by decide) htl (by omega) (by
        rw [List.all_eq_true]
        intro x hx
        exact List.all_eq_true.1 hoa x (List.mem_of_mem_take hx))
      obtain ⟨r1, r2, r3, r4⟩ := gi_read H (T := q) (R := 0) (i := R) hF H.hb H.ha (Nat.zero_le _) (by omega)
      rw [hMM, Nat.sub_zero, Nat.min_eq_left hR, Nat.zero_mul, List.drop_zero] at r3
      rw [hMM, Nat.sub_zero, Nat.min_eq_left hR, Nat.zero_add] at r4
      rw [if_pos htb, htl, Nat.mul_div_cancel _ (by decide), r1, r2, r3, r4]
      refine ⟨by kernel_rfl, by omega, ⟨okz.lr, okz.lg⟩, fun _ => ⟨by have := okr.lr; omega, by have := okr.lg; omega⟩, fun _ => by omega, ?_⟩
      simp

end Go.Vam
