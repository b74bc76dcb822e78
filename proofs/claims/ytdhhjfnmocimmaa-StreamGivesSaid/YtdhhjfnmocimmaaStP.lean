/- The reference's Do. Conditions: none. -/
import Derived.Test.YtdhhjfnmocimmaaStO
set_option linter.unusedVariables false
set_option linter.defProp false
set_option linter.unusedSimpArgs false
set_option maxRecDepth 40000
set_option maxHeartbeats 4000000
namespace Go.Vam
open Go.Proofs

theorem smB_mk {x : Sm} (h1 : 1 ≤ x.st ∧ x.st ≤ 7) (h2 : 1 ≤ x.q ∧ x.q ≤ 65536) (h3 : 0 ≤ x.s0 ∧ x.s0 ≤ x.q) (h4 : rsV x.r = true) (h5 : x.r.p.a = 0) (h6 : 0 ≤ x.wr) (h7 : 0 ≤ x.pl) (h8 : 0 ≤ x.mi) : smB x = true := by
  simp only [smB, Bool.and_eq_true, decide_eq_true_eq, beq_iff_eq]
  exact ⟨⟨⟨⟨⟨⟨⟨⟨⟨⟨h1.1, h1.2⟩, h2.1⟩, h2.2⟩, h3.1⟩, h3.2⟩, h4⟩, h5⟩, h6⟩, h7⟩, h8⟩
theorem smV_1 {x : Sm} (hB : smB x = true) (hd : x.di = 1) (hw : waN x.r ≤ x.q) (hg : noG x.g = true) : smV x = true := by
  unfold smV
  rw [hB, if_pos hd, hg, decide_eq_true hw]
  rfl
theorem smV_2 {x : Sm} (hB : smB x = true) (hd : x.di = 2) (hg : rgV x.g = true) (hq : x.g.q = x.q) (hc : x.g.c = x.r.c) : smV x = true := by
  unfold smV
  rw [hB, if_neg (by omega), if_pos hd, hg, hq, hc]
  simp

theorem smV_set {x : Sm} {s : Int} (h : smV x = true) (hs : 1 ≤ s ∧ s ≤ 7) : smV (setS x s) = true := by
  have hb := smB_in (smV_in h).1
  have hB : smB (setS x s) = true := smB_mk hs hb.2.1 hb.2.2.1 hb.2.2.2.1 hb.2.2.2.2.1 hb.2.2.2.2.2.1 hb.2.2.2.2.2.2.1 hb.2.2.2.2.2.2.2
  rcases (smV_in h).2 with hg | hg
  · exact smV_1 hB hg.1 hg.2.1 hg.2.2
  · exact smV_2 hB hg.1 hg.2.1 hg.2.2.1 hg.2.2.2
theorem smN_set {x : Sm} {s : Int} (h : smV x = true) (hs : 1 ≤ s ∧ s ≤ 7) : smN (setS x s) = smN x := by
  unfold smN
  rw [smV_set h hs, h]
  rfl


end Go.Vam
