/- The reference's Take. Conditions: none. -/
import Derived.Test.YtdhhjfnmocimmaaStN
set_option linter.unusedVariables false
set_option linter.defProp false
set_option linter.unusedSimpArgs false
set_option maxRecDepth 40000
set_option maxHeartbeats 4000000
namespace Go.Vam
open Go.Proofs

theorem outO_all {x : Rs} (h : phV x.p = true) (ha : x.l.all smpX = true) : ∀ n : Nat, n ≤ 65536 → (outO x n).all smpX = true
  | 0, _ => rfl
  | n + 1, hn => by
    have e : outO x (n + 1) = outO x n ++ outF x n x.c.toNat := rfl
    rw [e, List.all_append, outO_all h ha n (by omega), Bool.true_and, List.all_eq_true]
    intro z hz
    unfold outF at hz
    rw [List.mem_map] at hz
    obtain ⟨j, _, rfl⟩ := hz
    have hp := prt_in h
    have hq := qAt_in h (n := (n : Int)) (by omega)
    have := btw_in (a := gx x (qN x.p n) j) (b := gx x (qN x.p n + 1) j) (f := fAt x.p n) (P := prt x.p) (by omega) ⟨hq.2.1, hq.2.2.1⟩ (smp_get ha _) (smp_get ha _)
    simp only [smpX, Bool.and_eq_true, decide_eq_true_eq]
    exact this

end Go.Vam
