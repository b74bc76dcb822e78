/- The value-level machine, part 20: from a function's contract to a row's step. Conditions: none. -/
import Derived.Test.YtmliamkbpbdlbaaVamEval
import Derived.ChangeSame
import Derived.WalkKit
import Derived.ProofKit
import Derived.OpenShut
import Derived.ShutString
set_option linter.unusedVariables false
set_option linter.unusedSimpArgs false
namespace Go.Vam
open Go.ChangeShapes Go.WideShapes

theorem Ext.kept {w w' : World} (h : Ext (fun _ => False) w w') (may : MemPlace → Prop) : w.keptBut w' may := by
  refine ⟨h.os, h.output, fun i hi => ?_⟩
  have e := h.block i hi (fun h => h)
  rw [e]
  cases hw : w.heap[i]? with
  | none => trivial
  | some o => cases o <;> simp

theorem Ext.frozenAt {w w' : World} (h : Ext (fun _ => False) w w') (a : Addr) (ha : a.block < w.heap.size) : w'.frozen? a = w.frozen? a := by
  simp only [World.frozen?, h.block a.block ha (fun h => h)]

section
variable {H : Type} {enc : TypeId × Value → H} {P : Program}

/-- What a call leaves that wrote into new blocks alone. -/
theorem post_of_ext {f : Func} {s : ChangeSpec} {apart fresh handsOn again : Bool} {W W' : World} {args : Array Value} {v : Value} {ds gs : List (DataW H)} {before pa pv : List MemPlace}
    (hW : DataW.Whole enc P f.params.toList s.vars apart W args.toList ds gs before)
    (hres : ∀ (b : Nat) (sp : Nat → Bool) (hd : Bool), DataW.TrodAll enc P W' b sp hd f.resultTypes.toList (v.resultList f.resultTypes.size) (s.fn H (ds ++ gs)).results [])
    (hargs : ∀ sp : Nat → Bool, (∀ p ∈ before, sp p.block = true) → DataW.TrodAll enc P W' 0 sp true f.params.toList args.toList (s.fn H (ds ++ gs)).args pa)
    (hvars : ∀ sp : Nat → Bool, (∀ p ∈ before, sp p.block = true) → DataW.TrodVars enc P W' sp s.vars (s.fn H (ds ++ gs)).vars pv)
    (hps : before = pa ++ pv) (hE : Ext (fun _ => False) W W')
    (hok : ∀ (j : Nat) (t : TypeId) (r : Value), f.resultTypes[j]? = some t → (v.resultList f.resultTypes.size)[j]? = some r → Value.okWide P W' .any 0 t r) :
    s.post enc P f apart fresh handsOn again W args v W' := by
  have hlt : ∀ p ∈ before, p.block < W.heap.size := fun p hp => hW.lt p hp
  have hold : ∀ p ∈ before, (fun b => decide (b < W.heap.size)) p.block = true := fun p hp => by simpa using hlt p hp
  refine ⟨ds, gs, before, [], pa, pv, hW, hres _ _ _, hargs _ hold, hvars _ hold, World.keptBut_mono (fun p hp => ⟨hp, ?_⟩) (hE.kept (· ∈ before)), fun _ => ?_⟩
  · rw [hps, List.mem_append] at hp
    exact Or.inr hp
  · obtain ⟨_, _, _, _, _, hz, hn⟩ := hW
    refine ⟨hok, _, _, ([] ++ pa) ++ pv, ⟨[] ++ pa, pv, trodAll_append (hargs _ (fun _ _ => rfl)) (hres _ _ _), hvars _ (fun _ _ => rfl), rfl, ?_, ?_⟩, ?_⟩
    · intro b off hp
      have hb : MemPlace.cell b off ∈ before := by rw [hps]; simpa using hp
      have := hlt _ hb
      rw [hE.frozenAt ⟨b, off, none⟩ this]
      exact hz b off hb
    · intro ha
      have := hn ha
      rw [hps] at this
      simpa using this
    · intro p hp _
      rw [hps]
      simpa using hp
end

/-- The places when nothing is owned. -/
def ℓ0 : Loc := ⟨fun _ => 0, fun _ => undef, fun _ => 0⟩

theorem memOK_nil {ok : Foot} {w : World} (h : ∀ x o, ok x o → x < w.heap.size) : MemOK ok ℓ0 [] [] w := by
  refine ⟨by simp [lk], by simp [lk], by simp [lk], by simp [lk], fun n m x hn => ?_, h⟩
  rcases hn with ⟨h, _⟩ | ⟨_, h, _⟩ | ⟨_, h, _⟩ <;> simp [lk] at h

/-- A law: true, whatever the input. -/
theorem law_of_spec {P : Program} {f : FuncId} {fn : Func} {c : Code} {lv : Nat} {args : List V} (h : Spec P lv f args [] [] (vB true) [] [])
    (hf : P.funcs[f]? = some fn) (hb : fn.body = some c) (hname : (fn.name == "runtime.NumGoroutine") = false) {w : World} {us : Array Value} (hus : RVs (fun x _ => x < w.heap.size) ℓ0 w us args) :
    Calls P f us w fun e w' => e = .returned (.bool true) ∧ Ext (fun _ => False) w w' := by
  have hc := h.2 w (fun x _ => x < w.heap.size) ℓ0 us (memOK_nil (fun _ _ h => h)) hus
  have henter : (callFunc f us).run P w = .ok (.enter f us) w := by
    simp only [beq_eq_false_iff_ne, ne_eq] at hname
    simp [callFunc, hf, hname, hb]
  rcases hc with ⟨_, h2⟩ | ⟨v, w', h1, _⟩
  · refine h2.mono ?_
    rintro e w' ⟨u, ok', ℓ', rfl, hp⟩
    have hv := hp.val
    simp only [RV, RC] at hv
    refine ⟨by rw [hv.1.bool_inv], hp.ext.mono ?_⟩
    rintro x ⟨n, hn⟩
    rcases hn with ⟨h, _⟩ | ⟨_, h, _⟩ | ⟨_, h, _⟩ <;> simp [lk] at h
  · rw [henter] at h1; cases h1

theorem rvs_nil {ok : Foot} {ℓ : Loc} {w : World} : RVs ok ℓ w #[] [] := ⟨rfl, by simp⟩
theorem rvs_cons {ok : Foot} {ℓ : Loc} {w : World} {u : Value} {v : V} {us : List Value} {vs : List V} (h : RV ok ℓ w u v) (hs : RVs ok ℓ w us.toArray vs) : RVs ok ℓ w (u :: us).toArray (v :: vs) := by
  refine ⟨by simpa using hs.1, fun i x y hx hy => ?_⟩
  cases i with
  | zero => simp at hx hy; subst hx; subst hy; exact h
  | succ i => simp at hx hy; exact hs.2 i x y (by simpa using hx) hy
theorem rv_int {ok : Foot} {ℓ : Loc} {w : World} {k : IntKind} {n : Int} : RV ok ℓ w (.int k n) (vI k n) := ⟨.int _ _, rfl⟩
theorem rv_bool {ok : Foot} {ℓ : Loc} {w : World} {b : Bool} : RV ok ℓ w (.bool b) (vB b) := ⟨.bool _, rfl⟩


/-! ### What an argument's range is -/
theorem wf_i8 {n : Int} (h : (Lit.int .i8 n).wf = true) : -128 ≤ n ∧ n ≤ 127 := by
  simpa [Lit.wf, IntKind.min, IntKind.max, IntKind.signed, IntKind.bits] using h
theorem wf_i16 {n : Int} (h : (Lit.int .i16 n).wf = true) : -32768 ≤ n ∧ n ≤ 32767 := by
  simpa [Lit.wf, IntKind.min, IntKind.max, IntKind.signed, IntKind.bits] using h
theorem wf_i32 {n : Int} (h : (Lit.int .i32 n).wf = true) : -2147483648 ≤ n ∧ n ≤ 2147483647 := by
  simpa [Lit.wf, IntKind.min, IntKind.max, IntKind.signed, IntKind.bits] using h
theorem wf_i64 {n : Int} (h : (Lit.int .i64 n).wf = true) : -9223372036854775808 ≤ n ∧ n ≤ 9223372036854775807 := by
  simpa [Lit.wf, IntKind.min, IntKind.max, IntKind.signed, IntKind.bits] using h
theorem wf_u8 {n : Int} (h : (Lit.int .u8 n).wf = true) : 0 ≤ n ∧ n ≤ 255 := by
  simpa [Lit.wf, IntKind.min, IntKind.max, IntKind.signed, IntKind.bits] using h
theorem wf_u16 {n : Int} (h : (Lit.int .u16 n).wf = true) : 0 ≤ n ∧ n ≤ 65535 := by
  simpa [Lit.wf, IntKind.min, IntKind.max, IntKind.signed, IntKind.bits] using h
theorem wf_u32 {n : Int} (h : (Lit.int .u32 n).wf = true) : 0 ≤ n ∧ n ≤ 4294967295 := by
  simpa [Lit.wf, IntKind.min, IntKind.max, IntKind.signed, IntKind.bits] using h
theorem wf_u64 {n : Int} (h : (Lit.int .u64 n).wf = true) : 0 ≤ n ∧ n ≤ 18446744073709551615 := by
  simpa [Lit.wf, IntKind.min, IntKind.max, IntKind.signed, IntKind.bits] using h

end Go.Vam
