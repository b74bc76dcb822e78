/- The value-level machine, part 18: the contract of a function from the weakest demand of its body. Conditions: none. -/
import Derived.Test.YtmliamkbpbdlbaaVamCode
set_option linter.unusedVariables false
set_option linter.unusedSimpArgs false
namespace Go.Vam

def argT : Nat → List V → List (Nat × V)
  | _, [] => []
  | i, v :: vs => (i, v) :: argT (i + 1) vs

theorem argT_get : ∀ (vs : List V) (i t : Nat) (v : V), lk (argT i vs) t = some v → i ≤ t ∧ vs[t - i]? = some v
  | [], _, _, _, h => by cases h
  | v :: vs, i, t, v', h => by
    by_cases e : i = t
    · subst e; rw [argT, lk_cons_same] at h; cases h; simp
    · rw [argT, lk_cons_ne _ _ e] at h
      obtain ⟨h1, h2⟩ := argT_get vs (i + 1) t v' h
      refine ⟨by omega, ?_⟩
      rw [show t - i = (t - (i + 1)) + 1 by omega, List.getElem?_cons_succ]
      exact h2

/-- A result. -/
def resV (X : Ctx) (st : St) : ResultVar → Option V
  | .tmp t => lk st.t t
  | .cell a T => match lk st.t a, X.tt T with
    | some (.c (.lp n off)), some ti => match lk st.b n with
      | some cs => partV ti cs off
      | none => none
    | _, _ => none

def resVs (X : Ctx) (st : St) : List ResultVar → Option (List V)
  | [] => some []
  | r :: rs => match resV X st r, resVs X st rs with
    | some v, some vs => some (v :: vs)
    | _, _ => none

/-- Values as a tuple of cells. -/
def tsS : List V → Option (List (Option Nat))
  | [] => some []
  | .c _ :: vs => (tsS vs).map (none :: ·)
  | .agg cs :: vs => (tsS vs).map (some cs.length :: ·)
  | _ :: _ => none
def tsC : List V → List C
  | [] => []
  | .c x :: vs => x :: tsC vs
  | .agg cs :: vs => cs ++ tsC vs
  | _ :: vs => tsC vs
def tupV (r : V) (vs : List V) : Option V := match r with
  | .ts _ _ => (tsS vs).map fun sh => .ts sh (tsC vs)
  | _ => (toDs vs).map .tup

def retV (X : Ctx) (r : V) (rs : List ResultVar) (st : St) : Option V :=
  match rs with
  | [x] => resV X st x
  | rs => match resVs X st rs with
    | some vs => tupV r vs
    | none => none

/-- What the state says at the end. -/
def FinQ (X : Ctx) (rs : List ResultVar) (r : V) (b' : Boxes) (k' : Toks) (st : St) : Prop :=
  (match retV X r rs st with
    | some v => leV r v
    | none => False) ∧ subB b' st.b ∧ subK k' st.k

def retQ (X : Ctx) (rs : List ResultVar) (r : V) (b' : Boxes) (k' : Toks) : Exit → St → Prop
  | .normal, st => ∃ st', Sub X st' st ∧ FinQ X rs r b' k' st'
  | .ret, st => ∃ st', Sub X st' st ∧ FinQ X rs r b' k' st'
  | _, _ => False

def resRun (tmps : Array Value) : ResultVar → Sem Value
  | .tmp t => pure (tmps.getD t undef)
  | .cell a t => do loadVar t (← asAddr (tmps.getD a undef))

theorem results_eq (fn : Func) (tmps : Array Value) : results fn tmps = (do
  let vs ← fn.results.mapM (resRun tmps)
  pure (if h : vs.size = 1 then vs[0] else .tuple vs)) := by
  unfold results
  congr 1

theorem resV_run {X : Ctx} (hT : TOk X) {S : Start} {ok ℓ st a w} (hs : SimW X S ok ℓ st a w) {rv : ResultVar} {v : V} (h : resV X st rv = some v) :
    ∃ u, (resRun a.tmps rv).run X.P w = .ok u w ∧ RV ok ℓ w u v := by
  cases rv with
  | tmp t =>
    obtain ⟨u, hu, hr⟩ := hs.tmps t v h
    have : a.tmps.getD t undef = u := by simp [hu]
    exact ⟨u, by simp [resRun, hu], hr⟩
  | cell x t =>
    simp only [resV] at h
    split at h
    case h_2 => cases h
    rename_i n off ti h1 hti
    split at h
    case h_2 => cases h
    rename_i cs h2
    obtain ⟨u, hu, hr⟩ := hs.tmps x _ h1
    simp only [RV, RC] at hr
    subst hr
    obtain ⟨vs, T, h8, h9, _⟩ := hs.mem.box n cs h2
    obtain ⟨i, d, z, hto⟩ := TI.ok (hT t ti hti)
    obtain ⟨h10, h11⟩ := partV_cells h9 h
    by_cases ha : ti.agg = true
    · obtain ⟨us, hl, hcell, hrv⟩ := h10 ha
      refine ⟨_, ?_, hrv⟩
      simp [resRun, hu, asAddr, run_loadVar_agg hto ha hl (fun j u hu => by rw [cell_row h8]; exact hcell j u hu)]
    · have ha' : ti.agg = false := by simpa using ha
      obtain ⟨u, hu', hrv⟩ := h11 ha'
      refine ⟨u, ?_, hrv⟩
      simp [resRun, hu, asAddr, run_loadVar_one hto ha' (show w.cell? ⟨ℓ.i n, off, none⟩ = some u by rw [cell_row h8]; exact hu')]

theorem rv_toD {ok : Foot} {ℓ : Loc} {w : World} {u : Value} {v : V} {x : D} (h : RV ok ℓ w u v) (hx : v.toD = some x) : Rep ok w u x := by
  cases v with
  | c y => exact (RC.toD h hx).1
  | agg cs =>
    simp only [V.toD, Option.map_eq_some_iff] at hx
    obtain ⟨ds, hds, rfl⟩ := hx
    obtain ⟨vs, rfl, hr⟩ := h
    obtain ⟨h1, h2⟩ := hr.toDs hds
    exact .agg _ _ h1.symm (fun y hy => by obtain ⟨j, hj⟩ := List.getElem?_of_mem hy; exact (h2 j y hj).1) (fun i u y hu hy => by obtain ⟨_, u', hu', h⟩ := h2 i y hy; rw [hu] at hu'; cases hu'; exact h)
  | _ => simp [V.toD] at hx

theorem resVs_run {X : Ctx} (hT : TOk X) {S : Start} {ok ℓ st a w} (hs : SimW X S ok ℓ st a w) : ∀ (rs : List ResultVar) (vs : List V), resVs X st rs = some vs →
    ∃ us : List Value, (rs.mapM (resRun a.tmps)).run X.P w = .ok us w ∧ us.length = vs.length ∧ ∀ (i : Nat) u v, us[i]? = some u → vs[i]? = some v → RV ok ℓ w u v
  | [], vs, h => by simp only [resVs, Option.some.injEq] at h; subst h; exact ⟨[], by simp, rfl, by simp⟩
  | r :: rs, vs, h => by
    simp only [resVs] at h
    split at h
    case h_2 => cases h
    rename_i v vs' hv hvs
    cases h
    obtain ⟨u, hu, hr⟩ := resV_run hT hs hv
    obtain ⟨us, hus, hl, hall⟩ := resVs_run hT hs rs vs' hvs
    refine ⟨u :: us, ?_, by simp [hl], fun i x y hx hy => ?_⟩
    · rw [List.mapM_cons]
      simp only [Sem.run_bind, hu, Result.andThen_ok, hus]
      rfl
    · cases i with
      | zero => simp at hx hy; subst hx; subst hy; exact hr
      | succ i => simp at hx hy; exact hall i x y hx hy

theorem resVs_len {X : Ctx} {st : St} : ∀ (rs : List ResultVar) (vs : List V), resVs X st rs = some vs → vs.length = rs.length
  | [], vs, h => by simp only [resVs, Option.some.injEq] at h; subst h; rfl
  | r :: rs, vs, h => by
    simp only [resVs] at h
    split at h
    case h_2 => cases h
    rename_i v vs' hv hvs
    cases h
    simp [resVs_len rs vs' hvs]

theorem tsC_rep {ok ℓ w} : ∀ (us : List Value) (vs : List V) (sh : List (Option Nat)), us.length = vs.length → (∀ (i : Nat) u v, us[i]? = some u → vs[i]? = some v → RV ok ℓ w u v) → tsS vs = some sh → ∃ fs : List Value, tupOf sh fs = us ∧ RCs ok ℓ w fs.toArray (tsC vs)
  | [], [], sh, _, _, e => by simp only [tsS, Option.some.injEq] at e; subst e; exact ⟨[], rfl, by simp [tsC, RCs]⟩
  | [], _ :: _, _, h, _, _ => by simp at h
  | _ :: _, [], _, h, _, _ => by simp at h
  | u :: us, .c x :: vs, sh, hl, hr, e => by
    simp only [tsS, Option.map_eq_some_iff] at e
    obtain ⟨sh, e, rfl⟩ := e
    obtain ⟨fs, h1, h2, h3⟩ := tsC_rep us vs sh (by simpa using hl) (fun i u v hu hv => hr (i + 1) u v (by simpa using hu) (by simpa using hv)) e
    refine ⟨u :: fs, by simp [tupOf, h1], by simpa [tsC] using h2, fun i z c hz hc => ?_⟩
    cases i with
    | zero => simp [tsC] at hz hc; subst hz; subst hc; exact hr 0 u (.c x) rfl rfl
    | succ i => exact h3 i z c (by simpa using hz) (by simpa [tsC] using hc)
  | u :: us, .agg cs :: vs, sh, hl, hr, e => by
    simp only [tsS, Option.map_eq_some_iff] at e
    obtain ⟨sh, e, rfl⟩ := e
    obtain ⟨fs, h1, h2, h3⟩ := tsC_rep us vs sh (by simpa using hl) (fun i u v hu hv => hr (i + 1) u v (by simpa using hu) (by simpa using hv)) e
    obtain ⟨as, ha, hb, hc⟩ := hr 0 u (.agg cs) rfl rfl
    have hal : as.toList.length = cs.length := by simpa using hb
    refine ⟨as.toList ++ fs, ?_, by simp [tsC, hb] at h2 ⊢; omega, fun i z c hz hcc => ?_⟩
    · simp only [tupOf]
      rw [List.take_left' hal, List.drop_left' hal, h1, ha]
    · simp only [tsC, List.getElem?_toArray] at hz hcc
      by_cases hi : i < cs.length
      · rw [List.getElem?_append_left (by omega)] at hz
        rw [List.getElem?_append_left hi] at hcc
        exact hc i z c (by simpa using hz) hcc
      · rw [List.getElem?_append_right (by omega)] at hz
        rw [List.getElem?_append_right (by omega)] at hcc
        rw [hal] at hz
        exact h3 (i - cs.length) z c (by simpa using hz) hcc
  | u :: us, .tup _ :: vs, sh, hl, hr, e => by simp [tsS] at e
  | u :: us, .ts _ _ :: vs, sh, hl, hr, e => by simp [tsS] at e
  | u :: us, .g _ _ :: vs, sh, hl, hr, e => by simp [tsS] at e

theorem retV_run {X : Ctx} (hT : TOk X) {S : Start} {ok ℓ st a w} (hs : SimW X S ok ℓ st a w) {fn : Func} {r0 v : V} (h : retV X r0 fn.results.toList st = some v) :
    ∃ u, (results fn a.tmps).run X.P w = .ok u w ∧ RV ok ℓ w u v := by
  obtain ⟨rs, hrs⟩ : ∃ rs, fn.results = ⟨rs⟩ := ⟨fn.results.toList, rfl⟩
  simp only [hrs] at h
  have hrun : ∀ us : List Value, (rs.mapM (resRun a.tmps)).run X.P w = .ok us w → (results fn a.tmps).run X.P w = .ok (if h : us.length = 1 then us[0] else .tuple us.toArray) w := by
    intro us hus
    rw [results_eq, hrs]
    simp [hus]
  unfold retV at h
  split at h
  · rename_i r
    obtain ⟨us, h1, h2, h3⟩ := resVs_run hT hs [r] [v] (by simp [resVs, h])
    have h4 := hrun us h1
    match us, h2 with
    | [u], _ => exact ⟨u, h4, h3 0 u v (by simp) (by simp)⟩
  · rename_i rs' hne
    split at h
    case h_2 => cases h
    rename_i vs hvs
    obtain ⟨us, h1, h2, h3⟩ := resVs_run hT hs _ vs hvs
    refine ⟨.tuple us.toArray, ?_, ?_⟩
    · have h6 := hrun us h1
      have hl := resVs_len _ _ hvs
      rw [dif_neg] at h6
      · exact h6
      · intro e
        match rs, hl, hne with
        | [r], _, hne => exact hne r rfl
        | [], hl, _ => rw [h2, hl] at e; simp at e
        | _ :: _ :: _, hl, _ => rw [h2, hl] at e; simp at e
    · unfold tupV at h
      split at h
      · simp only [Option.map_eq_some_iff] at h
        obtain ⟨sh, hsh, rfl⟩ := h
        obtain ⟨fs, e1, e2⟩ := tsC_rep us vs sh h2 (fun i u v hu hv => h3 i u v hu hv) hsh
        exact ⟨fs.toArray, by rw [← e1], e2⟩
      · simp only [Option.map_eq_some_iff] at h
        obtain ⟨ds, hds, rfl⟩ := h
        obtain ⟨h4, h5⟩ := toDs_all vs ds hds
        refine .tup _ _ (by simp [h2, h4]) (fun i u y hu hy => ?_)
        obtain ⟨v, hv, hx⟩ := h5 i y hy
        exact rv_toD (h3 i u v (by simpa using hu) hv) hx


theorem spec_of_sim {X : Ctx} {lv : Nat} {f : FuncId} {fn : Func} {c : Code} {args : List V} {b b' : Boxes} {k k' : Toks} {r : V} (hL : X.L = lv + 1) (hn : X.n = fn.ntmps) (hT : TOk X) (hm : X.P.follows .mixedOrders = true)
    (hf : X.P.funcs[f]? = some fn) (hb : fn.body = some c) (hname : (fn.name == "runtime.NumGoroutine") = false) (ha : args.length ≤ fn.ntmps) (hlv : LvOK lv r b' k')
    {QW : Exit → St → Prop} (hQ : ∀ e st, QW e st → retQ X fn.results.toList r b' k' e st) (h : ∀ S a w, Sim X S ⟨argT 0 args, b, k⟩ a w → c.wp X.P (fun e a' w' => ∃ st', QW e st' ∧ Sim X S st' a' w') a w) : Spec X.P lv f args b k r b' k' := by
  refine ⟨hlv, fun w ok ℓ us hmem hus => .inl ⟨?_, ?_⟩⟩
  · simp only [beq_eq_false_iff_ne, ne_eq] at hname
    simp [callFunc, hf, hname, hb]
  refine calls_of_wp hf hb ?_
  let S : Start := ⟨w, ok, ℓ, fun x => ∃ n, Owns ℓ b k n x, fun n => (lk b n).isSome = true ∨ (lk k n).isSome = true⟩
  have hs : Sim X S ⟨argT 0 args, b, k⟩ { tmps := us ++ Array.replicate (fn.ntmps - us.size) undef, defers := [] } w := by
    refine ⟨ok, ℓ, rfl, ?_, fun t v hv => ?_, hmem, .refl _ _, .refl _ _, fun _ _ h => .inl h, fun n x h => .inr ⟨n, h⟩, fun n _ => ⟨.refl ℓ n, fun _ => ⟨rfl, rfl, rfl⟩⟩, fun n _ h => h⟩
    · simp only [Array.size_append, Array.size_replicate, hn]
      have := hus.1
      omega
    · obtain ⟨_, h2⟩ := argT_get args 0 t v hv
      simp only [Nat.sub_zero] at h2
      have hlt : t < us.size := by rw [hus.1]; exact (List.getElem?_eq_some_iff.1 h2).1
      refine ⟨us[t], ?_, hus.2 t _ v (Array.getElem?_eq_getElem hlt) h2⟩
      rw [Array.getElem?_append_left hlt]
      exact Array.getElem?_eq_getElem hlt
  have hend : ∀ (st : St) (a' : Act) (w' : World), (∃ st', Sub X st' st ∧ FinQ X fn.results.toList r b' k' st') → Sim X S st a' w' →
      a'.defers = [] ∧ ∃ v, (results fn a'.tmps).run X.P w' = .ok v w' ∧ ∃ u ok' ℓ', (Ending.returned v) = .returned u ∧ Post lv ok ℓ b k w r b' k' ok' ℓ' w' u := by
    rintro st a' w' ⟨st', hsub, hv, hbs, hks⟩ hsim
    obtain ⟨ok', ℓ', hs'⟩ := hsub S a' w' hsim
    split at hv
    case h_2 => exact hv.elim
    rename_i v hv0
    obtain ⟨u, hu, hr⟩ := retV_run hT hs' hv0
    obtain ⟨hm', ho'⟩ := hs'.mem.le (subB_get _ _ hbs) (subK_get _ _ hks)
    refine ⟨hs'.defers, u, hu, u, ok', ℓ', rfl, hs'.ext, hm', hr.le hv, hs'.sub, hs'.sup, fun n x hx => hs'.own n x (ho' n x hx), fun n hn _ => ?_⟩
    obtain ⟨h1, h2⟩ := hs'.names n (by omega)
    refine ⟨h1, fun e1 e2 => h2 ?_⟩
    simp [S, e1, e2]
  refine wp_mono (h S _ w hs) ?_
  rintro e a' w' ⟨st, hq0, hsim⟩
  have hq := hQ e st hq0
  cases e with
  | normal => exact hend st a' w' hq hsim
  | ret => exact hend st a' w' hq hsim
  | _ => exact hq.elim

theorem spec_of_W {X : Ctx} {lv : Nat} {f : FuncId} {fn : Func} {c : Code} {args : List V} {b b' : Boxes} {k k' : Toks} {r : V} (hL : X.L = lv + 1) (hn : X.n = fn.ntmps) (hT : TOk X) (hm : X.P.follows .mixedOrders = true)
    (hf : X.P.funcs[f]? = some fn) (hb : fn.body = some c) (hname : (fn.name == "runtime.NumGoroutine") = false) (ha : args.length ≤ fn.ntmps) (hlv : LvOK lv r b' k')
    {QW : Exit → St → Prop} (hQ : ∀ e st, QW e st → retQ X fn.results.toList r b' k' e st) (h : W X c QW ⟨argT 0 args, b, k⟩) : Spec X.P lv f args b k r b' k' :=
  spec_of_sim hL hn hT hm hf hb hname ha hlv hQ (W_sound hT hm c _ _ h)

/-! ### The contract of a function that is handed no memory holds at every level -/
def C.bare : C → Bool
  | .d _ => true
  | .nil => true
  | .pd _ => true
  | .fn _ [] => true
  | _ => false

def V.bare : V → Bool
  | .c x => x.bare
  | .agg cs => cs.all C.bare
  | .tup _ => true
  | .ts _ cs => cs.all C.bare
  | .g _ v => v.bare

theorem C.bare_has {c : C} (h : c.bare = true) (n : Name) : ¬ c.has n := by
  unfold C.bare at h
  split at h <;> simp_all [C.has]
theorem V.bare_has : ∀ {v : V}, v.bare = true → ∀ n, ¬ v.has n
  | .c x, h, n => C.bare_has h n
  | .agg cs, h, n => by
    simp only [V.bare, List.all_eq_true] at h
    rintro ⟨c, hc, hh⟩
    exact C.bare_has (h c hc) n hh
  | .tup _, _, _ => fun h => h
  | .ts _ cs, h, n => by
    simp only [V.bare, List.all_eq_true] at h
    rintro ⟨c, hc, hh⟩
    exact C.bare_has (h c hc) n hh
  | .g _ v, h, n => V.bare_has (v := v) h n

theorem RV.loc {ok ℓ w u v} (h : RV ok ℓ w u v) (hv : v.bare = true) (ℓ' : Loc) : RV ok ℓ' w u v :=
  h.chg (.refl ok w) (fun n hn => (V.bare_has hv n hn).elim)

theorem Spec.lift {P : Program} {lv : Nat} {f : FuncId} {args : List V} {r : V} (h : Spec P lv f args [] [] r [] []) (hr : r.bare = true) (lv' : Nat) : Spec P lv' f args [] [] r [] [] := by
  refine ⟨⟨fun n hn => (V.bare_has hr n hn).elim, by simp, by simp⟩, fun w ok ℓ us hm hus => ?_⟩
  have := h.2 w ok ℓ us hm hus
  have hmono : ∀ (e : Ending) (w' : World), (∃ u ok' ℓ', e = Ending.returned u ∧ Post lv ok ℓ [] [] w r [] [] ok' ℓ' w' u) → ∃ u ok' ℓ', e = .returned u ∧ Post lv' ok ℓ [] [] w r [] [] ok' ℓ' w' u := by
    rintro e w' ⟨u, ok', ℓ', rfl, hp⟩
    refine ⟨u, ok', ℓ, rfl, hp.ext, ⟨by simp [lk], by simp [lk], by simp [lk], by simp [lk], fun n m x hn => ?_, hp.mem.alive⟩, hp.val.loc hr ℓ, hp.chg, hp.sup, fun n x hn => ?_, fun n _ _ => ⟨.refl ℓ n, fun _ _ => ⟨rfl, rfl, rfl⟩⟩⟩
    · rcases hn with ⟨h, _⟩ | ⟨_, h, _⟩ | ⟨_, h, _⟩ <;> simp [lk] at h
    · rcases hn with ⟨h, _⟩ | ⟨_, h, _⟩ | ⟨_, h, _⟩ <;> simp [lk] at h
  rcases this with ⟨h1, h2⟩ | ⟨v, w', h1, h2⟩
  · exact .inl ⟨h1, h2.mono hmono⟩
  · exact .inr ⟨v, w', h1, hmono _ _ h2⟩

end Go.Vam
