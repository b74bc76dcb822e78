/- A part of the proof. Conditions: none. -/
import Derived.Test.YtmpbpijnbmpbhaaGreatVg
set_option linter.unusedVariables false
set_option linter.unusedSimpArgs false
namespace Go.Vam

def oel {α : Type} : Option α → (α → Prop) → Prop
  | some x, f => f x
  | none, _ => False

theorem oel_some {α : Type} {x : α} {f : α → Prop} : oel (some x) f = f x := Eq.trans rfl rfl
theorem oel_none {α : Type} {f : α → Prop} : oel none f = False := Eq.trans rfl rfl
theorem wp_ret {α : Type} {st : St} {a : α} {Q : α → Prop} : (wp (.ret a) st Q) = (Q a) := Eq.trans rfl rfl
theorem wp_fail {α : Type} {st : St}  {Q : α → Prop} : (wp (.fail) st Q) = (False) := Eq.trans rfl rfl
theorem wp_getT {α : Type} {st : St} {n : Nat} {f : V → Rd α} {Q : α → Prop} : (wp (.getT n f) st Q) = (oel (lk st.t n) fun v => wp (f v) st Q) := by simp only [wp, oel]; split <;> simp_all
theorem wp_getB {α : Type} {st : St} {n : Name} {f : List C → Rd α} {Q : α → Prop} : (wp (.getB n f) st Q) = (oel (lk st.b n) fun v => wp (f v) st Q) := by simp only [wp, oel]; split <;> simp_all
theorem wp_getK {α : Type} {st : St} {n : Name} {f : Tok → Rd α} {Q : α → Prop} : (wp (.getK n f) st Q) = (oel (lk st.k n) fun v => wp (f v) st Q) := by simp only [wp, oel]; split <;> simp_all
theorem wp_need {α : Type} {st : St} {p : Prop} {r : Rd α} {Q : α → Prop} : (wp (.need p r) st Q) = ((p ∧ wp r st Q)) := Eq.trans rfl rfl
theorem wp_exD {α : Type} {st : St} {f : D → Rd α} {Q : α → Prop} : (wp (.exD f) st Q) = (∃ x, wp (f x) st Q) := Eq.trans rfl rfl
theorem wp_case {α : Type} {st : St} {γ : Bool} {r s : Rd α} {Q : α → Prop} : (wp (.case γ r s) st Q) = (((γ = true → wp r st Q) ∧ (γ = false → wp s st Q))) := Eq.trans rfl rfl
theorem wp_ite {α : Type} {st : St} {c : Prop} [Decidable c] {r s : Rd α} {Q : α → Prop} : (wp (if c then r else s) st Q) = ((if c then wp r st Q else wp s st Q)) := by split <;> rfl
theorem wp_unG_g {α : Type} {st : St} {gd : Option Bool} {γ : Bool} {v : V} {f : V → Rd α} {Q : α → Prop} : (wp (unG gd (.g γ v) f) st Q) = (((gd.getD true = true → γ = true) ∧ wp (f v) st Q)) := Eq.trans rfl rfl
theorem wp_unG_c {α : Type} {st : St} {gd : Option Bool} {x : C} {f : V → Rd α} {Q : α → Prop} : (wp (unG gd (.c x) f) st Q) = (wp (f (.c x)) st Q) := Eq.trans rfl rfl
theorem wp_unG_agg {α : Type} {st : St} {gd : Option Bool} {x : List C} {f : V → Rd α} {Q : α → Prop} : (wp (unG gd (.agg x) f) st Q) = (wp (f (.agg x)) st Q) := Eq.trans rfl rfl
theorem wp_unG_tup {α : Type} {st : St} {gd : Option Bool} {x : List D} {f : V → Rd α} {Q : α → Prop} : (wp (unG gd (.tup x) f) st Q) = (wp (f (.tup x)) st Q) := Eq.trans rfl rfl
theorem wp_unG_ts {α : Type} {st : St} {gd : Option Bool} {sh : List (Option Nat)} {x : List C} {f : V → Rd α} {Q : α → Prop} : (wp (unG gd (.ts sh x) f) st Q) = (wp (f (.ts sh x)) st Q) := Eq.trans rfl rfl
theorem wp_rawO_tmp {α : Type} {st : St} {t : Nat} {f : V → Rd α} {Q : α → Prop} : (wp (rawO (.tmp t) f) st Q) = (oel (lk st.t t) fun v => wp (f v) st Q) := by simp only [rawO, wp, oel]; split <;> simp_all
theorem wp_rawO_const {α : Type} {st : St} {c : Value} {f : V → Rd α} {Q : α → Prop} : (wp (rawO (.const c) f) st Q) = (oel (constV c) fun v => wp (f v) st Q) := by simp only [rawO]; cases constV c <;> rfl
theorem wp_rawO_func {α : Type} {st : St} {i : FuncId} {f : V → Rd α} {Q : α → Prop} : (wp (rawO (.func i) f) st Q) = (wp (f (.c (.fn i []))) st Q) := Eq.trans rfl rfl
theorem wp_opnd {α : Type} {st : St} {gd : Option Bool} {x : Operand} {f : V → Rd α} {Q : α → Prop} : (wp (opnd gd x f) st Q) = (wp (rawO x fun v => unG gd v f) st Q) := Eq.trans rfl rfl
theorem wp_opnds_nil {α : Type} {st : St} {gd : Option Bool} {f : List V → Rd α} {Q : α → Prop} : (wp (opnds gd [] f) st Q) = (wp (f []) st Q) := Eq.trans rfl rfl
theorem wp_opnds_cons {α : Type} {st : St} {gd : Option Bool} {x : Operand} {xs : List Operand} {f : List V → Rd α} {Q : α → Prop} : (wp (opnds gd (x :: xs) f) st Q) = (wp (opnd gd x fun v => opnds gd xs fun vs => f (v :: vs)) st Q) := Eq.trans rfl rfl
theorem wp_asI {α : Type} {st : St} {k : IntKind} {n : Int} {f : IntKind → Int → Rd α} {Q : α → Prop} : (wp (asI (.c (.d (.int k n))) f) st Q) = (wp (f k n) st Q) := Eq.trans rfl rfl
theorem wp_asB {α : Type} {st : St} {b : Bool} {f : Bool → Rd α} {Q : α → Prop} : (wp (asB (.c (.d (.bool b))) f) st Q) = (wp (f b) st Q) := Eq.trans rfl rfl
theorem wp_asL_nil {α : Type} {st : St} {f : List D → Rd α} {Q : α → Prop} : (wp (asL (.c .nil) f) st Q) = (wp (f []) st Q) := Eq.trans rfl rfl
theorem wp_asL_own {α : Type} {st : St} {n : Name} {l : List D} {f : List D → Rd α} {Q : α → Prop} : (wp (asL (.c (.own n l)) f) st Q) = (wp (f l) st Q) := Eq.trans rfl rfl
theorem wp_asL_list {α : Type} {st : St} {l : List D} {f : List D → Rd α} {Q : α → Prop} : (wp (asL (.c (.d (.list l))) f) st Q) = (wp (f l) st Q) := Eq.trans rfl rfl
theorem wp_orFail {α : Type} {st : St} {β : Type} {x : Option β} {f : β → Rd α} {Q : α → Prop} : (wp (orFail x f) st Q) = (oel x fun y => wp (f y) st Q) := by cases x <;> rfl
theorem wp_gNeed {α : Type} {st : St} {gd : Option Bool} {p : Prop} {r : Rd α} {Q : α → Prop} : (wp (gNeed gd p r) st Q) = (((gd.getD true = true → p) ∧ wp r st Q)) := Eq.trans rfl rfl
theorem wp_noGd_none {α : Type} {st : St} {r : Rd α} {Q : α → Prop} : (wp (noGd none r) st Q) = (wp r st Q) := Eq.trans rfl rfl
theorem wp_optI_none {α : Type} {st : St} {gd : Option Bool} {n : Int} {f : Int → Rd α} {Q : α → Prop} : (wp (optI gd none n f) st Q) = (wp (f n) st Q) := Eq.trans rfl rfl
theorem wp_optI_some {α : Type} {st : St} {gd : Option Bool} {x : Operand} {n : Int} {f : Int → Rd α} {Q : α → Prop} : (wp (optI gd (some x) n f) st Q) = (wp (opnd gd x fun v => asI v fun _ n => f n) st Q) := Eq.trans rfl rfl
theorem wp_getBs_nil {α : Type} {st : St} {f : Boxes → Rd α} {Q : α → Prop} : (wp (getBs [] f) st Q) = (wp (f []) st Q) := Eq.trans rfl rfl
theorem wp_getBs_cons {α : Type} {st : St} {n : Name} {ns : List Name} {f : Boxes → Rd α} {Q : α → Prop} : (wp (getBs (n :: ns) f) st Q) = (wp (.getB n fun cs => getBs ns fun b => f (addB n cs b)) st Q) := Eq.trans rfl rfl
theorem wp_getKs_nil {α : Type} {st : St} {f : Toks → Rd α} {Q : α → Prop} : (wp (getKs [] f) st Q) = (wp (f []) st Q) := Eq.trans rfl rfl
theorem wp_getKs_cons {α : Type} {st : St} {n : Name} {ns : List Name} {f : Toks → Rd α} {Q : α → Prop} : (wp (getKs (n :: ns) f) st Q) = (wp (.getK n fun cs => getKs ns fun b => f (addK n cs b)) st Q) := Eq.trans rfl rfl
theorem wp_bindR {α β : Type} {st : St} {Q : β → Prop} {f : α → Rd β} : ∀ {r : Rd α}, wp (bindR r f) st Q = wp r st (fun a => wp (f a) st Q) := by
  intro r
  induction r with
  | ret a => rfl
  | fail => rfl
  | getT n g ih => simp only [bindR, wp]; split <;> simp_all
  | getB n g ih => simp only [bindR, wp]; split <;> simp_all
  | getK n g ih => simp only [bindR, wp]; split <;> simp_all
  | need p r ih => simp only [bindR, wp, ih]
  | exD g ih => simp only [bindR, wp, ih]
  | exM g ih => simp only [bindR, wp, ih]
  | case γ r s ih ih' => simp only [bindR, wp, ih, ih']
def newsOk (st : St) (ns : List Name) : Prop := ∀ n ∈ ns, FreeB st n
theorem newsOk_nil {st : St} : newsOk st [] = True := by simp [newsOk]
theorem newsOk_one {st : St} {m : Name} : newsOk st [m] = FreeB st m := by simp [newsOk]
def freeB (st : St) (n : Name) : Bool := st.t.all (fun p => !p.2.nms.contains n) && st.b.all (fun p => decide (p.1 ≠ n) && p.2.all fun c => !c.nms.contains n) && st.k.all fun p => decide (p.1 ≠ n)

theorem freeB_iff {st : St} {n : Name} : freeB st n = true ↔ FreeB st n := by
  simp only [freeB, FreeB, Bool.and_eq_true, List.all_eq_true, Bool.not_eq_true', decide_eq_true_eq, List.contains_eq_mem, decide_eq_false_iff_not, and_assoc]

def drawAll (st : St) (ops : Array Oper) (cs : List Rec) : Bool := cs.all (fun c => c.r.new.all (freeB st)) && (List.range cs.length).all (fun j => (List.range j).all fun i => match cs[i]?, cs[j]? with
    | some a, some b => b.r.new.all fun n => !a.nms.contains n
    | _, _ => true) && drawOk ops cs

theorem drawAll_iff {st : St} {ops : Array Oper} {cs : List Rec} : drawAll st ops cs = true ↔ newOk st cs ∧ drawOk ops cs = true := by
  unfold drawAll newOk
  rw [Bool.and_eq_true, Bool.and_eq_true]
  simp only [List.all_eq_true (l := cs), List.all_eq_true (p := freeB st), freeB_iff]
  exact Iff.rfl

section
variable {X : Ctx} {st : St} {Q : Exit → St → Prop}
theorem thenS_normal {n : St → Prop} : thenS n Q .normal st = n st := Eq.trans rfl rfl
theorem thenS_ret {n : St → Prop} : thenS n Q .ret st = Q .ret st := Eq.trans rfl rfl
theorem thenS_exit {n : St → Prop} {i : Nat} : thenS n Q (.exit i) st = Q (.exit i) st := Eq.trans rfl rfl
theorem inBlockS_normal {id : Nat} : inBlockS id Q .normal st = Q .normal st := Eq.trans rfl rfl
theorem inBlockS_ret {id : Nat} : inBlockS id Q .ret st = Q .ret st := Eq.trans rfl rfl
theorem inBlockS_exit {id i : Nat} : inBlockS id Q (.exit i) st = if i = id then Q .normal st else Q (.exit i) st := Eq.trans rfl rfl
end

def rcvV (f : FuncId) (vs : List V) : Rd Out := match vs with
      | [.c (.lp n off)] => .ret { v := .c (.fn f [(n, off + 1000000000)]) }
      | _ => .fail
theorem rcvV_lp {f : FuncId} {n : Name} {off : Nat} : rcvV f [.c (.lp n off)] = .ret { v := .c (.fn f [(n, off + 1000000000)]) } := Eq.trans rfl rfl
theorem rcv_nil : rcv [] = false := Eq.trans rfl rfl
theorem rcv_two {p q : Name × Nat} {l : List (Name × Nat)} : rcv (p :: q :: l) = false := Eq.trans rfl rfl
theorem rcv_one {n : Name} {o : Nat} : rcv [(n, o)] = decide (1000000000 ≤ o) := Eq.trans rfl rfl

def callV (X : Ctx) (gd : Option Bool) (dst : Option Nat) (as : List Operand) (fv : V) : Rd Out := match fv with
      | .c (.fn f caps) => opnds gd as fun vs => callSem X gd dst f (fnA caps (vs.map (handV (dst.map X.mode))))
      | _ => .fail

def loadV (gd : Option Bool) (ti : TI) (av : V) : Rd Out := match av with
    | .c (.lp n off) => .getB n fun cs => orFail (partV ti cs off) fun v => .ret { v }
    | .c (.pd x) => if ti.agg = true then (if x.cells.length = ti.size then match x with
        | .agg cs => .ret { v := .agg (cs.map .d) }
        | _ => .fail
        else .fail) else match x with
        | .agg _ => .fail
        | .tup _ => .fail
        | x => .ret { v := .c (.d x) }
    | .c (.rp k wd i) => if ti.agg = false then .ret { v := .c (.vw k (i * wd) wd) } else .fail
    | .c (.ap k i off) => .getK k fun tk => if ti.agg = false ∧ off = 0 then orFail (zeroD ti) fun z => gNeed gd (tk.isArr = true ∧ i < tk.l.length ∧ z.like (tk.l[i]?.getD z) = tk.l[i]?.getD z) (scR (z.like (tk.l[i]?.getD z)) fun y => .need (y.okV = true) (.ret { v := .c (.d y) })) else .exD fun x => gNeed gd (tk.isArr = true ∧ tk.l[i]? = some x) (orFail (partD ti x.cells off) fun y => .need (y.okV = true) (.ret { v := y.toV }))
    | _ => .fail
def storeV (ti : TI) (av xv : V) : Rd Out := match av with
    | .c (.lp n off) => .getB n fun cs => orFail xv.cells fun ys => if ys.length = ti.size ∧ off + ti.size ≤ cs.length then .ret { v := .tup [], b := [(n, lay cs off ys)] } else .fail
    | .c (.ap k i off) => .getK k fun tk => if ti.agg = false ∧ off = 0 ∧ ti.size = 1 then orFail (zeroD ti) fun z => orFail xv.toD fun d => .need (tk.isArr = true ∧ i < tk.l.length ∧ z.like (tk.l[i]?.getD z) = tk.l[i]?.getD z) (scR (z.like (tk.l[i]?.getD z)) fun _ => scR d fun d => .ret { v := .tup [], k := [(k, ⟨true, tk.sz, tk.l.set i d⟩)] }) else .exD fun y => .need (tk.isArr = true ∧ tk.l[i]? = some y) (orFail xv.cells fun cs => orFail (C.toDs cs) fun ds =>
        if ds.length = ti.size ∧ off + ti.size ≤ y.cells.length then
          match y with
          | .agg ys => .ret { v := .tup [], k := [(k, ⟨true, tk.sz, tk.l.set i (.agg (lay ys off ds))⟩)] }
          | _ => match ds with
            | [d] => .need (d.cells.length = 1) (.ret { v := .tup [], k := [(k, ⟨true, tk.sz, tk.l.set i d⟩)] })
            | _ => .fail
        else .fail)
    | _ => .fail
def nilV (v : V) : Rd Out := match v with
    | .c (.lp _ _) => .ret { v }
    | .c (.pd _) => .ret { v }
    | .c (.ap _ _ _) => .ret { v }
    | .c (.rp _ _ _) => .ret { v }
    | .c (.fn _ _) => .ret { v }
    | _ => .fail
def faddrV (fi : TI) (p : Nat × Nat) (v : V) : Rd Out := match v with
    | .c (.lp n off) => .ret { v := .c (.lp n (off + p.1)) }
    | .c (.pd (.agg cs)) => orFail (partD fi cs p.1) fun y => .need (fi.agg = false → ∀ zs, y ≠ .agg zs) (.ret { v := .c (.pd y) })
    | .c (.ap k j off) => .ret { v := .c (.ap k j (off + p.1)) }
    | _ => .fail
def fieldV (fi : TI) (p : Nat × Nat) (v : V) : Rd Out := match v with
    | .agg cs => orFail (partV fi cs p.1) fun v => .ret { v }
    | _ => .fail
def idxV (gd : Option Bool) (ei : TI) (n : Int) (xv : V) : Rd Out := match xv with
    | .c (.arr k len) => .getK k fun tk => gNeed gd (0 ≤ n ∧ n < len) (.need (tk.sz = ei.size ∧ tk.isArr = true) (.ret { v := .c (.ap k n.toNat 0) }))
    | .c (.bs m len) => gNeed gd (0 ≤ n ∧ n < len) (.need (ei.size = 1) (.ret { v := .c (.lp m n.toNat) }))
    | .c (.vw k off len) => .getK k fun tk => gNeed gd (0 ≤ n ∧ n < len) (.need (tk.sz = 1 ∧ ei.size = 1 ∧ tk.isArr = true) (.ret { v := .c (.ap k (off + n.toNat) 0) }))
    | .c (.rws k wd len) => gNeed gd (0 ≤ n ∧ n < len) (.need (ei.size = 1) (.ret { v := .c (.rp k wd n.toNat) }))
    | xv => asL xv fun l => orFail (zeroD ei) fun z => gNeed gd (0 ≤ n ∧ n < l.length) (.need ((l[n.toNat]?.getD z).cells.length = ei.size ∧ z.like (l[n.toNat]?.getD z) = l[n.toNat]?.getD z) (.ret { v := .c (.pd (z.like (l[n.toNat]?.getD z))) }))
def extV (i : Nat) (v : V) : Rd Out := match v with
    | .tup ds => orFail (ds[i]?) fun y => .need (y.okV = true) (.ret { v := y.toV })
    | .ts sh cs => orFail (tsGet sh cs i) fun y => .ret { v := y }
    | _ => .fail

section
variable {gd : Option Bool} {ti fi ei : TI} {n : Name} {off i : Nat} {x : D} {cs : List D} {l : List D} {p : Nat × Nat} {m : Int}
theorem loadV_lp : loadV gd ti (.c (.lp n off)) = .getB n fun cs => orFail (partV ti cs off) fun v => .ret { v } := Eq.trans rfl rfl
theorem loadV_agg : loadV gd ti (.c (.pd (.agg cs))) = if ti.agg = true then (if cs.length = ti.size then .ret { v := .agg (cs.map .d) } else .fail) else .fail := Eq.trans rfl rfl
theorem loadV_int {k : IntKind} {m : Int} : loadV gd ti (.c (.pd (.int k m))) = if ti.agg = true then .fail else .ret { v := .c (.d (.int k m)) } := by
  simp only [loadV]; split
  · split <;> rfl
  · rfl
theorem loadV_bool {b : Bool} : loadV gd ti (.c (.pd (.bool b))) = if ti.agg = true then .fail else .ret { v := .c (.d (.bool b)) } := by
  simp only [loadV]; split
  · split <;> rfl
  · rfl
theorem loadV_list : loadV gd ti (.c (.pd (.list l))) = if ti.agg = true then .fail else .ret { v := .c (.d (.list l)) } := by
  simp only [loadV]; split
  · split <;> rfl
  · rfl
theorem loadV_rp {wd : Nat} : loadV gd ti (.c (.rp n wd i)) = if ti.agg = false then .ret { v := .c (.vw n (i * wd) wd) } else .fail := Eq.trans rfl rfl
theorem loadV_ap : loadV gd ti (.c (.ap n i off)) = .getK n fun tk => if ti.agg = false ∧ off = 0 then orFail (zeroD ti) fun z => gNeed gd (tk.isArr = true ∧ i < tk.l.length ∧ z.like (tk.l[i]?.getD z) = tk.l[i]?.getD z) (scR (z.like (tk.l[i]?.getD z)) fun y => .need (y.okV = true) (.ret { v := .c (.d y) })) else .exD fun x => gNeed gd (tk.isArr = true ∧ tk.l[i]? = some x) (orFail (partD ti x.cells off) fun y => .need (y.okV = true) (.ret { v := y.toV })) := Eq.trans rfl rfl
theorem storeV_lp {xv : V} : storeV ti (.c (.lp n off)) xv = .getB n fun cs => orFail xv.cells fun ys => if ys.length = ti.size ∧ off + ti.size ≤ cs.length then .ret { v := .tup [], b := [(n, lay cs off ys)] } else .fail := Eq.trans rfl rfl
theorem storeV_ap {xv : V} (ha : (ti.agg = false ∧ off = 0 ∧ ti.size = 1) = True) : storeV ti (.c (.ap n i off)) xv = .getK n fun tk => orFail (zeroD ti) fun z => orFail xv.toD fun d => .need (tk.isArr = true ∧ i < tk.l.length ∧ z.like (tk.l[i]?.getD z) = tk.l[i]?.getD z) (scR (z.like (tk.l[i]?.getD z)) fun _ => scR d fun d => .ret { v := .tup [], k := [(n, ⟨true, tk.sz, tk.l.set i d⟩)] }) := by
  simp only [storeV, ha, if_true]
theorem scR_int {α : Type} {k : IntKind} {m : Int} {f : D → Rd α} : scR (.int k m) f = f (.int k m) := Eq.trans rfl rfl
theorem scR_bool {α : Type} {b : Bool} {f : D → Rd α} : scR (.bool b) f = f (.bool b) := Eq.trans rfl rfl
theorem scR_list {α : Type} {l : List D} {f : D → Rd α} : scR (.list l) f = f (.list l) := Eq.trans rfl rfl
theorem nilV_lp : nilV (.c (.lp n off)) = .ret { v := .c (.lp n off) } := Eq.trans rfl rfl
theorem nilV_pd : nilV (.c (.pd x)) = .ret { v := .c (.pd x) } := Eq.trans rfl rfl
theorem nilV_ap : nilV (.c (.ap n i off)) = .ret { v := .c (.ap n i off) } := Eq.trans rfl rfl
theorem nilV_rp {wd : Nat} : nilV (.c (.rp n wd i)) = .ret { v := .c (.rp n wd i) } := Eq.trans rfl rfl
theorem nilV_fn {f : FuncId} {caps : List (Name × Nat)} : nilV (.c (.fn f caps)) = .ret { v := .c (.fn f caps) } := Eq.trans rfl rfl
theorem faddrV_lp : faddrV fi p (.c (.lp n off)) = .ret { v := .c (.lp n (off + p.1)) } := Eq.trans rfl rfl
theorem faddrV_pd : faddrV fi p (.c (.pd (.agg cs))) = orFail (partD fi cs p.1) fun y => .need (fi.agg = false → ∀ zs, y ≠ .agg zs) (.ret { v := .c (.pd y) }) := Eq.trans rfl rfl
theorem faddrV_ap : faddrV fi p (.c (.ap n i off)) = .ret { v := .c (.ap n i (off + p.1)) } := Eq.trans rfl rfl
theorem fieldV_agg {cs : List C} : fieldV fi p (.agg cs) = orFail (partV fi cs p.1) fun v => .ret { v } := Eq.trans rfl rfl
theorem like_int {k : IntKind} {a : Int} {y : D} : (D.int k a).like y = .int k y.toI := Eq.trans rfl rfl
theorem like_bool {a : Bool} {y : D} : (D.bool a).like y = .bool y.toB := Eq.trans rfl rfl
theorem like_list {a : List D} {y : D} : (D.list a).like y = .list y.toL := Eq.trans rfl rfl
theorem like_agg {a : List D} {y : D} : (D.agg a).like y = .agg (likes a y.cells) := Eq.trans rfl rfl
theorem like1_int {k : IntKind} {a : Int} {y : D} : (D.int k a).like1 y = .int k y.toI := Eq.trans rfl rfl
theorem like1_bool {a : Bool} {y : D} : (D.bool a).like1 y = .bool y.toB := Eq.trans rfl rfl
theorem like1_list {a : List D} {y : D} : (D.list a).like1 y = .list y.toL := Eq.trans rfl rfl
theorem likes_nil {a : List D} : likes [] a = [] := Eq.trans rfl rfl
theorem likes_cons {z c : D} {zs cs : List D} : likes (z :: zs) (c :: cs) = z.like1 c :: likes zs cs := Eq.trans rfl rfl
theorem toI_int {k : IntKind} {n : Int} : (D.int k n).toI = n := Eq.trans rfl rfl
theorem toB_bool {n : Bool} : (D.bool n).toB = n := Eq.trans rfl rfl
theorem toL_list {n : List D} : (D.list n).toL = n := Eq.trans rfl rfl
theorem cellsEq_nil : cellsEq [] [] = some true := Eq.trans rfl rfl
theorem cellsEq_int {k k' : IntKind} {a b : Int} {l m : List C} : cellsEq (.d (.int k a) :: l) (.d (.int k' b) :: m) = if k = k' then (cellsEq l m).map (fun r => (a == b) && r) else none := Eq.trans rfl rfl
theorem cellsEq_bool {a b : Bool} {l m : List C} : cellsEq (.d (.bool a) :: l) (.d (.bool b) :: m) = (cellsEq l m).map (fun r => (a == b) && r) := Eq.trans rfl rfl
theorem cellKinds_nil : cellKinds [] = some [] := Eq.trans rfl rfl
theorem cellKinds_int {k : IntKind} {a : Int} {l : List C} : cellKinds (.d (.int k a) :: l) = (cellKinds l).map (fun r => true :: r) := Eq.trans rfl rfl
theorem cellKinds_bool {a : Bool} {l : List C} : cellKinds (.d (.bool a) :: l) = (cellKinds l).map (fun r => false :: r) := Eq.trans rfl rfl
theorem idxV_arr {len : Nat} : idxV gd ei m (.c (.arr n len)) = .getK n fun tk => gNeed gd (0 ≤ m ∧ m < len) (.need (tk.sz = ei.size ∧ tk.isArr = true) (.ret { v := .c (.ap n m.toNat 0) })) := Eq.trans rfl rfl
theorem idxV_bs {len : Nat} : idxV gd ei m (.c (.bs n len)) = gNeed gd (0 ≤ m ∧ m < len) (.need (ei.size = 1) (.ret { v := .c (.lp n m.toNat) })) := Eq.trans rfl rfl
theorem idxV_vw {len : Nat} : idxV gd ei m (.c (.vw n off len)) = .getK n fun tk => gNeed gd (0 ≤ m ∧ m < len) (.need (tk.sz = 1 ∧ ei.size = 1 ∧ tk.isArr = true) (.ret { v := .c (.ap n (off + m.toNat) 0) })) := Eq.trans rfl rfl
theorem idxV_rws {wd len : Nat} : idxV gd ei m (.c (.rws n wd len)) = gNeed gd (0 ≤ m ∧ m < len) (.need (ei.size = 1) (.ret { v := .c (.rp n wd m.toNat) })) := Eq.trans rfl rfl
theorem idxV_own : idxV gd ei m (.c (.own n l)) = orFail (zeroD ei) fun z => gNeed gd (0 ≤ m ∧ m < l.length) (.need ((l[m.toNat]?.getD z).cells.length = ei.size ∧ z.like (l[m.toNat]?.getD z) = l[m.toNat]?.getD z) (.ret { v := .c (.pd (z.like (l[m.toNat]?.getD z))) })) := Eq.trans rfl rfl
theorem idxV_list : idxV gd ei m (.c (.d (.list l))) = orFail (zeroD ei) fun z => gNeed gd (0 ≤ m ∧ m < l.length) (.need ((l[m.toNat]?.getD z).cells.length = ei.size ∧ z.like (l[m.toNat]?.getD z) = l[m.toNat]?.getD z) (.ret { v := .c (.pd (z.like (l[m.toNat]?.getD z))) })) := Eq.trans rfl rfl
theorem extV_ts {sh : List (Option Nat)} {cs : List C} : extV i (.ts sh cs) = orFail (tsGet sh cs i) fun y => .ret { v := y } := Eq.trans rfl rfl
theorem tsGet_c0 {sh : List (Option Nat)} {c : C} {cs : List C} : tsGet (none :: sh) (c :: cs) 0 = some (.c c) := rfl
theorem tsGet_cs {sh : List (Option Nat)} {c : C} {cs : List C} {i : Nat} : tsGet (none :: sh) (c :: cs) (i + 1) = tsGet sh cs i := rfl
theorem tsGet_a0 {sh : List (Option Nat)} {k : Nat} {cs : List C} : tsGet (some k :: sh) cs 0 = if k ≤ cs.length then some (.agg (cs.take k)) else none := rfl
theorem tsGet_as {sh : List (Option Nat)} {k : Nat} {cs : List C} {i : Nat} : tsGet (some k :: sh) cs (i + 1) = if k ≤ cs.length then tsGet sh (cs.drop k) i else none := rfl
theorem extV_tup : extV i (.tup l) = orFail (l[i]?) fun y => .need (y.okV = true) (.ret { v := y.toV }) := Eq.trans rfl rfl
end

section
variable {X : Ctx} {gd : Option Bool} {dst : Option Nat} {t : TypeId} {v : V} {k k' k'' : IntKind} {a b c : Int} {n : Name} {l : List D} {m : Nat}
theorem bi_len_str {s : ByteArray} : builtinSem X gd dst .len (List.toArray [t]) [.c (.d (.str s))] = .need (X.P.underlying t = some .string) (.ret { v := .c (.d (.int .i64 s.size)) }) := Eq.trans rfl rfl
theorem bi_len_arr : builtinSem X gd dst .len (List.toArray [t]) [.c (.arr n m)] = orFail (X.tt t) fun ti => orFail ti.elem fun _ => .ret { v := .c (.d (.int .i64 m)) } := Eq.trans rfl rfl
theorem bi_len_bs : builtinSem X gd dst .len (List.toArray [t]) [.c (.bs n m)] = orFail (X.tt t) fun ti => orFail ti.elem fun _ => .ret { v := .c (.d (.int .i64 m)) } := Eq.trans rfl rfl
theorem bi_len_vw {o : Nat} : builtinSem X gd dst .len (List.toArray [t]) [.c (.vw n o m)] = orFail (X.tt t) fun ti => orFail ti.elem fun _ => .ret { v := .c (.d (.int .i64 m)) } := Eq.trans rfl rfl
theorem bi_len_rws {o : Nat} : builtinSem X gd dst .len (List.toArray [t]) [.c (.rws n o m)] = orFail (X.tt t) fun ti => orFail ti.elem fun _ => .ret { v := .c (.d (.int .i64 m)) } := Eq.trans rfl rfl
theorem bi_len_own : builtinSem X gd dst .len (List.toArray [t]) [.c (.own n l)] = orFail (X.tt t) fun ti => orFail ti.elem fun _ => .ret { v := .c (.d (.int .i64 l.length)) } := Eq.trans rfl rfl
theorem bi_len_nil : builtinSem X gd dst .len (List.toArray [t]) [.c .nil] = orFail (X.tt t) fun ti => orFail ti.elem fun _ => .ret { v := .c (.d (.int .i64 0)) } := Eq.trans rfl rfl
theorem bi_len_list : builtinSem X gd dst .len (List.toArray [t]) [.c (.d (.list l))] = orFail (X.tt t) fun ti => orFail ti.elem fun _ => .ret { v := .c (.d (.int .i64 l.length)) } := Eq.trans rfl rfl
theorem bi_min {ts : Array TypeId} : builtinSem X gd dst .min ts [.c (.d (.int k a)), .c (.d (.int k' b))] = .ret { v := .c (.d (.int k (if b < a then b else a))) } := Eq.trans rfl rfl
theorem bi_max {ts : Array TypeId} : builtinSem X gd dst .max ts [.c (.d (.int k a)), .c (.d (.int k' b))] = .ret { v := .c (.d (.int k (if a < b then b else a))) } := Eq.trans rfl rfl
theorem bi_max3 {ts : Array TypeId} : builtinSem X gd dst .max ts [.c (.d (.int k a)), .c (.d (.int k' b)), .c (.d (.int k'' c))] = .ret { v := .c (.d (.int k (if (if a < b then b else a) < c then c else (if a < b then b else a)))) } := Eq.trans rfl rfl
theorem bi_appendZ {t t' : TypeId} {s x : V} (h : (t = t') = False) : builtinSem X gd dst .append (List.toArray [t, t']) [s, x] = noGd gd (appendZ X dst t t' s x) := by simp [builtinSem, h]
theorem bi_copy {t t' : TypeId} {s x : V} : builtinSem X gd dst .copy (List.toArray [t, t']) [s, x] = noGd gd (copySem X t s x) := Eq.trans rfl rfl
theorem bi_copy_arr {t : TypeId} {n : Name} {len : Nat} {s : V} : copySem X t (.c (.arr n len)) s = orFail (X.tt t) fun ti => orFail ti.elem fun e => orFail (X.tt e) fun ei => asL s fun xs => .getK n fun tk =>
    .need (ei.size = 1 ∧ tk.isArr = true ∧ tk.sz = 1 ∧ len = tk.l.length ∧ xs.length ≤ len ∧ ∀ x ∈ xs, x.cells.length = 1) (.ret { v := .c (.d (.int .i64 xs.length)), k := [(n, ⟨true, 1, xs ++ tk.l.drop xs.length⟩)] }) := Eq.trans rfl rfl
theorem bi_append {s x : V} : builtinSem X gd dst .append (List.toArray [t, t]) [s, x] = noGd gd (appendSem X dst t s x) := by simp [builtinSem]
end

section
variable {X : Ctx} {ops : Array Oper} {dst : Option Nat} {op : Op} {ty : TypeId} {pos : String} {aft : Array Edge} {gd : Option Bool} {g : Option (Nat × Bool)}

def gdst (ops : Array Oper) (j : Nat) : Option Nat := (ops[j]?).bind (·.dst)
theorem gdst_zero {o : Oper} {l : List Oper} : gdst (List.toArray (o :: l)) 0 = o.dst := Eq.trans rfl rfl
theorem gdst_succ {o : Oper} {l : List Oper} {j : Nat} : gdst (List.toArray (o :: l)) (j + 1) = gdst (List.toArray l) j := by simp [gdst]

theorem opRun_none : opRun X ops ⟨dst, op, ty, pos, aft, none⟩ = bindR (opSem X none ⟨dst, op, ty, pos, aft, none⟩) fun r => .ret (none, r) := Eq.trans rfl rfl
theorem opRun_some {j : Nat} {want : Bool} : opRun X ops ⟨dst, op, ty, pos, aft, some (j, want)⟩ = orFail (gdst ops j) fun tg => .getT tg fun gv => orFail (boolG gv) fun g =>
    if Op.eff X ⟨dst, op, ty, pos, aft, some (j, want)⟩ = true then .case (g.1 && (g.2 == want)) (bindR (opSem X none ⟨dst, op, ty, pos, aft, some (j, want)⟩) fun r => .ret (none, r)) (.ret (some false, { v := skipV X dst }))
    else bindR (opSem X (some (g.1 && (g.2 == want))) ⟨dst, op, ty, pos, aft, some (j, want)⟩) fun r => .need (r.b = [] ∧ r.k = [] ∧ r.new = []) (.ret (some (g.1 && (g.2 == want)), r)) := Eq.trans rfl rfl
theorem skipV_some {d : Nat} : skipV X (some d) = if X.mode d = 9 then .c (.d (.bool false)) else .c (.d (.int .i64 0)) := by simp only [skipV, Option.map_some, Option.some.injEq]
theorem skipV_none : skipV X none = .c (.d (.int .i64 0)) := Eq.trans rfl rfl
theorem opSem_move {x : Operand} : opSem X gd ⟨dst, .move x, ty, pos, aft, g⟩ = ( opnd gd x fun v => .ret { v }) := Eq.trans rfl rfl
theorem opSem_assign {x : Operand} : opSem X gd ⟨dst, .assign x, ty, pos, aft, g⟩ = ( opnd gd x fun v => .ret { v }) := Eq.trans rfl rfl
theorem opSem_pick {c a b : Operand} : opSem X gd ⟨dst, .pick c a b, ty, pos, aft, g⟩ = ( opnd gd c fun cv => asB cv fun cb => rawO a fun av => rawO b fun bv =>
    orFail (boolG av) fun x => orFail (boolG bv) fun y =>
    gNeed gd (cb = true → x.1 = true) (gNeed gd (cb = false → y.1 = true) (.ret { v := .c (.d (.bool (cond cb x.2 y.2))) }))) := Eq.trans rfl rfl
theorem opSem_alloc {e : TypeId} : opSem X gd ⟨dst, .alloc e, ty, pos, aft, g⟩ = ( noGd gd (orFail dst fun d => orFail (X.tt e) fun ti => .ret { v := .c (.lp ⟨X.L, d⟩ 0), b := [(⟨X.L, d⟩, ti.zero)], new := [⟨X.L, d⟩] })) := Eq.trans rfl rfl
theorem opSem_box {e : TypeId} {x : Operand} : opSem X gd ⟨dst, .box e x, ty, pos, aft, g⟩ = ( noGd gd (orFail dst fun d => opnd gd x fun v => orFail v.cells fun cs => .ret { v := .c (.lp ⟨X.L, d⟩ 0), b := [(⟨X.L, d⟩, cs)], new := [⟨X.L, d⟩] })) := Eq.trans rfl rfl
def buildV (X : Ctx) (ti : TI) (l : List (Nat × V)) : Rd Out := match ti.arr with
    | some e => orFail (X.tt e) fun ei => if ti.agg = true then orFail (buildArr ei.size ti.zero l) fun cs => .ret { v := .agg cs } else .fail
    | none => if ti.agg = true ∧ ti.fields ≠ [] then orFail (buildCells X ti.fields ti.zero l) fun cs => .ret { v := .agg cs } else .fail
theorem opSem_build {t : TypeId} {ps : Array (Nat × Operand)} : opSem X gd ⟨dst, .build t ps, ty, pos, aft, g⟩ = ( opnds gd (ps.toList.map (·.2)) fun vs => orFail (X.tt t) fun ti => buildV X ti ((ps.toList.map (·.1)).zip vs)) := Eq.trans rfl rfl
theorem buildV_none {ti : TI} {l : List (Nat × V)} (h : ti.arr = none) : buildV X ti l = if ti.agg = true ∧ ti.fields ≠ [] then orFail (buildCells X ti.fields ti.zero l) fun cs => .ret { v := .agg cs } else .fail := by simp only [buildV, h]
theorem buildV_some {ti : TI} {l : List (Nat × V)} {e : Nat} (h : ti.arr = some e) : buildV X ti l = orFail (X.tt e) fun ei => if ti.agg = true then orFail (buildArr ei.size ti.zero l) fun cs => .ret { v := .agg cs } else .fail := by simp only [buildV, h]
theorem opSem_buildSlice {t : TypeId} {len : Nat} {ps : Array (Nat × Operand)} : opSem X gd ⟨dst, .buildSlice t len ps, ty, pos, aft, g⟩ = ( opnds gd (ps.toList.map (·.2)) fun vs => orFail (X.tt t) fun ti => orFail ti.elem fun e => orFail (X.tt e) fun ei =>
    if ps.toList.map (·.1) = List.range len ∧ len * ei.size ≤ 16777216 then
      if (dst.map X.mode) = some 5 then noGd gd (.need (ei.size = 1) (orFail (toCs vs) fun cs => orFail dst fun d => .ret { v := .c (.bs ⟨X.L, d⟩ len), b := [(⟨X.L, d⟩, cs)], new := [⟨X.L, d⟩] }))
      else orFail (toDs vs) fun l => .need (∀ y ∈ l, y.cells.length = ei.size) <|
      if (dst.map X.mode) = some 1 then noGd gd (orFail dst fun d => .ret { v := .c (.own ⟨X.L, d⟩ l), k := [(⟨X.L, d⟩, ⟨false, ei.size, l⟩)], new := [⟨X.L, d⟩] })
      else .ret { v := .c (.d (.list l)) }
    else .fail) := Eq.trans rfl rfl
theorem opSem_load {t : TypeId} {a : Operand} : opSem X gd ⟨dst, .load t a, ty, pos, aft, g⟩ = ( opnd gd a fun av => orFail (X.tt t) fun ti => loadV gd ti av) := Eq.trans rfl rfl
theorem opSem_store {t : TypeId} {a x : Operand} : opSem X gd ⟨none, .store t a x, ty, pos, aft, g⟩ = noGd gd (opnd gd a fun av => opnd gd x fun xv => orFail (X.tt t) fun ti => storeV ti av xv) := Eq.trans rfl rfl
theorem opSem_nilCheck {x : Operand} : opSem X gd ⟨dst, .nilCheck x, ty, pos, aft, g⟩ = ( opnd gd x nilV) := Eq.trans rfl rfl
theorem opSem_binOp {bop : BinOp} {t t' : TypeId} {x y : Operand} : opSem X gd ⟨dst, .binOp bop t x y t', ty, pos, aft, g⟩ = ( opnd gd x fun xv => opnd gd y fun yv => binV X gd bop t xv yv fun d => .ret { v := .c (.d d) }) := Eq.trans rfl rfl
theorem opSem_neg {t : TypeId} {x : Operand} : opSem X gd ⟨dst, .unOp .neg t x, ty, pos, aft, g⟩ = ( opnd gd x fun v => asI v fun k n => .ret { v := .c (.d (.int k (k.wrap (0 - n)))) }) := by
  simp only [opSem]; congr 1; funext v; unfold asI; split <;> simp_all
theorem opSem_not {t : TypeId} {x : Operand} : opSem X gd ⟨dst, .unOp .not t x, ty, pos, aft, g⟩ = ( opnd gd x fun v => asB v fun b => .ret { v := .c (.d (.bool (!b))) }) := by
  simp only [opSem]; congr 1; funext v; unfold asB; split <;> simp_all
def convV (X : Ctx) (s t : TypeId) (v : V) : Rd Out := match v with
    | .c (.d (.int _ n)) => orFail (X.tt s) fun _ => orFail (X.tt t) fun ti => orFail ti.kind fun k => .ret { v := .c (.d (.int k (k.wrap n))) }
    | v => asL v fun l => .need (bytesTo X.P s t) (.need (∀ y ∈ l, y.isU8 = true) (.ret { v := .c (.d (.str (strD l))) }))
theorem opSem_convert {s t : TypeId} {x : Operand} : opSem X gd ⟨dst, .convert s t x, ty, pos, aft, g⟩ = ( opnd gd x fun v => convV X s t v) := Eq.trans rfl rfl
theorem convV_int {s t : TypeId} {k : IntKind} {n : Int} : convV X s t (.c (.d (.int k n))) = orFail (X.tt s) fun _ => orFail (X.tt t) fun ti => orFail ti.kind fun k => .ret { v := .c (.d (.int k (k.wrap n))) } := Eq.trans rfl rfl
theorem convV_list {s t : TypeId} {l : List D} : convV X s t (.c (.d (.list l))) = .need (bytesTo X.P s t) (.need (∀ y ∈ l, y.isU8 = true) (.ret { v := .c (.d (.str (strD l))) })) := Eq.trans rfl rfl
theorem convV_own {s t : TypeId} {k : Name} {l : List D} : convV X s t (.c (.own k l)) = .need (bytesTo X.P s t) (.need (∀ y ∈ l, y.isU8 = true) (.ret { v := .c (.d (.str (strD l))) })) := Eq.trans rfl rfl
theorem convV_nil {s t : TypeId} : convV X s t (.c .nil) = .need (bytesTo X.P s t) (.need (∀ y ∈ ([] : List D), y.isU8 = true) (.ret { v := .c (.d (.str (strD []))) })) := Eq.trans rfl rfl
theorem opSem_makeSlice {t : TypeId} {l c : Operand} : opSem X gd ⟨dst, .makeSlice t l c, ty, pos, aft, g⟩ = ( opnd gd l fun lv => opnd gd c fun cv => asI lv fun _ n => asI cv fun _ m =>
    orFail (X.tt t) fun ti => orFail ti.elem fun e => orFail (X.tt e) fun ei => orFail (zeroD ei) fun z =>
    gNeed gd (0 ≤ n ∧ n ≤ m ∧ m * ei.bytes ≤ 140737488355328 ∧ m ≤ 9223372036854775807) <|
    if z.cells.length = ei.size ∧ 0 < ei.size then
      if (dst.map X.mode) = some 1 then noGd gd (orFail dst fun d => .ret { v := .c (.own ⟨X.L, d⟩ (List.replicate n.toNat z)), k := [(⟨X.L, d⟩, ⟨false, ei.size, List.replicate n.toNat z⟩)], new := [⟨X.L, d⟩] })
      else if (dst.map X.mode) = some 2 then noGd gd (.need (n = m) (orFail dst fun d => .ret { v := .c (.arr ⟨X.L, d⟩ n.toNat), k := [(⟨X.L, d⟩, ⟨true, ei.size, List.replicate n.toNat z⟩)], new := [⟨X.L, d⟩] }))
      else if (dst.map X.mode) = some 5 then noGd gd (.need (n = m ∧ ei.size = 1) (orFail (ei.zero[0]?) fun c0 => orFail dst fun d => .ret { v := .c (.bs ⟨X.L, d⟩ n.toNat), b := [(⟨X.L, d⟩, List.replicate n.toNat c0)], new := [⟨X.L, d⟩] }))
      else .ret { v := .c (.d (.list (List.replicate n.toNat z))) }
    else .fail) := Eq.trans rfl rfl
def sliceV (gd : Option Bool) (ei : TI) (lo hi mx : Option Operand) (xv : V) : Rd Out := match xv with
    | .c (.arr k len) => .getK k fun tk => optI gd lo 0 fun n => optI gd hi len fun h => optI gd mx h fun m =>
      .need (mx.isSome = true ∧ hi.isSome = true) <|
      gNeed gd (0 ≤ n ∧ n < h ∧ h = m ∧ m ≤ len) <|
      .need (tk.sz = 1 ∧ ei.size = 1 ∧ tk.isArr = true) (.ret { v := .c (.vw k n.toNat (h - n).toNat) })
    | xv => asL xv fun l =>
    optI gd lo 0 fun n => optI gd hi l.length fun h => optI gd mx h fun m =>
    .need (mx.isSome = true → hi.isSome = true) <|
    gNeed gd (0 ≤ n ∧ n ≤ h ∧ h ≤ m ∧ m ≤ l.length) <|
    .need (∀ y ∈ l, y.cells.length = ei.size) <|
    if zeroOp mx = true then .ret { v := .c .nil } else .ret { v := .c (.d (.list (cut l n.toNat (h.toNat - n.toNat)))) }
theorem opSem_slice {t : TypeId} {x : Operand} {lo hi mx : Option Operand} : opSem X gd ⟨dst, .slice t x lo hi mx, ty, pos, aft, g⟩ = ( opnd gd x fun xv => orFail (X.tt t) fun ti => orFail ti.elem fun e => orFail (X.tt e) fun ei => sliceV gd ei lo hi mx xv) := Eq.trans rfl rfl
def sliceL (gd : Option Bool) (ei : TI) (lo hi mx : Option Operand) (l : List D) : Rd Out :=
    optI gd lo 0 fun n => optI gd hi l.length fun h => optI gd mx h fun m =>
    .need (mx.isSome = true → hi.isSome = true) <|
    gNeed gd (0 ≤ n ∧ n ≤ h ∧ h ≤ m ∧ m ≤ l.length) <|
    .need (∀ y ∈ l, y.cells.length = ei.size) <|
    if zeroOp mx = true then .ret { v := .c .nil } else .ret { v := .c (.d (.list (cut l n.toNat (h.toNat - n.toNat)))) }
theorem sliceL_eq {ei : TI} {lo hi mx : Option Operand} {l : List D} : sliceL gd ei lo hi mx l = optI gd lo 0 fun n => optI gd hi l.length fun h => optI gd mx h fun m =>
    .need (mx.isSome = true → hi.isSome = true) <|
    gNeed gd (0 ≤ n ∧ n ≤ h ∧ h ≤ m ∧ m ≤ l.length) <|
    .need (∀ y ∈ l, y.cells.length = ei.size) <|
    if zeroOp mx = true then .ret { v := .c .nil } else .ret { v := .c (.d (.list (cut l n.toNat (h.toNat - n.toNat)))) } := Eq.trans rfl rfl
theorem sliceV_own {ei : TI} {lo hi mx : Option Operand} {n : Name} {l : List D} : sliceV gd ei lo hi mx (.c (.own n l)) = sliceL gd ei lo hi mx l := Eq.trans rfl rfl
theorem sliceV_list {ei : TI} {lo hi mx : Option Operand} {l : List D} : sliceV gd ei lo hi mx (.c (.d (.list l))) = sliceL gd ei lo hi mx l := Eq.trans rfl rfl
theorem sliceV_nil {ei : TI} {lo hi mx : Option Operand} : sliceV gd ei lo hi mx (.c .nil) = sliceL gd ei lo hi mx [] := Eq.trans rfl rfl
theorem sliceV_arr {ei : TI} {lo hi mx : Option Operand} {k : Name} {len : Nat} : sliceV gd ei lo hi mx (.c (.arr k len)) = .getK k fun tk => optI gd lo 0 fun n => optI gd hi len fun h => optI gd mx h fun m =>
      .need (mx.isSome = true ∧ hi.isSome = true) <|
      gNeed gd (0 ≤ n ∧ n < h ∧ h = m ∧ m ≤ len) <|
      .need (tk.sz = 1 ∧ ei.size = 1 ∧ tk.isArr = true) (.ret { v := .c (.vw k n.toNat (h - n).toNat) }) := Eq.trans rfl rfl
theorem opSem_fieldAddr {t : TypeId} {x : Operand} {i : Nat} : opSem X gd ⟨dst, .fieldAddr t x i, ty, pos, aft, g⟩ = ( opnd gd x fun v => orFail (X.tt t) fun ti => orFail (ti.fields[i]?) fun p => orFail (X.tt p.2) fun fi => if 0 < fi.size ∧ ti.agg = true then faddrV fi p v else .fail) := Eq.trans rfl rfl
def idxS (X : Ctx) (gd : Option Bool) (t : TypeId) (n : Int) (xv : V) : Rd Out := match xv with
    | .c (.d (.str s)) => .need (X.P.underlying t = some .string) (gNeed gd (0 ≤ n ∧ n < (s.size : Int)) (.ret { v := .c (.d (.int .u8 (s.toList[n.toNat]?.getD 0).toNat)) }))
    | _ => .fail
theorem idxS_str {s : ByteArray} {n : Int} {t : TypeId} : idxS X gd t n (.c (.d (.str s))) = .need (X.P.underlying t = some .string) (gNeed gd (0 ≤ n ∧ n < (s.size : Int)) (.ret { v := .c (.d (.int .u8 (s.toList[n.toNat]?.getD 0).toNat)) })) := Eq.trans rfl rfl
theorem opSem_index {t : TypeId} {x i : Operand} : opSem X gd ⟨dst, .index t x i, ty, pos, aft, g⟩ = ( opnd gd x fun xv => opnd gd i fun iv => asI iv fun _ n => idxS X gd t n xv) := Eq.trans rfl rfl
theorem opSem_field {t : TypeId} {x : Operand} {i : Nat} : opSem X gd ⟨dst, .field t x i, ty, pos, aft, g⟩ = ( opnd gd x fun v => orFail (X.tt t) fun ti => orFail (ti.fields[i]?) fun p => orFail (X.tt p.2) fun fi => if ti.agg = true then fieldV fi p v else .fail) := Eq.trans rfl rfl
def idxA (X : Ctx) (gd : Option Bool) (ti : TI) (n : Int) (xv : V) : Rd Out := match ti.arr with
    | some e => orFail (X.tt e) fun ei => (match xv with
      | .c (.lp m off) => gNeed gd (0 ≤ n ∧ n.toNat * ei.size + ei.size ≤ ti.size ∧ 0 < ei.size) (.ret { v := .c (.lp m (off + n.toNat * ei.size)) })
      | _ => .fail)
    | none => orFail ti.elem fun e => orFail (X.tt e) fun ei => idxV gd ei n xv
theorem opSem_indexAddr {t : TypeId} {x i : Operand} : opSem X gd ⟨dst, .indexAddr t x i, ty, pos, aft, g⟩ = ( opnd gd x fun xv => opnd gd i fun iv => asI iv fun _ n => orFail (X.tt t) fun ti => idxA X gd ti n xv) := Eq.trans rfl rfl
theorem idxA_none {ti : TI} {n : Int} {xv : V} (h : ti.arr = none) : idxA X gd ti n xv = orFail ti.elem fun e => orFail (X.tt e) fun ei => idxV gd ei n xv := by simp only [idxA, h]
theorem idxA_some {ti : TI} {n : Int} {m : Name} {off : Nat} {e : Nat} (h : ti.arr = some e) : idxA X gd ti n (.c (.lp m off)) = orFail (X.tt e) fun ei => gNeed gd (0 ≤ n ∧ n.toNat * ei.size + ei.size ≤ ti.size ∧ 0 < ei.size) (.ret { v := .c (.lp m (off + n.toNat * ei.size)) }) := by simp only [idxA, h]
theorem opSem_extract {x : Operand} {i : Nat} : opSem X gd ⟨dst, .extract x i, ty, pos, aft, g⟩ = ( opnd gd x fun v => extV i v) := Eq.trans rfl rfl
theorem opSem_makeFunc {f : FuncId} {l caps : List Operand} : opSem X gd ⟨dst, .makeFunc (.func f) l.toArray caps.toArray, ty, pos, aft, g⟩ = (if l.length = 0 then opnds gd caps fun vs =>
      orFail (vs.foldr (fun v acc => match v, acc with
        | .c (.lp n off), some l => some ((n, off) :: l)
        | _, _ => none) (some [])) fun l => .need (rcv l = false) (.ret { v := .c (.fn f l) })
    else if caps.length = 0 then opnds gd l fun vs => rcvV f vs
    else .fail) := Eq.trans rfl rfl
theorem opSem_builtin {b : Builtin} {as : List Operand} {ts : Array TypeId} : opSem X gd ⟨dst, .call { callee := .builtin b, args := as.toArray, argTypes := ts }, ty, pos, aft, g⟩ = opnds gd as fun vs => builtinSem X gd dst b ts vs := Eq.trans rfl rfl
theorem opSem_call {fo : Operand} {as : List Operand} {ts : Array TypeId} : opSem X gd ⟨dst, .call { callee := .value fo, args := as.toArray, argTypes := ts }, ty, pos, aft, g⟩ = opnd gd fo fun fv => callV X gd dst as fv := Eq.trans rfl rfl
theorem callV_fn {f : FuncId} {caps : List (Name × Nat)} {as : List Operand} : callV X gd dst as (.c (.fn f caps)) = opnds gd as fun vs => callSem X gd dst f (fnA caps (vs.map (handV (dst.map X.mode)))) := Eq.trans rfl rfl
end


theorem apply_some {t : List (Nat × V)} {b : Boxes} {k : Toks} {d : Nat} {v : V} {b' : Boxes} {k' : Toks} {ns : List Name} : St.apply ⟨t, b, k⟩ (some d) none ⟨v, b', k', ns⟩ = ⟨(d, v) :: t, b' ++ b, k' ++ k⟩ := Eq.trans rfl rfl
theorem apply_g {t : List (Nat × V)} {b : Boxes} {k : Toks} {d : Nat} {γ : Bool} {v : V} {b' : Boxes} {k' : Toks} {ns : List Name} : St.apply ⟨t, b, k⟩ (some d) (some γ) ⟨v, b', k', ns⟩ = ⟨(d, .g γ v) :: t, b' ++ b, k' ++ k⟩ := Eq.trans rfl rfl
theorem apply_none {t : List (Nat × V)} {b : Boxes} {k : Toks} {v : V} {b' : Boxes} {k' : Toks} {ns : List Name} {gd : Option Bool} : St.apply ⟨t, b, k⟩ none gd ⟨v, b', k', ns⟩ = ⟨t, b' ++ b, k' ++ k⟩ := by cases gd <;> exact Eq.trans rfl rfl
theorem boolG_b {b : Bool} : boolG (.c (.d (.bool b))) = some (true, b) := Eq.trans rfl rfl
theorem boolG_g {γ b : Bool} : boolG (.g γ (.c (.d (.bool b)))) = some (γ, b) := Eq.trans rfl rfl
theorem condS_tmp {t : Nat} {st : St} : condS (.tmp t) st = (lk st.t t).bind boolG := by simp only [condS]; cases lk st.t t <;> rfl
theorem condS_const {b : Bool} {st : St} : condS (.const (.bool b)) st = some (true, b) := Eq.trans rfl rfl
theorem obind_some {α β : Type} {x : α} {f : α → Option β} : (some x).bind f = f x := Eq.trans rfl rfl
theorem constV_int {k : IntKind} {n : Int} : constV (.int k n) = some (.c (.d (.int k n))) := Eq.trans rfl rfl
theorem constV_bool {b : Bool} : constV (.bool b) = some (.c (.d (.bool b))) := Eq.trans rfl rfl
theorem constV_nil : constV (.slice none 0 0) = some (.c .nil) := Eq.trans rfl rfl
theorem constV_str {s : ByteArray} : constV (.string s) = some (.c (.d (.str s))) := Eq.trans rfl rfl
theorem constV_nilF : constV .nilFunc = some (.c (.d (.raw .nilFunc))) := Eq.trans rfl rfl
theorem constV_nilP : constV (.pointer none) = some (.c (.d (.raw (.pointer none)))) := Eq.trans rfl rfl
theorem argT_nil {i : Nat} : argT i [] = [] := Eq.trans rfl rfl
theorem argT_cons {i : Nat} {v : V} {vs : List V} : argT i (v :: vs) = (i, v) :: argT (i + 1) vs := Eq.trans rfl rfl

section
variable {X : Ctx} {gd : Option Bool} {t : TypeId} {α : Type} {f : D → Rd α} {k : IntKind} {a b : Int} {st : St}
theorem binV_add : binV X gd .add t (.c (.d (.int k a))) (.c (.d (.int k b))) f = gNeed gd True (f (.int k (k.wrap (a + b)))) := by simp [binV, intBin, orFail]
theorem binV_sub : binV X gd .sub t (.c (.d (.int k a))) (.c (.d (.int k b))) f = gNeed gd True (f (.int k (k.wrap (a - b)))) := by simp [binV, intBin, orFail]
theorem binV_mul : binV X gd .mul t (.c (.d (.int k a))) (.c (.d (.int k b))) f = gNeed gd True (f (.int k (k.wrap (a * b)))) := by simp [binV, intBin, orFail]
theorem binV_quo : binV X gd .quo t (.c (.d (.int k a))) (.c (.d (.int k b))) f = gNeed gd (b ≠ 0) (f (.int k (k.wrap (a.tdiv b)))) := by simp [binV, intBin, orFail]
theorem binV_rem : binV X gd .rem t (.c (.d (.int k a))) (.c (.d (.int k b))) f = gNeed gd (b ≠ 0) (f (.int k (a.tmod b))) := by simp [binV, intBin, orFail]
theorem binV_and : binV X gd .and t (.c (.d (.int k a))) (.c (.d (.int k b))) f = gNeed gd True (f (.int k (k.wrap (BitVec.ofInt k.bits a &&& BitVec.ofInt k.bits b).toNat))) := by simp [binV, intBin, orFail]
theorem binV_or : binV X gd .or t (.c (.d (.int k a))) (.c (.d (.int k b))) f = gNeed gd True (f (.int k (k.wrap (BitVec.ofInt k.bits a ||| BitVec.ofInt k.bits b).toNat))) := by simp [binV, intBin, orFail]
theorem binV_xor : binV X gd .xor t (.c (.d (.int k a))) (.c (.d (.int k b))) f = gNeed gd True (f (.int k (k.wrap (BitVec.ofInt k.bits a ^^^ BitVec.ofInt k.bits b).toNat))) := by simp [binV, intBin, orFail]
theorem binV_andNot : binV X gd .andNot t (.c (.d (.int k a))) (.c (.d (.int k b))) f = gNeed gd True (f (.int k (k.wrap (BitVec.ofInt k.bits a &&& ~~~ (BitVec.ofInt k.bits b)).toNat))) := by simp [binV, intBin, orFail]
theorem binV_eql : binV X gd .eql t (.c (.d (.int k a))) (.c (.d (.int k b))) f = gNeed gd True (f (.bool (a == b))) := by simp [binV, intBin, orFail]
theorem binV_neq : binV X gd .neq t (.c (.d (.int k a))) (.c (.d (.int k b))) f = gNeed gd True (f (.bool (a != b))) := by simp [binV, intBin, orFail]
theorem binV_lss : binV X gd .lss t (.c (.d (.int k a))) (.c (.d (.int k b))) f = gNeed gd True (f (.bool (decide (a < b)))) := by simp [binV, intBin, orFail]
theorem binV_leq : binV X gd .leq t (.c (.d (.int k a))) (.c (.d (.int k b))) f = gNeed gd True (f (.bool (decide (a ≤ b)))) := by simp [binV, intBin, orFail]
theorem binV_gtr : binV X gd .gtr t (.c (.d (.int k a))) (.c (.d (.int k b))) f = gNeed gd True (f (.bool (decide (b < a)))) := by simp [binV, intBin, orFail]
theorem binV_geq : binV X gd .geq t (.c (.d (.int k a))) (.c (.d (.int k b))) f = gNeed gd True (f (.bool (decide (b ≤ a)))) := by simp [binV, intBin, orFail]
theorem binV_shl {k' : IntKind} : binV X gd .shl t (.c (.d (.int k a))) (.c (.d (.int k' b))) f = gNeed gd (0 ≤ b) (f (.int k (k.wrap (a * 2 ^ (Nat.min b.toNat k.bits))))) := Eq.trans rfl rfl
theorem binV_shr {k' : IntKind} : binV X gd .shr t (.c (.d (.int k a))) (.c (.d (.int k' b))) f = gNeed gd (0 ≤ b) (f (.int k (a.fdiv (2 ^ (Nat.min b.toNat k.bits))))) := Eq.trans rfl rfl
theorem binV_beq {p q : Bool} : binV X gd .eql t (.c (.d (.bool p))) (.c (.d (.bool q))) f = orFail (X.tt t) fun ti => if ti.boo = true then f (.bool (p == q)) else .fail := Eq.trans rfl rfl
theorem binV_bne {p q : Bool} : binV X gd .neq t (.c (.d (.bool p))) (.c (.d (.bool q))) f = orFail (X.tt t) fun ti => if ti.boo = true then f (.bool (!(p == q))) else .fail := Eq.trans rfl rfl
theorem binV_seq {p q : ByteArray} : binV X gd .eql t (.c (.d (.str p))) (.c (.d (.str q))) f = f (.bool (p.toList == q.toList)) := Eq.trans rfl rfl
theorem binV_sad {p q : ByteArray} : binV X gd .add t (.c (.d (.str p))) (.c (.d (.str q))) f = gNeed gd (p.size + q.size ≤ 1000000000) (f (.str (p ++ q))) := Eq.trans rfl rfl
theorem binV_sne {p q : ByteArray} : binV X gd .neq t (.c (.d (.str p))) (.c (.d (.str q))) f = f (.bool (!(p.toList == q.toList))) := Eq.trans rfl rfl
theorem binV_aeq {p q : List C} : binV X gd .eql t (.agg p) (.agg q) f = orFail (X.tt t) fun ti => if ti.flat ≠ [] ∧ cellKinds p = some ti.flat then orFail (cellsEq p q) fun b => f (.bool b) else .fail := Eq.trans rfl rfl
theorem binV_ane {p q : List C} : binV X gd .neq t (.agg p) (.agg q) f = orFail (X.tt t) fun ti => if ti.flat ≠ [] ∧ cellKinds p = some ti.flat then orFail (cellsEq p q) fun b => f (.bool (!b)) else .fail := Eq.trans rfl rfl
end

theorem cells_int {k : IntKind} {n : Int} : (D.int k n).cells = [.int k n] := Eq.trans rfl rfl
theorem cells_bool {b : Bool} : (D.bool b).cells = [.bool b] := Eq.trans rfl rfl
theorem cells_list {l : List D} : (D.list l).cells = [.list l] := Eq.trans rfl rfl
theorem cells_str {s : ByteArray} : (D.str s).cells = [.str s] := Eq.trans rfl rfl
theorem toV_str {s : ByteArray} : (D.str s).toV = .c (.d (.str s)) := Eq.trans rfl rfl
theorem okV_str {s : ByteArray} : (D.str s).okV = true := Eq.trans rfl rfl
theorem cells_agg {l : List D} : (D.agg l).cells = l := Eq.trans rfl rfl
theorem toV_int {k : IntKind} {n : Int} : (D.int k n).toV = .c (.d (.int k n)) := Eq.trans rfl rfl
theorem toV_bool {b : Bool} : (D.bool b).toV = .c (.d (.bool b)) := Eq.trans rfl rfl
theorem toV_list {l : List D} : (D.list l).toV = .c (.d (.list l)) := Eq.trans rfl rfl
theorem toV_agg {l : List D} : (D.agg l).toV = .agg (l.map .d) := Eq.trans rfl rfl
theorem okV_int {k : IntKind} {n : Int} : (D.int k n).okV = true := Eq.trans rfl rfl
theorem okV_bool {b : Bool} : (D.bool b).okV = true := Eq.trans rfl rfl
theorem okV_list {l : List D} : (D.list l).okV = true := Eq.trans rfl rfl
theorem okV_agg {l : List D} : (D.agg l).okV = true := Eq.trans rfl rfl
theorem allD_nil {p : D → Prop} : (∀ y ∈ ([] : List D), p y) = True := by simp
theorem allD_cons {p : D → Prop} {x : D} {l : List D} : (∀ y ∈ x :: l, p y) = (p x ∧ ∀ y ∈ l, p y) := by simp
theorem exD_some {α : Type} {x : D} {f : D → α → Prop} {a : α} : (∃ y, (some x = some y) ∧ f y a) = f x a := by simp

def frC : C → Name → Prop
  | .own k _, n => k ≠ n
  | .arr k _, n => k ≠ n
  | .lp k _, n => k ≠ n
  | .ap k _ _, n => k ≠ n
  | .bs k _, n => k ≠ n
  | .vw k _ _, n => k ≠ n
  | .rws k _ _, n => k ≠ n
  | .rp k _ _, n => k ≠ n
  | .fn _ caps, n => n ∉ caps.map (·.1)
  | _, _ => True
def frCs : List C → Name → Prop
  | [], _ => True
  | c :: cs, n => frC c n ∧ frCs cs n
def frV : V → Name → Prop
  | .c x, n => frC x n
  | .agg cs, n => frCs cs n
  | .tup _, _ => True
  | .ts _ cs, n => frCs cs n
  | .g _ v, n => frV v n
def frT : List (Nat × V) → Name → Prop
  | [], _ => True
  | p :: l, n => frV p.2 n ∧ frT l n
def frB : Boxes → Name → Prop
  | [], _ => True
  | p :: l, n => p.1 ≠ n ∧ frCs p.2 n ∧ frB l n
def frK : Toks → Name → Prop
  | [], _ => True
  | p :: l, n => p.1 ≠ n ∧ frK l n

theorem frC_iff (c : C) (n : Name) : frC c n ↔ n ∉ c.nms := by
  cases c <;> simp [frC, C.nms, eq_comm]
theorem frCs_iff (n : Name) : ∀ cs : List C, frCs cs n ↔ ∀ c ∈ cs, n ∉ c.nms
  | [] => by simp [frCs]
  | c :: cs => by simp [frCs, frC_iff, frCs_iff n cs]
theorem frV_iff (n : Name) : ∀ v : V, frV v n ↔ n ∉ v.nms
  | .c x => frC_iff x n
  | .agg cs => by simp [frV, V.nms, frCs_iff]
  | .tup _ => by simp [frV, V.nms]
  | .ts _ cs => by simp [frV, V.nms, frCs_iff]
  | .g _ v => frV_iff n v
theorem frT_iff (n : Name) : ∀ l : List (Nat × V), frT l n ↔ ∀ p ∈ l, n ∉ p.2.nms
  | [] => by simp [frT]
  | p :: l => by simp only [frT, frV_iff, frT_iff n l, List.forall_mem_cons]
theorem frB_iff (n : Name) : ∀ l : Boxes, frB l n ↔ ∀ p ∈ l, p.1 ≠ n ∧ ∀ c ∈ p.2, n ∉ c.nms
  | [] => by simp [frB]
  | p :: l => by simp only [frB, frCs_iff, frB_iff n l, List.forall_mem_cons, and_assoc]
theorem frK_iff (n : Name) : ∀ l : Toks, frK l n ↔ ∀ p ∈ l, p.1 ≠ n
  | [] => by simp [frK]
  | p :: l => by simp only [frK, frK_iff n l, List.forall_mem_cons]

theorem FreeB_mk {t : List (Nat × V)} {b : Boxes} {k : Toks} {n : Name} : FreeB ⟨t, b, k⟩ n = (frT t n ∧ frB b n ∧ frK k n) := by
  simp only [FreeB, frT_iff, frB_iff, frK_iff]
theorem allN_nil {p : Name → Prop} : (∀ n ∈ ([] : List Name), p n) = True := by simp
theorem allN_one {p : Name → Prop} {m : Name} : (∀ n ∈ [m], p n) = p m := by simp
theorem frT_nil {n : Name} : frT [] n = True := Eq.trans rfl rfl
theorem frT_cons {t : Nat} {v : V} {l : List (Nat × V)} {n : Name} : frT ((t, v) :: l) n = (frV v n ∧ frT l n) := Eq.trans rfl rfl
theorem frB_nil {n : Name} : frB [] n = True := Eq.trans rfl rfl
theorem frB_cons {m n : Name} {cs : List C} {l : Boxes} : frB ((m, cs) :: l) n = (m ≠ n ∧ frCs cs n ∧ frB l n) := Eq.trans rfl rfl
theorem frK_nil {n : Name} : frK [] n = True := Eq.trans rfl rfl
theorem frK_cons {m n : Name} {t : Tok} {l : Toks} : frK ((m, t) :: l) n = (m ≠ n ∧ frK l n) := Eq.trans rfl rfl
theorem frCs_nil {n : Name} : frCs [] n = True := Eq.trans rfl rfl
theorem frCs_cons {c : C} {cs : List C} {n : Name} : frCs (c :: cs) n = (frC c n ∧ frCs cs n) := Eq.trans rfl rfl
theorem frV_c {x : C} {n : Name} : frV (.c x) n = frC x n := Eq.trans rfl rfl
theorem frV_agg {x : List C} {n : Name} : frV (.agg x) n = frCs x n := Eq.trans rfl rfl
theorem frV_tup {x : List D} {n : Name} : frV (.tup x) n = True := Eq.trans rfl rfl
theorem frV_ts {sh : List (Option Nat)} {x : List C} {n : Name} : frV (.ts sh x) n = frCs x n := Eq.trans rfl rfl
theorem frV_g {γ : Bool} {v : V} {n : Name} : frV (.g γ v) n = frV v n := Eq.trans rfl rfl
theorem frC_d {x : D} {n : Name} : frC (.d x) n = True := Eq.trans rfl rfl
theorem frC_nil {n : Name} : frC .nil n = True := Eq.trans rfl rfl
theorem frC_pd {x : D} {n : Name} : frC (.pd x) n = True := Eq.trans rfl rfl
theorem frC_own {m n : Name} {l : List D} : frC (.own m l) n = (m ≠ n) := Eq.trans rfl rfl
theorem frC_arr {m n : Name} {l : Nat} : frC (.arr m l) n = (m ≠ n) := Eq.trans rfl rfl
theorem frC_lp {m n : Name} {l : Nat} : frC (.lp m l) n = (m ≠ n) := Eq.trans rfl rfl
theorem frC_ap {m n : Name} {i l : Nat} : frC (.ap m i l) n = (m ≠ n) := Eq.trans rfl rfl
theorem frC_bs {m n : Name} {l : Nat} : frC (.bs m l) n = (m ≠ n) := Eq.trans rfl rfl
theorem frC_vw {m n : Name} {i l : Nat} : frC (.vw m i l) n = (m ≠ n) := Eq.trans rfl rfl
theorem frC_rws {m n : Name} {i l : Nat} : frC (.rws m i l) n = (m ≠ n) := Eq.trans rfl rfl
theorem frC_rp {m n : Name} {i l : Nat} : frC (.rp m i l) n = (m ≠ n) := Eq.trans rfl rfl
theorem frC_fn {f : FuncId} {caps : List (Name × Nat)} {n : Name} : frC (.fn f caps) n = (n ∉ caps.map (·.1)) := Eq.trans rfl rfl

def finQ (X : Ctx) (rs : List ResultVar) (r : V) (b' : Boxes) (k' : Toks) : Exit → St → Prop
  | .normal, st => FinQ X rs r b' k' st
  | .ret, st => FinQ X rs r b' k' st
  | _, _ => False

theorem finQ_ok {X : Ctx} {rs : List ResultVar} {r : V} {b' : Boxes} {k' : Toks} : ∀ e st, finQ X rs r b' k' e st → retQ X rs r b' k' e st := by
  intro e st h
  cases e with
  | normal => exact ⟨st, .refl _ _, h⟩
  | ret => exact ⟨st, .refl _ _, h⟩
  | _ => exact h.elim

section
variable {X : Ctx} {rs : List ResultVar} {r : V} {b' : Boxes} {k' : Toks} {st : St}
theorem finQ_normal : finQ X rs r b' k' .normal st = (oel (retV X r rs st) (leV r) ∧ subB b' st.b ∧ subK k' st.k) := by
  simp only [finQ, FinQ]; cases retV X r rs st <;> rfl
theorem finQ_ret : finQ X rs r b' k' .ret st = (oel (retV X r rs st) (leV r) ∧ subB b' st.b ∧ subK k' st.k) := by
  simp only [finQ, FinQ]; cases retV X r rs st <;> rfl
def retC (X : Ctx) (T : TypeId) (b : Boxes) : V → Option V
  | .c (.lp n off) => match X.tt T with
    | some ti => match lk b n with
      | some cs => partV ti cs off
      | none => none
    | none => none
  | _ => none
theorem retC_lp {T : TypeId} {b : Boxes} {n : Name} {off : Nat} : retC X T b (.c (.lp n off)) = (X.tt T).bind fun ti => (lk b n).bind fun cs => partV ti cs off := by
  simp only [retC]
  cases X.tt T <;> simp
  cases lk b n <;> simp
theorem resV_tmp {t : Nat} : resV X st (.tmp t) = lk st.t t := rfl
theorem resV_cell {a : Nat} {T : TypeId} : resV X st (.cell a T) = (lk st.t a).bind (retC X T st.b) := by
  simp only [resV]
  cases h : lk st.t a with
  | none => rfl
  | some v =>
    simp only [Option.bind_some, retC]
    cases v with
    | c x => cases x <;> (try rfl); cases X.tt T <;> rfl
    | _ => rfl
theorem resVs_nil : resVs X st [] = some [] := rfl
theorem resVs_cons {r : ResultVar} {rs : List ResultVar} : resVs X st (r :: rs) = (resV X st r).bind fun v => (resVs X st rs).bind fun vs => some (v :: vs) := by
  simp only [resVs]; cases resV X st r <;> cases resVs X st rs <;> rfl
theorem retV_cell {a : Nat} {T : TypeId} : retV X r [.cell a T] st = (lk st.t a).bind (retC X T st.b) := resV_cell
theorem retV_two {ds : List D} {r r' : ResultVar} {rs : List ResultVar} : retV X (.tup ds) (r :: r' :: rs) st = (resVs X st (r :: r' :: rs)).bind fun vs => (toDs vs).map .tup := by
  simp only [retV]; cases resVs X st (r :: r' :: rs) <;> rfl
theorem retV_ts {sh : List (Option Nat)} {cs : List C} {r r' : ResultVar} {rs : List ResultVar} : retV X (.ts sh cs) (r :: r' :: rs) st = (resVs X st (r :: r' :: rs)).bind fun vs => (tsS vs).map fun sh => .ts sh (tsC vs) := by
  simp only [retV]; cases resVs X st (r :: r' :: rs) <;> rfl
theorem tsS_nil : tsS [] = some [] := rfl
theorem tsS_c {x : C} {vs : List V} : tsS (.c x :: vs) = (tsS vs).map (none :: ·) := rfl
theorem tsS_agg {x : List C} {vs : List V} : tsS (.agg x :: vs) = (tsS vs).map (some x.length :: ·) := rfl
theorem tsC_nil : tsC [] = [] := rfl
theorem tsC_c {x : C} {vs : List V} : tsC (.c x :: vs) = x :: tsC vs := rfl
theorem tsC_agg {x : List C} {vs : List V} : tsC (.agg x :: vs) = x ++ tsC vs := rfl
theorem retV_none {ds : List D} : retV X (.tup ds) [] st = some (.tup []) := rfl
theorem retV_tmp {t : Nat} : retV X r [.tmp t] st = lk st.t t := rfl
theorem subB_nil {m : Boxes} : subB [] m = True := rfl
theorem subK_nil {m : Toks} : subK [] m = True := rfl
theorem subB_cons {n : Name} {cs : List C} {l m : Boxes} : subB ((n, cs) :: l) m = (oel (lk m n) (leCs cs) ∧ subB l m) := by
  simp only [subB]; cases lk m n <;> rfl
theorem subK_cons {n : Name} {t : Tok} {l m : Toks} : subK ((n, t) :: l) m = (oel (lk m n) (fun t' => t = t') ∧ subK l m) := by
  simp only [subK]; cases lk m n <;> rfl
theorem leV_c {x y : C} : leV (.c x) (.c y) = leC x y := rfl
theorem leV_agg {x y : List C} : leV (.agg x) (.agg y) = leCs x y := rfl
theorem leV_tup {x y : List D} : leV (.tup x) (.tup y) = (x = y) := rfl
theorem leV_ts {sh sh' : List (Option Nat)} {x y : List C} : leV (.ts sh x) (.ts sh' y) = (sh = sh' ∧ leCs x y) := rfl
theorem leCs_nil : leCs [] [] = True := rfl
theorem leCs_cons {c d : C} {cs ds : List C} : leCs (c :: cs) (d :: ds) = (leC c d ∧ leCs cs ds) := rfl
theorem leC_int {k k' : IntKind} {n m : Int} : leC (.d (.int k n)) (.d (.int k' m)) = (k = k' ∧ n = m) := by simp [leC]
theorem leC_bool {n m : Bool} : leC (.d (.bool n)) (.d (.bool m)) = (n = m) := by simp [leC]
theorem leC_list {l m : List D} : leC (.d (.list l)) (.d (.list m)) = (l = m) := by simp [leC]
theorem leC_list_own {n : Name} {l m : List D} : leC (.d (.list l)) (.own n m) = (l = m) := rfl
theorem leC_list_nil {l : List D} : leC (.d (.list l)) .nil = (l = []) := rfl
theorem leC_own {n n' : Name} {l m : List D} : leC (.own n l) (.own n' m) = (n = n' ∧ l = m) := by simp [leC]
theorem leC_nil : leC .nil .nil = True := by simp [leC]
theorem leC_lp {n n' : Name} {i j : Nat} : leC (.lp n i) (.lp n' j) = (n = n' ∧ i = j) := by simp [leC]
end

abbrev vI (k : IntKind) (n : Int) : V := .c (.d (.int k n))
abbrev vB (n : Bool) : V := .c (.d (.bool n))
abbrev vL (l : List D) : V := .c (.d (.list l))

end Go.Vam
