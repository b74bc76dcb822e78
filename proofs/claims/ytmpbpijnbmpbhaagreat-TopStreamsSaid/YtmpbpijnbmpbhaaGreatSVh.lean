/- A part of the proof. Conditions: none. -/
import Derived.Test.YtmpbpijnbmpbhaaGreatSVg
set_option linter.unusedVariables false
set_option linter.unusedSimpArgs false
namespace Go.Vam

def oel {α:Type}:Option α→(α→Prop)→Prop
 | some x,f=>f x
 | none,_=>False

theorem Zuo {α:Type} {x:α} {f:α→Prop}:oel (some x) f=f x:=Eq.trans rfl rfl
theorem Zun {α:Type} {f:α→Prop}:oel none f=False:=Eq.trans rfl rfl
theorem wp_ret {α:Type} {st:St} {a:α} {Q:α→Prop}:(wp (.ret a) st Q)=(Q a):=Eq.trans rfl rfl
theorem ZBA {α:Type} {st:St}  {Q:α→Prop}:(wp (.fail) st Q)=(False):=Eq.trans rfl rfl
theorem ZBD {α:Type} {st:St} {n:Nat} {f:V→Rd α} {Q:α→Prop}:(wp (.getT n f) st Q)=(oel (lk st.t n) fun v=>wp (f v) st Q):=by simp only [wp,oel]; split <;> simp_all
theorem ZBB {α:Type} {st:St} {n:Name} {f:List C→Rd α} {Q:α→Prop}:(wp (.getB n f) st Q)=(oel (lk st.b n) fun v=>wp (f v) st Q):=by simp only [wp,oel]; split <;> simp_all
theorem ZBC {α:Type} {st:St} {n:Name} {f:Tok→Rd α} {Q:α→Prop}:(wp (.getK n f) st Q)=(oel (lk st.k n) fun v=>wp (f v) st Q):=by simp only [wp,oel]; split <;> simp_all
theorem ZBE {α:Type} {st:St} {p:Prop} {r:Rd α} {Q:α→Prop}:(wp (.need p r) st Q)=((p∧wp r st Q)):=Eq.trans rfl rfl
theorem ZD6 {α:Type} {st:St} {f:D→Rd α} {Q:α→Prop}:(wp (.exD f) st Q)=(∃ x,wp (f x) st Q):=Eq.trans rfl rfl
theorem ZBz {α:Type} {st:St} {γ:Bool} {r s:Rd α} {Q:α→Prop}:(wp (.case γ r s) st Q)=(((γ=true→wp r st Q)∧(γ=false→wp s st Q))):=Eq.trans rfl rfl
theorem ZD7 {α:Type} {st:St} {c:Prop} [Decidable c] {r s:Rd α} {Q:α→Prop}:(wp (if c then r else s) st Q)=((if c then wp r st Q else wp s st Q)):=by split <;> rfl
theorem ZuS {α:Type} {st:St} {gd:Option Bool} {γ:Bool} {v:V} {f:V→Rd α} {Q:α→Prop}:(wp (unG gd (.g γ v) f) st Q)=(((gd.getD true=true→γ=true)∧wp (f v) st Q)):=Eq.trans rfl rfl
theorem ZuR {α:Type} {st:St} {gd:Option Bool} {x:C} {f:V→Rd α} {Q:α→Prop}:(wp (unG gd (.c x) f) st Q)=(wp (f (.c x)) st Q):=Eq.trans rfl rfl
theorem Zl8 {α:Type} {st:St} {gd:Option Bool} {x:List C} {f:V→Rd α} {Q:α→Prop}:(wp (unG gd (.agg x) f) st Q)=(wp (f (.agg x)) st Q):=Eq.trans rfl rfl
theorem Zl9 {α:Type} {st:St} {gd:Option Bool} {x:List D} {f:V→Rd α} {Q:α→Prop}:(wp (unG gd (.tup x) f) st Q)=(wp (f (.tup x)) st Q):=Eq.trans rfl rfl
theorem ZqP {α:Type} {st:St} {gd:Option Bool} {sh:List (Option Nat)} {x:List C} {f:V→Rd α} {Q:α→Prop}:(wp (unG gd (.ts sh x) f) st Q)=(wp (f (.ts sh x)) st Q):=Eq.trans rfl rfl
theorem ZkT {α:Type} {st:St} {t:Nat} {f:V→Rd α} {Q:α→Prop}:(wp (Zv9 (.tmp t) f) st Q)=(oel (lk st.t t) fun v=>wp (f v) st Q):=by simp only [Zv9,wp,oel]; split <;> simp_all
theorem Zhb {α:Type} {st:St} {c:Value} {f:V→Rd α} {Q:α→Prop}:(wp (Zv9 (.const c) f) st Q)=(oel (Zd3 c) fun v=>wp (f v) st Q):=by simp only [Zv9]; cases Zd3 c <;> rfl
theorem Ziq {α:Type} {st:St} {i:FuncId} {f:V→Rd α} {Q:α→Prop}:(wp (Zv9 (.func i) f) st Q)=(wp (f (.c (.fn i []))) st Q):=Eq.trans rfl rfl
theorem ZBF {α:Type} {st:St} {gd:Option Bool} {x:Operand} {f:V→Rd α} {Q:α→Prop}:(wp (Zb1 gd x f) st Q)=(wp (Zv9 x fun v=>unG gd v f) st Q):=Eq.trans rfl rfl
theorem Zin {α:Type} {st:St} {gd:Option Bool} {f:List V→Rd α} {Q:α→Prop}:(wp (Zd8 gd [] f) st Q)=(wp (f []) st Q):=Eq.trans rfl rfl
theorem Zha {α:Type} {st:St} {gd:Option Bool} {x:Operand} {xs:List Operand} {f:List V→Rd α} {Q:α→Prop}:(wp (Zd8 gd (x::xs) f) st Q)=(wp (Zb1 gd x fun v=>Zd8 gd xs fun vs=>f (v::vs)) st Q):=Eq.trans rfl rfl
theorem ZD5 {α:Type} {st:St} {k:IntKind} {n:Int} {f:IntKind→Int→Rd α} {Q:α→Prop}:(wp (asI (.c (.d (.int k n))) f) st Q)=(wp (f k n) st Q):=Eq.trans rfl rfl
theorem ZD4 {α:Type} {st:St} {b:Bool} {f:Bool→Rd α} {Q:α→Prop}:(wp (asB (.c (.d (.bool b))) f) st Q)=(wp (f b) st Q):=Eq.trans rfl rfl
theorem Zl6 {α:Type} {st:St} {f:List D→Rd α} {Q:α→Prop}:(wp (asL (.c .nil) f) st Q)=(wp (f []) st Q):=Eq.trans rfl rfl
theorem Zl7 {α:Type} {st:St} {n:Name} {l:List D} {f:List D→Rd α} {Q:α→Prop}:(wp (asL (.c (.own n l)) f) st Q)=(wp (f l) st Q):=Eq.trans rfl rfl
theorem ZkS {α:Type} {st:St} {l:List D} {f:List D→Rd α} {Q:α→Prop}:(wp (asL (.c (.d (.list l))) f) st Q)=(wp (f l) st Q):=Eq.trans rfl rfl
theorem ZqO {α:Type} {st:St} {β:Type} {x:Option β} {f:β→Rd α} {Q:α→Prop}:(wp (orFail x f) st Q)=(oel x fun y=>wp (f y) st Q):=by cases x <;> rfl
theorem ZuO {α:Type} {st:St} {gd:Option Bool} {p:Prop} {r:Rd α} {Q:α→Prop}:(wp (Z5 gd p r) st Q)=(((gd.getD true=true→p)∧wp r st Q)):=Eq.trans rfl rfl
theorem Zim {α:Type} {st:St} {r:Rd α} {Q:α→Prop}:(wp (Zko none r) st Q)=(wp r st Q):=Eq.trans rfl rfl
theorem Zio {α:Type} {st:St} {gd:Option Bool} {n:Int} {f:Int→Rd α} {Q:α→Prop}:(wp (ZiA gd none n f) st Q)=(wp (f n) st Q):=Eq.trans rfl rfl
theorem Zip {α:Type} {st:St} {gd:Option Bool} {x:Operand} {n:Int} {f:Int→Rd α} {Q:α→Prop}:(wp (ZiA gd (some x) n f) st Q)=(wp (Zb1 gd x fun v=>asI v fun _ n=>f n) st Q):=Eq.trans rfl rfl
theorem Zik {α:Type} {st:St} {f:Zf→Rd α} {Q:α→Prop}:(wp (getBs [] f) st Q)=(wp (f []) st Q):=Eq.trans rfl rfl
theorem Zg8 {α:Type} {st:St} {n:Name} {ns:List Name} {f:Zf→Rd α} {Q:α→Prop}:(wp (getBs (n::ns) f) st Q)=(wp (.getB n fun cs=>getBs ns fun b=>f (ZKr n cs b)) st Q):=Eq.trans rfl rfl
theorem Zil {α:Type} {st:St} {f:Zw→Rd α} {Q:α→Prop}:(wp (getKs [] f) st Q)=(wp (f []) st Q):=Eq.trans rfl rfl
theorem Zg9 {α:Type} {st:St} {n:Name} {ns:List Name} {f:Zw→Rd α} {Q:α→Prop}:(wp (getKs (n::ns) f) st Q)=(wp (.getK n fun cs=>getKs ns fun b=>f (ZKs n cs b)) st Q):=Eq.trans rfl rfl
theorem ZuN {α β:Type} {st:St} {Q:β→Prop} {f:α→Rd β}:∀ {r:Rd α},wp (ZcA r f) st Q=wp r st (fun a=>wp (f a) st Q):=by
 intro r
 induction r with
 | ret a=>rfl
 | fail=>rfl
 | getT n g ih=>simp only [ZcA,wp]; split <;> simp_all
 | getB n g ih=>simp only [ZcA,wp]; split <;> simp_all
 | getK n g ih=>simp only [ZcA,wp]; split <;> simp_all
 | need p r ih=>simp only [ZcA,wp,ih]
 | exD g ih=>simp only [ZcA,wp,ih]
 | exM g ih=>simp only [ZcA,wp,ih]
 | case γ r s ih ih'=>simp only [ZcA,wp,ih,ih']
def Zkn (st:St) (ns:List Name):Prop:=∀ n∈ns,FreeB st n
theorem Zv5 {st:St}:Zkn st []=True:=by simp [Zkn]
theorem Zv6 {st:St} {m:Name}:Zkn st [m]=FreeB st m:=by simp [Zkn]
def ZCf (st:St) (n:Name):Bool:=st.t.all (fun p=>!p.2.nms.contains n) && st.b.all (fun p=>decide (p.1≠n) && p.2.all fun c=>!c.nms.contains n) && st.k.all fun p=>decide (p.1≠n)

theorem Zzw {st:St} {n:Name}:ZCf st n=true↔FreeB st n:=by
 simp only [ZCf,FreeB,Bool.and_eq_true,List.all_eq_true,Bool.not_eq_true',decide_eq_true_eq,List.contains_eq_mem,decide_eq_false_iff_not,and_assoc]

def ZmJ (st:St) (ops:Array Oper) (cs:List Rec):Bool:=cs.all (fun c=>c.r.new.all (ZCf st)) && (List.range cs.length).all (fun j=>(List.range j).all fun i=>match cs[i]?,cs[j]? with
  | some a,some b=>b.r.new.all fun n=>!a.nms.contains n
  | _,_=>true) && Zo4 ops cs

theorem Zr0 {st:St} {ops:Array Oper} {cs:List Rec}:ZmJ st ops cs=true↔ZzU st cs∧Zo4 ops cs=true:=by
 unfold ZmJ ZzU
 rw [Bool.and_eq_true,Bool.and_eq_true]
 simp only [List.all_eq_true (l:=cs),List.all_eq_true (p:=ZCf st),Zzw]
 exact Iff.rfl

section
variable {X:Ctx} {st:St} {Q:Exit→St→Prop}
theorem Zii {n:St→Prop}:ZkN n Q .normal st=n st:=Eq.trans rfl rfl
theorem ZqL {n:St→Prop}:ZkN n Q .ret st=Q .ret st:=Eq.trans rfl rfl
theorem Zl5 {n:St→Prop} {i:Nat}:ZkN n Q (.exit i) st=Q (.exit i) st:=Eq.trans rfl rfl
theorem ZeT {id:Nat}:Zc0 id Q .normal st=Q .normal st:=Eq.trans rfl rfl
theorem Zh8 {id:Nat}:Zc0 id Q .ret st=Q .ret st:=Eq.trans rfl rfl
theorem ZgS {id i:Nat}:Zc0 id Q (.exit i) st=if i=id then Q .normal st else Q (.exit i) st:=Eq.trans rfl rfl
end

def ZMC (f:FuncId) (vs:List V):Rd Out:=match vs with
   | [.c (.lp n off)]=>.ret { v:=.c (.fn f [(n,off+1000000000)])}
   | _=>.fail
theorem ZFi {f:FuncId} {n:Name} {off:Nat}:ZMC f [.c (.lp n off)]=.ret { v:=.c (.fn f [(n,off+1000000000)])}:=Eq.trans rfl rfl
theorem ZFj:rcv []=false:=Eq.trans rfl rfl
theorem ZFl {p q:Name×Nat} {l:List (Name×Nat)}:rcv (p::q::l)=false:=Eq.trans rfl rfl
theorem ZFk {n:Name} {o:Nat}:rcv [(n,o)]=decide (1000000000≤o):=Eq.trans rfl rfl

def ZGg (X:Ctx) (gd:Option Bool) (dst:Option Nat) (as:List Operand) (fv:V):Rd Out:=match fv with
   | .c (.fn f caps)=>Zd8 gd as fun vs=>Zj2 X gd dst f (fnA caps (vs.map (ZkY (dst.map X.mode))))
   | _=>.fail

def Zkl (gd:Option Bool) (ti:TI) (av:V):Rd Out:=match av with
  | .c (.lp n off)=>.getB n fun cs=>orFail (ZhH ti cs off) fun v=>.ret { v}
  | .c (.pd x)=>if ti.agg=true then (if x.cells.length=ti.size then match x with
    | .agg cs=>.ret { v:=.agg (cs.map .d)}
    | _=>.fail
    else .fail) else match x with
    | .agg _=>.fail
    | .tup _=>.fail
    | x=>.ret { v:=.c (.d x)}
  | .c (.rp k wd i)=>if ti.agg=false then .ret { v:=.c (.vw k (i*wd) wd)} else .fail
  | .c (.ap k i off)=>.getK k fun tk=>if ti.agg=false∧off=0 then orFail (Zfp ti) fun z=>Z5 gd (tk.isArr=true∧i < tk.l.length∧z.like (tk.l[i]?.getD z)=tk.l[i]?.getD z) (scR (z.like (tk.l[i]?.getD z)) fun y=>.need (y.okV=true) (.ret { v:=.c (.d y)})) else .exD fun x=>Z5 gd (tk.isArr=true∧tk.l[i]?=some x) (orFail (Zir ti x.cells off) fun y=>.need (y.okV=true) (.ret { v:=y.toV}))
  | _=>.fail
def Zl4 (ti:TI) (av xv:V):Rd Out:=match av with
  | .c (.lp n off)=>.getB n fun cs=>orFail xv.cells fun ys=>if ys.length=ti.size∧off+ti.size≤cs.length then .ret { v:=.tup [],b:=[(n,lay cs off ys)]} else .fail
  | .c (.ap k i off)=>.getK k fun tk=>if ti.agg=false∧off=0∧ti.size=1 then orFail (Zfp ti) fun z=>orFail xv.toD fun d=>.need (tk.isArr=true∧i < tk.l.length∧z.like (tk.l[i]?.getD z)=tk.l[i]?.getD z) (scR (z.like (tk.l[i]?.getD z)) fun _=>scR d fun d=>.ret { v:=.tup [],k:=[(k,⟨true,tk.sz,tk.l.set i d⟩)]}) else .exD fun y=>.need (tk.isArr=true∧tk.l[i]?=some y) (orFail xv.cells fun cs=>orFail (C.toDs cs) fun ds =>
    if ds.length=ti.size∧off+ti.size≤y.cells.length then
     match y with
     | .agg ys=>.ret { v:=.tup [],k:=[(k,⟨true,tk.sz,tk.l.set i (.agg (lay ys off ds))⟩)]}
     | _=>match ds with
      | [d]=>.need (d.cells.length=1) (.ret { v:=.tup [],k:=[(k,⟨true,tk.sz,tk.l.set i d⟩)]})
      | _=>.fail
    else .fail)
  | _=>.fail
def ZFU (v:V):Rd Out:=match v with
  | .c (.lp _ _)=>.ret { v}
  | .c (.pd _)=>.ret { v}
  | .c (.ap _ _ _)=>.ret { v}
  | .c (.rp _ _ _)=>.ret { v}
  | .c (.fn _ _)=>.ret { v}
  | _=>.fail
def ZtT (fi:TI) (p:Nat×Nat) (v:V):Rd Out:=match v with
  | .c (.lp n off)=>.ret { v:=.c (.lp n (off+p.1))}
  | .c (.pd (.agg cs))=>orFail (Zir fi cs p.1) fun y=>.need (fi.agg=false→∀ zs,y≠.agg zs) (.ret { v:=.c (.pd y)})
  | .c (.ap k j off)=>.ret { v:=.c (.ap k j (off+p.1))}
  | _=>.fail
def ZDC (fi:TI) (p:Nat×Nat) (v:V):Rd Out:=match v with
  | .agg cs=>orFail (ZhH fi cs p.1) fun v=>.ret { v}
  | _=>.fail
def ZDO (gd:Option Bool) (ei:TI) (n:Int) (xv:V):Rd Out:=match xv with
  | .c (.arr k len)=>.getK k fun tk=>Z5 gd (0≤n∧n < len) (.need (tk.sz=ei.size∧tk.isArr=true) (.ret { v:=.c (.ap k n.toNat 0)}))
  | .c (.bs m len)=>Z5 gd (0≤n∧n < len) (.need (ei.size=1) (.ret { v:=.c (.lp m n.toNat)}))
  | .c (.vw k off len)=>.getK k fun tk=>Z5 gd (0≤n∧n < len) (.need (tk.sz=1∧ei.size=1∧tk.isArr=true) (.ret { v:=.c (.ap k (off+n.toNat) 0)}))
  | .c (.rws k wd len)=>Z5 gd (0≤n∧n < len) (.need (ei.size=1) (.ret { v:=.c (.rp k wd n.toNat)}))
  | xv=>asL xv fun l=>orFail (Zfp ei) fun z=>Z5 gd (0≤n∧n < l.length) (.need ((l[n.toNat]?.getD z).cells.length=ei.size∧z.like (l[n.toNat]?.getD z)=l[n.toNat]?.getD z) (.ret { v:=.c (.pd (z.like (l[n.toNat]?.getD z)))}))
def ZKJ (i:Nat) (v:V):Rd Out:=match v with
  | .tup ds=>orFail (ds[i]?) fun y=>.need (y.okV=true) (.ret { v:=y.toV})
  | .ts sh cs=>orFail (Zea sh cs i) fun y=>.ret { v:=y}
  | _=>.fail

section
variable {gd:Option Bool} {ti fi ei:TI} {n:Name} {off i:Nat} {x:D} {cs:List D} {l:List D} {p:Nat×Nat} {m:Int}
theorem Zuj:Zkl gd ti (.c (.lp n off))=.getB n fun cs=>orFail (ZhH ti cs off) fun v=>.ret { v}:=Eq.trans rfl rfl
theorem Zps:Zkl gd ti (.c (.pd (.agg cs)))=if ti.agg=true then (if cs.length=ti.size then .ret { v:=.agg (cs.map .d)} else .fail) else .fail:=Eq.trans rfl rfl
theorem Zpt {k:IntKind} {m:Int}:Zkl gd ti (.c (.pd (.int k m)))=if ti.agg=true then .fail else .ret { v:=.c (.d (.int k m))}:=by
 simp only [Zkl]; split
 ·split <;> rfl
 ·rfl
theorem ZlO {b:Bool}:Zkl gd ti (.c (.pd (.bool b)))=if ti.agg=true then .fail else .ret { v:=.c (.d (.bool b))}:=by
 simp only [Zkl]; split
 ·split <;> rfl
 ·rfl
theorem ZlP:Zkl gd ti (.c (.pd (.list l)))=if ti.agg=true then .fail else .ret { v:=.c (.d (.list l))}:=by
 simp only [Zkl]; split
 ·split <;> rfl
 ·rfl
theorem Zuk {wd:Nat}:Zkl gd ti (.c (.rp n wd i))=if ti.agg=false then .ret { v:=.c (.vw n (i*wd) wd)} else .fail:=Eq.trans rfl rfl
theorem Zui:Zkl gd ti (.c (.ap n i off))=.getK n fun tk=>if ti.agg=false∧off=0 then orFail (Zfp ti) fun z=>Z5 gd (tk.isArr=true∧i < tk.l.length∧z.like (tk.l[i]?.getD z)=tk.l[i]?.getD z) (scR (z.like (tk.l[i]?.getD z)) fun y=>.need (y.okV=true) (.ret { v:=.c (.d y)})) else .exD fun x=>Z5 gd (tk.isArr=true∧tk.l[i]?=some x) (orFail (Zir ti x.cells off) fun y=>.need (y.okV=true) (.ret { v:=y.toV})):=Eq.trans rfl rfl
theorem ZqG {xv:V}:Zl4 ti (.c (.lp n off)) xv=.getB n fun cs=>orFail xv.cells fun ys=>if ys.length=ti.size∧off+ti.size≤cs.length then .ret { v:=.tup [],b:=[(n,lay cs off ys)]} else .fail:=Eq.trans rfl rfl
theorem ZqF {xv:V} (ha:(ti.agg=false∧off=0∧ti.size=1)=True):Zl4 ti (.c (.ap n i off)) xv=.getK n fun tk=>orFail (Zfp ti) fun z=>orFail xv.toD fun d=>.need (tk.isArr=true∧i < tk.l.length∧z.like (tk.l[i]?.getD z)=tk.l[i]?.getD z) (scR (z.like (tk.l[i]?.getD z)) fun _=>scR d fun d=>.ret { v:=.tup [],k:=[(n,⟨true,tk.sz,tk.l.set i d⟩)]}):=by
 simp only [Zl4,ha,if_true]
theorem ZAn {α:Type} {k:IntKind} {m:Int} {f:D→Rd α}:scR (.int k m) f=f (.int k m):=Eq.trans rfl rfl
theorem ZuC {α:Type} {b:Bool} {f:D→Rd α}:scR (.bool b) f=f (.bool b):=Eq.trans rfl rfl
theorem ZuD {α:Type} {l:List D} {f:D→Rd α}:scR (.list l) f=f (.list l):=Eq.trans rfl rfl
theorem ZzX:ZFU (.c (.lp n off))=.ret { v:=.c (.lp n off)}:=Eq.trans rfl rfl
theorem ZzY:ZFU (.c (.pd x))=.ret { v:=.c (.pd x)}:=Eq.trans rfl rfl
theorem ZzV:ZFU (.c (.ap n i off))=.ret { v:=.c (.ap n i off)}:=Eq.trans rfl rfl
theorem ZzZ {wd:Nat}:ZFU (.c (.rp n wd i))=.ret { v:=.c (.rp n wd i)}:=Eq.trans rfl rfl
theorem ZzW {f:FuncId} {caps:List (Name×Nat)}:ZFU (.c (.fn f caps))=.ret { v:=.c (.fn f caps)}:=Eq.trans rfl rfl
theorem Zo7:ZtT fi p (.c (.lp n off))=.ret { v:=.c (.lp n (off+p.1))}:=Eq.trans rfl rfl
theorem Zo8:ZtT fi p (.c (.pd (.agg cs)))=orFail (Zir fi cs p.1) fun y=>.need (fi.agg=false→∀ zs,y≠.agg zs) (.ret { v:=.c (.pd y)}):=Eq.trans rfl rfl
theorem Zo6:ZtT fi p (.c (.ap n i off))=.ret { v:=.c (.ap n i (off+p.1))}:=Eq.trans rfl rfl
theorem ZlK {cs:List C}:ZDC fi p (.agg cs)=orFail (ZhH fi cs p.1) fun v=>.ret { v}:=Eq.trans rfl rfl
theorem ZCq {k:IntKind} {a:Int} {y:D}:(D.int k a).like y=.int k y.toI:=Eq.trans rfl rfl
theorem ZzL {a:Bool} {y:D}:(D.bool a).like y=.bool y.toB:=Eq.trans rfl rfl
theorem ZzM {a:List D} {y:D}:(D.list a).like y=.list y.toL:=Eq.trans rfl rfl
theorem ZCp {a:List D} {y:D}:(D.agg a).like y=.agg (Zv1 a y.cells):=Eq.trans rfl rfl
theorem ZzK {k:IntKind} {a:Int} {y:D}:(D.int k a).like1 y=.int k y.toI:=Eq.trans rfl rfl
theorem ZvZ {a:Bool} {y:D}:(D.bool a).like1 y=.bool y.toB:=Eq.trans rfl rfl
theorem Zv0 {a:List D} {y:D}:(D.list a).like1 y=.list y.toL:=Eq.trans rfl rfl
theorem ZzN {a:List D}:Zv1 [] a=[]:=Eq.trans rfl rfl
theorem Zv2 {z c:D} {zs cs:List D}:Zv1 (z::zs) (c::cs)=z.like1 c::Zv1 zs cs:=Eq.trans rfl rfl
theorem ZFD {k:IntKind} {n:Int}:(D.int k n).toI=n:=Eq.trans rfl rfl
theorem ZDb {n:Bool}:(D.bool n).toB=n:=Eq.trans rfl rfl
theorem ZDd {n:List D}:(D.list n).toL=n:=Eq.trans rfl rfl
theorem ZrT:ZaS [] []=some true:=Eq.trans rfl rfl
theorem ZrS {k k':IntKind} {a b:Int} {l m:List C}:ZaS (.d (.int k a)::l) (.d (.int k' b)::m)=if k=k' then (ZaS l m).map (fun r=>(a==b) && r) else none:=Eq.trans rfl rfl
theorem ZoU {a b:Bool} {l m:List C}:ZaS (.d (.bool a)::l) (.d (.bool b)::m)=(ZaS l m).map (fun r=>(a==b) && r):=Eq.trans rfl rfl
theorem ZmF:ZaC []=some []:=Eq.trans rfl rfl
theorem ZmE {k:IntKind} {a:Int} {l:List C}:ZaC (.d (.int k a)::l)=(ZaC l).map (fun r=>true::r):=Eq.trans rfl rfl
theorem ZkW {a:Bool} {l:List C}:ZaC (.d (.bool a)::l)=(ZaC l).map (fun r=>false::r):=Eq.trans rfl rfl
theorem Zt9 {len:Nat}:ZDO gd ei m (.c (.arr n len))=.getK n fun tk=>Z5 gd (0≤m∧m < len) (.need (tk.sz=ei.size∧tk.isArr=true) (.ret { v:=.c (.ap n m.toNat 0)})):=Eq.trans rfl rfl
theorem ZzB {len:Nat}:ZDO gd ei m (.c (.bs n len))=Z5 gd (0≤m∧m < len) (.need (ei.size=1) (.ret { v:=.c (.lp n m.toNat)})):=Eq.trans rfl rfl
theorem ZzC {len:Nat}:ZDO gd ei m (.c (.vw n off len))=.getK n fun tk=>Z5 gd (0≤m∧m < len) (.need (tk.sz=1∧ei.size=1∧tk.isArr=true) (.ret { v:=.c (.ap n (off+m.toNat) 0)})):=Eq.trans rfl rfl
theorem Zub {wd len:Nat}:ZDO gd ei m (.c (.rws n wd len))=Z5 gd (0≤m∧m < len) (.need (ei.size=1) (.ret { v:=.c (.rp n wd m.toNat)})):=Eq.trans rfl rfl
theorem Zua:ZDO gd ei m (.c (.own n l))=orFail (Zfp ei) fun z=>Z5 gd (0≤m∧m < l.length) (.need ((l[m.toNat]?.getD z).cells.length=ei.size∧z.like (l[m.toNat]?.getD z)=l[m.toNat]?.getD z) (.ret { v:=.c (.pd (z.like (l[m.toNat]?.getD z)))})):=Eq.trans rfl rfl
theorem Zpl:ZDO gd ei m (.c (.d (.list l)))=orFail (Zfp ei) fun z=>Z5 gd (0≤m∧m < l.length) (.need ((l[m.toNat]?.getD z).cells.length=ei.size∧z.like (l[m.toNat]?.getD z)=l[m.toNat]?.getD z) (.ret { v:=.c (.pd (z.like (l[m.toNat]?.getD z)))})):=Eq.trans rfl rfl
theorem Zzf {sh:List (Option Nat)} {cs:List C}:ZKJ i (.ts sh cs)=orFail (Zea sh cs i) fun y=>.ret { v:=y}:=Eq.trans rfl rfl
theorem ZDi {sh:List (Option Nat)} {c:C} {cs:List C}:Zea (none::sh) (c::cs) 0=some (.c c):=rfl
theorem ZDj {sh:List (Option Nat)} {c:C} {cs:List C} {i:Nat}:Zea (none::sh) (c::cs) (i+1)=Zea sh cs i:=rfl
theorem ZDg {sh:List (Option Nat)} {k:Nat} {cs:List C}:Zea (some k::sh) cs 0=if k≤cs.length then some (.agg (cs.take k)) else none:=rfl
theorem ZDh {sh:List (Option Nat)} {k:Nat} {cs:List C} {i:Nat}:Zea (some k::sh) cs (i+1)=if k≤cs.length then Zea sh (cs.drop k) i else none:=rfl
theorem ZtS:ZKJ i (.tup l)=orFail (l[i]?) fun y=>.need (y.okV=true) (.ret { v:=y.toV}):=Eq.trans rfl rfl
end

section
variable {X:Ctx} {gd:Option Bool} {dst:Option Nat} {t:TypeId} {v:V} {k k' k'':IntKind} {a b c:Int} {n:Name} {l:List D} {m:Nat}
theorem ZlF {s:ByteArray}:Z0 X gd dst .len (List.toArray [t]) [.c (.d (.str s))]=.need (X.P.underlying t=some .string) (.ret { v:=.c (.d (.int .i64 s.size))}):=Eq.trans rfl rfl
theorem ZlB:Z0 X gd dst .len (List.toArray [t]) [.c (.arr n m)]=orFail (X.tt t) fun ti=>orFail ti.elem fun _=>.ret { v:=.c (.d (.int .i64 m))}:=Eq.trans rfl rfl
theorem ZoP:Z0 X gd dst .len (List.toArray [t]) [.c (.bs n m)]=orFail (X.tt t) fun ti=>orFail ti.elem fun _=>.ret { v:=.c (.d (.int .i64 m))}:=Eq.trans rfl rfl
theorem ZoQ {o:Nat}:Z0 X gd dst .len (List.toArray [t]) [.c (.vw n o m)]=orFail (X.tt t) fun ti=>orFail ti.elem fun _=>.ret { v:=.c (.d (.int .i64 m))}:=Eq.trans rfl rfl
theorem ZlE {o:Nat}:Z0 X gd dst .len (List.toArray [t]) [.c (.rws n o m)]=orFail (X.tt t) fun ti=>orFail ti.elem fun _=>.ret { v:=.c (.d (.int .i64 m))}:=Eq.trans rfl rfl
theorem ZlD:Z0 X gd dst .len (List.toArray [t]) [.c (.own n l)]=orFail (X.tt t) fun ti=>orFail ti.elem fun _=>.ret { v:=.c (.d (.int .i64 l.length))}:=Eq.trans rfl rfl
theorem ZlC:Z0 X gd dst .len (List.toArray [t]) [.c .nil]=orFail (X.tt t) fun ti=>orFail ti.elem fun _=>.ret { v:=.c (.d (.int .i64 0))}:=Eq.trans rfl rfl
theorem ZjR:Z0 X gd dst .len (List.toArray [t]) [.c (.d (.list l))]=orFail (X.tt t) fun ti=>orFail ti.elem fun _=>.ret { v:=.c (.d (.int .i64 l.length))}:=Eq.trans rfl rfl
theorem ZDv {ts:Array TypeId}:Z0 X gd dst .min ts [.c (.d (.int k a)),.c (.d (.int k' b))]=.ret { v:=.c (.d (.int k (if b < a then b else a)))}:=Eq.trans rfl rfl
theorem ZDu {ts:Array TypeId}:Z0 X gd dst .max ts [.c (.d (.int k a)),.c (.d (.int k' b))]=.ret { v:=.c (.d (.int k (if a < b then b else a)))}:=Eq.trans rfl rfl
theorem ZyG {ts:Array TypeId}:Z0 X gd dst .max ts [.c (.d (.int k a)),.c (.d (.int k' b)),.c (.d (.int k'' c))]=.ret { v:=.c (.d (.int k (if (if a < b then b else a) < c then c else (if a < b then b else a))))}:=Eq.trans rfl rfl
theorem ZlA {t t':TypeId} {s x:V} (h:(t=t')=False):Z0 X gd dst .append (List.toArray [t,t']) [s,x]=Zko gd (ZmA X dst t t' s x):=by simp [Z0,h]
theorem ZyF {t t':TypeId} {s x:V}:Z0 X gd dst .copy (List.toArray [t,t']) [s,x]=Zko gd (Zj6 X t s x):=Eq.trans rfl rfl
theorem ZjQ {t:TypeId} {n:Name} {len:Nat} {s:V}:Zj6 X t (.c (.arr n len)) s=orFail (X.tt t) fun ti=>orFail ti.elem fun e=>orFail (X.tt e) fun ei=>asL s fun xs=>.getK n fun tk =>
  .need (ei.size=1∧tk.isArr=true∧tk.sz=1∧len=tk.l.length∧xs.length≤len∧∀ x∈xs,x.cells.length=1) (.ret { v:=.c (.d (.int .i64 xs.length)),k:=[(n,⟨true,1,xs++tk.l.drop xs.length⟩)]}):=Eq.trans rfl rfl
theorem ZoO {s x:V}:Z0 X gd dst .append (List.toArray [t,t]) [s,x]=Zko gd (ZgO X dst t s x):=by simp [Z0]
end

section
variable {X:Ctx} {ops:Array Oper} {dst:Option Nat} {op:Op} {ty:TypeId} {pos:String} {aft:Array Edge} {gd:Option Bool} {g:Option (Nat×Bool)}

def ZGt (ops:Array Oper) (j:Nat):Option Nat:=(ops[j]?).bind (·.dst)
theorem Zpg {o:Oper} {l:List Oper}:ZGt (List.toArray (o::l)) 0=o.dst:=Eq.trans rfl rfl
theorem Zpf {o:Oper} {l:List Oper} {j:Nat}:ZGt (List.toArray (o::l)) (j+1)=ZGt (List.toArray l) j:=by simp [ZGt]

theorem ZlS:ZeU X ops ⟨dst,op,ty,pos,aft,none⟩=ZcA (Zab X none ⟨dst,op,ty,pos,aft,none⟩) fun r=>.ret (none,r):=Eq.trans rfl rfl
theorem ZlT {j:Nat} {want:Bool}:ZeU X ops ⟨dst,op,ty,pos,aft,some (j,want)⟩=orFail (ZGt ops j) fun tg=>.getT tg fun gv=>orFail (ZhA gv) fun g =>
  if Op.eff X ⟨dst,op,ty,pos,aft,some (j,want)⟩=true then .case (g.1 && (g.2==want)) (ZcA (Zab X none ⟨dst,op,ty,pos,aft,some (j,want)⟩) fun r=>.ret (none,r)) (.ret (some false,{ v:=ZAq X dst}))
  else ZcA (Zab X (some (g.1 && (g.2==want))) ⟨dst,op,ty,pos,aft,some (j,want)⟩) fun r=>.need (r.b=[]∧r.k=[]∧r.new=[]) (.ret (some (g.1 && (g.2==want)),r)):=Eq.trans rfl rfl
theorem Zwi {d:Nat}:ZAq X (some d)=if X.mode d=9 then .c (.d (.bool false)) else .c (.d (.int .i64 0)):=by simp only [ZAq,Option.map_some,Option.some.injEq]
theorem Zwh:ZAq X none=.c (.d (.int .i64 0)):=Eq.trans rfl rfl
theorem ZlW {x:Operand}:Zab X gd ⟨dst,.move x,ty,pos,aft,g⟩=(Zb1 gd x fun v=>.ret { v}):=Eq.trans rfl rfl
theorem Zib {x:Operand}:Zab X gd ⟨dst,.assign x,ty,pos,aft,g⟩=(Zb1 gd x fun v=>.ret { v}):=Eq.trans rfl rfl
theorem ZlX {c a b:Operand}:Zab X gd ⟨dst,.pick c a b,ty,pos,aft,g⟩=(Zb1 gd c fun cv=>asB cv fun cb=>Zv9 a fun av=>Zv9 b fun bv =>
  orFail (ZhA av) fun x=>orFail (ZhA bv) fun y =>
  Z5 gd (cb=true→x.1=true) (Z5 gd (cb=false→y.1=true) (.ret { v:=.c (.d (.bool (cond cb x.2 y.2)))}))):=Eq.trans rfl rfl
theorem Zks {e:TypeId}:Zab X gd ⟨dst,.alloc e,ty,pos,aft,g⟩=(Zko gd (orFail dst fun d=>orFail (X.tt e) fun ti=>.ret { v:=.c (.lp ⟨X.L,d⟩ 0),b:=[(⟨X.L,d⟩,ti.zero)],new:=[⟨X.L,d⟩]})):=Eq.trans rfl rfl
theorem Zpw {e:TypeId} {x:Operand}:Zab X gd ⟨dst,.box e x,ty,pos,aft,g⟩=(Zko gd (orFail dst fun d=>Zb1 gd x fun v=>orFail v.cells fun cs=>.ret { v:=.c (.lp ⟨X.L,d⟩ 0),b:=[(⟨X.L,d⟩,cs)],new:=[⟨X.L,d⟩]})):=Eq.trans rfl rfl
def ZoS (X:Ctx) (ti:TI) (l:List (Nat×V)):Rd Out:=match ti.arr with
  | some e=>orFail (X.tt e) fun ei=>if ti.agg=true then orFail (Zco ei.size ti.zero l) fun cs=>.ret { v:=.agg cs} else .fail
  | none=>if ti.agg=true∧ti.fields≠[] then orFail (Zbe X ti.fields ti.zero l) fun cs=>.ret { v:=.agg cs} else .fail
theorem Zku {t:TypeId} {ps:Array (Nat×Operand)}:Zab X gd ⟨dst,.build t ps,ty,pos,aft,g⟩=(Zd8 gd (ps.toList.map (·.2)) fun vs=>orFail (X.tt t) fun ti=>ZoS X ti ((ps.toList.map (·.1)).zip vs)):=Eq.trans rfl rfl
theorem ZjZ {ti:TI} {l:List (Nat×V)} (h:ti.arr=none):ZoS X ti l=if ti.agg=true∧ti.fields≠[] then orFail (Zbe X ti.fields ti.zero l) fun cs=>.ret { v:=.agg cs} else .fail:=by simp only [ZoS,h]
theorem Zj0 {ti:TI} {l:List (Nat×V)} {e:Nat} (h:ti.arr=some e):ZoS X ti l=orFail (X.tt e) fun ei=>if ti.agg=true then orFail (Zco ei.size ti.zero l) fun cs=>.ret { v:=.agg cs} else .fail:=by simp only [ZoS,h]
theorem Zd6 {t:TypeId} {len:Nat} {ps:Array (Nat×Operand)}:Zab X gd ⟨dst,.buildSlice t len ps,ty,pos,aft,g⟩=(Zd8 gd (ps.toList.map (·.2)) fun vs=>orFail (X.tt t) fun ti=>orFail ti.elem fun e=>orFail (X.tt e) fun ei =>
  if ps.toList.map (·.1)=List.range len∧len*ei.size≤16777216 then
   if (dst.map X.mode)=some 5 then Zko gd (.need (ei.size=1) (orFail (ZDc vs) fun cs=>orFail dst fun d=>.ret { v:=.c (.bs ⟨X.L,d⟩ len),b:=[(⟨X.L,d⟩,cs)],new:=[⟨X.L,d⟩]}))
   else orFail (toDs vs) fun l=>.need (∀ y∈l,y.cells.length=ei.size) <|
   if (dst.map X.mode)=some 1 then Zko gd (orFail dst fun d=>.ret { v:=.c (.own ⟨X.L,d⟩ l),k:=[(⟨X.L,d⟩,⟨false,ei.size,l⟩)],new:=[⟨X.L,d⟩]})
   else .ret { v:=.c (.d (.list l))}
  else .fail):=Eq.trans rfl rfl
theorem ZlV {t:TypeId} {a:Operand}:Zab X gd ⟨dst,.load t a,ty,pos,aft,g⟩=(Zb1 gd a fun av=>orFail (X.tt t) fun ti=>Zkl gd ti av):=Eq.trans rfl rfl
theorem Zky {t:TypeId} {a x:Operand}:Zab X gd ⟨none,.store t a x,ty,pos,aft,g⟩=Zko gd (Zb1 gd a fun av=>Zb1 gd x fun xv=>orFail (X.tt t) fun ti=>Zl4 ti av xv):=Eq.trans rfl rfl
theorem Zfw {x:Operand}:Zab X gd ⟨dst,.nilCheck x,ty,pos,aft,g⟩=(Zb1 gd x ZFU):=Eq.trans rfl rfl
theorem Zkt {bop:BinOp} {t t':TypeId} {x y:Operand}:Zab X gd ⟨dst,.binOp bop t x y t',ty,pos,aft,g⟩=(Zb1 gd x fun xv=>Zb1 gd y fun yv=>Zc7 X gd bop t xv yv fun d=>.ret { v:=.c (.d d)}):=Eq.trans rfl rfl
theorem Zpx {t:TypeId} {x:Operand}:Zab X gd ⟨dst,.unOp .neg t x,ty,pos,aft,g⟩=(Zb1 gd x fun v=>asI v fun k n=>.ret { v:=.c (.d (.int k (k.wrap (0 - n))))}):=by
 simp only [Zab]; congr 1; funext v; unfold asI; split <;> simp_all
theorem Zpy {t:TypeId} {x:Operand}:Zab X gd ⟨dst,.unOp .not t x,ty,pos,aft,g⟩=(Zb1 gd x fun v=>asB v fun b=>.ret { v:=.c (.d (.bool (!b)))}):=by
 simp only [Zab]; congr 1; funext v; unfold asB; split <;> simp_all
def Zy1 (X:Ctx) (s t:TypeId) (v:V):Rd Out:=match v with
  | .c (.d (.int _ n))=>orFail (X.tt s) fun _=>orFail (X.tt t) fun ti=>orFail ti.kind fun k=>.ret { v:=.c (.d (.int k (k.wrap n)))}
  | v=>asL v fun l=>.need (Zj1 X.P s t) (.need (∀ y∈l,y.isU8=true) (.ret { v:=.c (.d (.str (ZCZ l)))}))
theorem ZgW {s t:TypeId} {x:Operand}:Zab X gd ⟨dst,.convert s t x,ty,pos,aft,g⟩=(Zb1 gd x fun v=>Zy1 X s t v):=Eq.trans rfl rfl
theorem ZoY {s t:TypeId} {k:IntKind} {n:Int}:Zy1 X s t (.c (.d (.int k n)))=orFail (X.tt s) fun _=>orFail (X.tt t) fun ti=>orFail ti.kind fun k=>.ret { v:=.c (.d (.int k (k.wrap n)))}:=Eq.trans rfl rfl
theorem ZlJ {s t:TypeId} {l:List D}:Zy1 X s t (.c (.d (.list l)))=.need (Zj1 X.P s t) (.need (∀ y∈l,y.isU8=true) (.ret { v:=.c (.d (.str (ZCZ l)))})):=Eq.trans rfl rfl
theorem Zo0 {s t:TypeId} {k:Name} {l:List D}:Zy1 X s t (.c (.own k l))=.need (Zj1 X.P s t) (.need (∀ y∈l,y.isU8=true) (.ret { v:=.c (.d (.str (ZCZ l)))})):=Eq.trans rfl rfl
theorem ZoZ {s t:TypeId}:Zy1 X s t (.c .nil)=.need (Zj1 X.P s t) (.need (∀ y∈([]:List D),y.isU8=true) (.ret { v:=.c (.d (.str (ZCZ [])))})):=Eq.trans rfl rfl
theorem ZeX {t:TypeId} {l c:Operand}:Zab X gd ⟨dst,.makeSlice t l c,ty,pos,aft,g⟩=(Zb1 gd l fun lv=>Zb1 gd c fun cv=>asI lv fun _ n=>asI cv fun _ m =>
  orFail (X.tt t) fun ti=>orFail ti.elem fun e=>orFail (X.tt e) fun ei=>orFail (Zfp ei) fun z =>
  Z5 gd (0≤n∧n≤m∧m*ei.bytes≤140737488355328∧m≤9223372036854775807) <|
  if z.cells.length=ei.size∧0 < ei.size then
   if (dst.map X.mode)=some 1 then Zko gd (orFail dst fun d=>.ret { v:=.c (.own ⟨X.L,d⟩ (List.replicate n.toNat z)),k:=[(⟨X.L,d⟩,⟨false,ei.size,List.replicate n.toNat z⟩)],new:=[⟨X.L,d⟩]})
   else if (dst.map X.mode)=some 2 then Zko gd (.need (n=m) (orFail dst fun d=>.ret { v:=.c (.arr ⟨X.L,d⟩ n.toNat),k:=[(⟨X.L,d⟩,⟨true,ei.size,List.replicate n.toNat z⟩)],new:=[⟨X.L,d⟩]}))
   else if (dst.map X.mode)=some 5 then Zko gd (.need (n=m∧ei.size=1) (orFail (ei.zero[0]?) fun c0=>orFail dst fun d=>.ret { v:=.c (.bs ⟨X.L,d⟩ n.toNat),b:=[(⟨X.L,d⟩,List.replicate n.toNat c0)],new:=[⟨X.L,d⟩]}))
   else .ret { v:=.c (.d (.list (List.replicate n.toNat z)))}
  else .fail):=Eq.trans rfl rfl
def ZpM (gd:Option Bool) (ei:TI) (lo hi mx:Option Operand) (xv:V):Rd Out:=match xv with
  | .c (.arr k len)=>.getK k fun tk=>ZiA gd lo 0 fun n=>ZiA gd hi len fun h=>ZiA gd mx h fun m =>
   .need (mx.isSome=true∧hi.isSome=true) <|
   Z5 gd (0≤n∧n < h∧h=m∧m≤len) <|
   .need (tk.sz=1∧ei.size=1∧tk.isArr=true) (.ret { v:=.c (.vw k n.toNat (h - n).toNat)})
  | xv=>asL xv fun l =>
  ZiA gd lo 0 fun n=>ZiA gd hi l.length fun h=>ZiA gd mx h fun m =>
  .need (mx.isSome=true→hi.isSome=true) <|
  Z5 gd (0≤n∧n≤h∧h≤m∧m≤l.length) <|
  .need (∀ y∈l,y.cells.length=ei.size) <|
  if ZkU mx=true then .ret { v:=.c .nil} else .ret { v:=.c (.d (.list (cut l n.toNat (h.toNat - n.toNat))))}
theorem Zkx {t:TypeId} {x:Operand} {lo hi mx:Option Operand}:Zab X gd ⟨dst,.slice t x lo hi mx,ty,pos,aft,g⟩=(Zb1 gd x fun xv=>orFail (X.tt t) fun ti=>orFail ti.elem fun e=>orFail (X.tt e) fun ei=>ZpM gd ei lo hi mx xv):=Eq.trans rfl rfl
def ZuF (gd:Option Bool) (ei:TI) (lo hi mx:Option Operand) (l:List D):Rd Out :=
  ZiA gd lo 0 fun n=>ZiA gd hi l.length fun h=>ZiA gd mx h fun m =>
  .need (mx.isSome=true→hi.isSome=true) <|
  Z5 gd (0≤n∧n≤h∧h≤m∧m≤l.length) <|
  .need (∀ y∈l,y.cells.length=ei.size) <|
  if ZkU mx=true then .ret { v:=.c .nil} else .ret { v:=.c (.d (.list (cut l n.toNat (h.toNat - n.toNat))))}
theorem ZpL {ei:TI} {lo hi mx:Option Operand} {l:List D}:ZuF gd ei lo hi mx l=ZiA gd lo 0 fun n=>ZiA gd hi l.length fun h=>ZiA gd mx h fun m =>
  .need (mx.isSome=true→hi.isSome=true) <|
  Z5 gd (0≤n∧n≤h∧h≤m∧m≤l.length) <|
  .need (∀ y∈l,y.cells.length=ei.size) <|
  if ZkU mx=true then .ret { v:=.c .nil} else .ret { v:=.c (.d (.list (cut l n.toNat (h.toNat - n.toNat))))}:=Eq.trans rfl rfl
theorem Zl3 {ei:TI} {lo hi mx:Option Operand} {n:Name} {l:List D}:ZpM gd ei lo hi mx (.c (.own n l))=ZuF gd ei lo hi mx l:=Eq.trans rfl rfl
theorem ZkJ {ei:TI} {lo hi mx:Option Operand} {l:List D}:ZpM gd ei lo hi mx (.c (.d (.list l)))=ZuF gd ei lo hi mx l:=Eq.trans rfl rfl
theorem Zl2 {ei:TI} {lo hi mx:Option Operand}:ZpM gd ei lo hi mx (.c .nil)=ZuF gd ei lo hi mx []:=Eq.trans rfl rfl
theorem Zl1 {ei:TI} {lo hi mx:Option Operand} {k:Name} {len:Nat}:ZpM gd ei lo hi mx (.c (.arr k len))=.getK k fun tk=>ZiA gd lo 0 fun n=>ZiA gd hi len fun h=>ZiA gd mx h fun m =>
   .need (mx.isSome=true∧hi.isSome=true) <|
   Z5 gd (0≤n∧n < h∧h=m∧m≤len) <|
   .need (tk.sz=1∧ei.size=1∧tk.isArr=true) (.ret { v:=.c (.vw k n.toNat (h - n).toNat)}):=Eq.trans rfl rfl
theorem ZeV {t:TypeId} {x:Operand} {i:Nat}:Zab X gd ⟨dst,.fieldAddr t x i,ty,pos,aft,g⟩=(Zb1 gd x fun v=>orFail (X.tt t) fun ti=>orFail (ti.fields[i]?) fun p=>orFail (X.tt p.2) fun fi=>if 0 < fi.size∧ti.agg=true then ZtT fi p v else .fail):=Eq.trans rfl rfl
def ZMx (X:Ctx) (gd:Option Bool) (t:TypeId) (n:Int) (xv:V):Rd Out:=match xv with
  | .c (.d (.str s))=>.need (X.P.underlying t=some .string) (Z5 gd (0≤n∧n < (s.size:Int)) (.ret { v:=.c (.d (.int .u8 (s.toList[n.toNat]?.getD 0).toNat))}))
  | _=>.fail
theorem Zt8 {s:ByteArray} {n:Int} {t:TypeId}:ZMx X gd t n (.c (.d (.str s)))=.need (X.P.underlying t=some .string) (Z5 gd (0≤n∧n < (s.size:Int)) (.ret { v:=.c (.d (.int .u8 (s.toList[n.toNat]?.getD 0).toNat))})):=Eq.trans rfl rfl
theorem Zkw {t:TypeId} {x i:Operand}:Zab X gd ⟨dst,.index t x i,ty,pos,aft,g⟩=(Zb1 gd x fun xv=>Zb1 gd i fun iv=>asI iv fun _ n=>ZMx X gd t n xv):=Eq.trans rfl rfl
theorem Zkv {t:TypeId} {x:Operand} {i:Nat}:Zab X gd ⟨dst,.field t x i,ty,pos,aft,g⟩=(Zb1 gd x fun v=>orFail (X.tt t) fun ti=>orFail (ti.fields[i]?) fun p=>orFail (X.tt p.2) fun fi=>if ti.agg=true then ZDC fi p v else .fail):=Eq.trans rfl rfl
def ZGw (X:Ctx) (gd:Option Bool) (ti:TI) (n:Int) (xv:V):Rd Out:=match ti.arr with
  | some e=>orFail (X.tt e) fun ei=>(match xv with
   | .c (.lp m off)=>Z5 gd (0≤n∧n.toNat*ei.size+ei.size≤ti.size∧0 < ei.size) (.ret { v:=.c (.lp m (off+n.toNat*ei.size))})
   | _=>.fail)
  | none=>orFail ti.elem fun e=>orFail (X.tt e) fun ei=>ZDO gd ei n xv
theorem ZeW {t:TypeId} {x i:Operand}:Zab X gd ⟨dst,.indexAddr t x i,ty,pos,aft,g⟩=(Zb1 gd x fun xv=>Zb1 gd i fun iv=>asI iv fun _ n=>orFail (X.tt t) fun ti=>ZGw X gd ti n xv):=Eq.trans rfl rfl
theorem Zpj {ti:TI} {n:Int} {xv:V} (h:ti.arr=none):ZGw X gd ti n xv=orFail ti.elem fun e=>orFail (X.tt e) fun ei=>ZDO gd ei n xv:=by simp only [ZGw,h]
theorem Zpk {ti:TI} {n:Int} {m:Name} {off:Nat} {e:Nat} (h:ti.arr=some e):ZGw X gd ti n (.c (.lp m off))=orFail (X.tt e) fun ei=>Z5 gd (0≤n∧n.toNat*ei.size+ei.size≤ti.size∧0 < ei.size) (.ret { v:=.c (.lp m (off+n.toNat*ei.size))}):=by simp only [ZGw,h]
theorem ZgX {x:Operand} {i:Nat}:Zab X gd ⟨dst,.extract x i,ty,pos,aft,g⟩=(Zb1 gd x fun v=>ZKJ i v):=Eq.trans rfl rfl
theorem Zfv {f:FuncId} {l caps:List Operand}:Zab X gd ⟨dst,.makeFunc (.func f) l.toArray caps.toArray,ty,pos,aft,g⟩=(if l.length=0 then Zd8 gd caps fun vs =>
   orFail (vs.foldr (fun v acc=>match v,acc with
    | .c (.lp n off),some l=>some ((n,off)::l)
    | _,_=>none) (some [])) fun l=>.need (rcv l=false) (.ret { v:=.c (.fn f l)})
  else if caps.length=0 then Zd8 gd l fun vs=>ZMC f vs
  else .fail):=Eq.trans rfl rfl
theorem ZgV {b:Builtin} {as:List Operand} {ts:Array TypeId}:Zab X gd ⟨dst,.call { callee:=.builtin b,args:=as.toArray,argTypes:=ts},ty,pos,aft,g⟩=Zd8 gd as fun vs=>Z0 X gd dst b ts vs:=Eq.trans rfl rfl
theorem ZlU {fo:Operand} {as:List Operand} {ts:Array TypeId}:Zab X gd ⟨dst,.call { callee:=.value fo,args:=as.toArray,argTypes:=ts},ty,pos,aft,g⟩=Zb1 gd fo fun fv=>ZGg X gd dst as fv:=Eq.trans rfl rfl
theorem ZtO {f:FuncId} {caps:List (Name×Nat)} {as:List Operand}:ZGg X gd dst as (.c (.fn f caps))=Zd8 gd as fun vs=>Zj2 X gd dst f (fnA caps (vs.map (ZkY (dst.map X.mode)))):=Eq.trans rfl rfl
end


theorem ZvG {t:List (Nat×V)} {b:Zf} {k:Zw} {d:Nat} {v:V} {b':Zf} {k':Zw} {ns:List Name}:St.apply ⟨t,b,k⟩ (some d) none ⟨v,b',k',ns⟩=⟨(d,v)::t,b'++b,k'++k⟩:=Eq.trans rfl rfl
theorem ZEu {t:List (Nat×V)} {b:Zf} {k:Zw} {d:Nat} {γ:Bool} {v:V} {b':Zf} {k':Zw} {ns:List Name}:St.apply ⟨t,b,k⟩ (some d) (some γ) ⟨v,b',k',ns⟩=⟨(d,.g γ v)::t,b'++b,k'++k⟩:=Eq.trans rfl rfl
theorem ZvF {t:List (Nat×V)} {b:Zf} {k:Zw} {v:V} {b':Zf} {k':Zw} {ns:List Name} {gd:Option Bool}:St.apply ⟨t,b,k⟩ none gd ⟨v,b',k',ns⟩=⟨t,b'++b,k'++k⟩:=by cases gd <;> exact Eq.trans rfl rfl
theorem ZEz {b:Bool}:ZhA (.c (.d (.bool b)))=some (true,b):=Eq.trans rfl rfl
theorem ZEA {γ b:Bool}:ZhA (.g γ (.c (.d (.bool b))))=some (γ,b):=Eq.trans rfl rfl
theorem Zy0 {t:Nat} {st:St}:ZmH (.tmp t) st=(lk st.t t).bind ZhA:=by simp only [ZmH]; cases lk st.t t <;> rfl
theorem ZrV {b:Bool} {st:St}:ZmH (.const (.bool b)) st=some (true,b):=Eq.trans rfl rfl
theorem Zv7 {α β:Type} {x:α} {f:α→Option β}:(some x).bind f=f x:=Eq.trans rfl rfl
theorem ZvP {k:IntKind} {n:Int}:Zd3 (.int k n)=some (.c (.d (.int k n))):=Eq.trans rfl rfl
theorem ZrW {b:Bool}:Zd3 (.bool b)=some (.c (.d (.bool b))):=Eq.trans rfl rfl
theorem ZvQ:Zd3 (.slice none 0 0)=some (.c .nil):=Eq.trans rfl rfl
theorem ZvR {s:ByteArray}:Zd3 (.string s)=some (.c (.d (.str s))):=Eq.trans rfl rfl
theorem ZrX:Zd3 .nilFunc=some (.c (.d (.raw .nilFunc))):=Eq.trans rfl rfl
theorem ZrY:Zd3 (.pointer none)=some (.c (.d (.raw (.pointer none)))):=Eq.trans rfl rfl
theorem ZBZ {i:Nat}:Ztr i []=[]:=Eq.trans rfl rfl
theorem ZyC {i:Nat} {v:V} {vs:List V}:Ztr i (v::vs)=(i,v)::Ztr (i+1) vs:=Eq.trans rfl rfl

section
variable {X:Ctx} {gd:Option Bool} {t:TypeId} {α:Type} {f:D→Rd α} {k:IntKind} {a b:Int} {st:St}
theorem Zts:Zc7 X gd .add t (.c (.d (.int k a))) (.c (.d (.int k b))) f=Z5 gd True (f (.int k (k.wrap (a+b)))):=by simp [Zc7,Zcg,orFail]
theorem ZtM:Zc7 X gd .sub t (.c (.d (.int k a))) (.c (.d (.int k b))) f=Z5 gd True (f (.int k (k.wrap (a - b)))):=by simp [Zc7,Zcg,orFail]
theorem ZtD:Zc7 X gd .mul t (.c (.d (.int k a))) (.c (.d (.int k b))) f=Z5 gd True (f (.int k (k.wrap (a*b)))):=by simp [Zc7,Zcg,orFail]
theorem ZtF:Zc7 X gd .quo t (.c (.d (.int k a))) (.c (.d (.int k b))) f=Z5 gd (b≠0) (f (.int k (k.wrap (a.tdiv b)))):=by simp [Zc7,Zcg,orFail]
theorem ZtG:Zc7 X gd .rem t (.c (.d (.int k a))) (.c (.d (.int k b))) f=Z5 gd (b≠0) (f (.int k (a.tmod b))):=by simp [Zc7,Zcg,orFail]
theorem Ztu:Zc7 X gd .and t (.c (.d (.int k a))) (.c (.d (.int k b))) f=Z5 gd True (f (.int k (k.wrap (BitVec.ofInt k.bits a &&& BitVec.ofInt k.bits b).toNat))):=by simp [Zc7,Zcg,orFail]
theorem ZyH:Zc7 X gd .or t (.c (.d (.int k a))) (.c (.d (.int k b))) f=Z5 gd True (f (.int k (k.wrap (BitVec.ofInt k.bits a ||| BitVec.ofInt k.bits b).toNat))):=by simp [Zc7,Zcg,orFail]
theorem ZtN:Zc7 X gd .xor t (.c (.d (.int k a))) (.c (.d (.int k b))) f=Z5 gd True (f (.int k (k.wrap (BitVec.ofInt k.bits a ^^^ BitVec.ofInt k.bits b).toNat))):=by simp [Zc7,Zcg,orFail]
theorem ZjS:Zc7 X gd .andNot t (.c (.d (.int k a))) (.c (.d (.int k b))) f=Z5 gd True (f (.int k (k.wrap (BitVec.ofInt k.bits a &&& ~~~ (BitVec.ofInt k.bits b)).toNat))):=by simp [Zc7,Zcg,orFail]
theorem Zty:Zc7 X gd .eql t (.c (.d (.int k a))) (.c (.d (.int k b))) f=Z5 gd True (f (.bool (a==b))):=by simp [Zc7,Zcg,orFail]
theorem ZtE:Zc7 X gd .neq t (.c (.d (.int k a))) (.c (.d (.int k b))) f=Z5 gd True (f (.bool (a != b))):=by simp [Zc7,Zcg,orFail]
theorem ZtC:Zc7 X gd .lss t (.c (.d (.int k a))) (.c (.d (.int k b))) f=Z5 gd True (f (.bool (decide (a < b)))):=by simp [Zc7,Zcg,orFail]
theorem ZtB:Zc7 X gd .leq t (.c (.d (.int k a))) (.c (.d (.int k b))) f=Z5 gd True (f (.bool (decide (a≤b)))):=by simp [Zc7,Zcg,orFail]
theorem ZtA:Zc7 X gd .gtr t (.c (.d (.int k a))) (.c (.d (.int k b))) f=Z5 gd True (f (.bool (decide (b < a)))):=by simp [Zc7,Zcg,orFail]
theorem Ztz:Zc7 X gd .geq t (.c (.d (.int k a))) (.c (.d (.int k b))) f=Z5 gd True (f (.bool (decide (b≤a)))):=by simp [Zc7,Zcg,orFail]
theorem ZtJ {k':IntKind}:Zc7 X gd .shl t (.c (.d (.int k a))) (.c (.d (.int k' b))) f=Z5 gd (0≤b) (f (.int k (k.wrap (a*2 ^ (Nat.min b.toNat k.bits))))):=Eq.trans rfl rfl
theorem ZtK {k':IntKind}:Zc7 X gd .shr t (.c (.d (.int k a))) (.c (.d (.int k' b))) f=Z5 gd (0≤b) (f (.int k (a.fdiv (2 ^ (Nat.min b.toNat k.bits))))):=Eq.trans rfl rfl
theorem Ztw {p q:Bool}:Zc7 X gd .eql t (.c (.d (.bool p))) (.c (.d (.bool q))) f=orFail (X.tt t) fun ti=>if ti.boo=true then f (.bool (p==q)) else .fail:=Eq.trans rfl rfl
theorem Ztx {p q:Bool}:Zc7 X gd .neq t (.c (.d (.bool p))) (.c (.d (.bool q))) f=orFail (X.tt t) fun ti=>if ti.boo=true then f (.bool (!(p==q))) else .fail:=Eq.trans rfl rfl
theorem ZtI {p q:ByteArray}:Zc7 X gd .eql t (.c (.d (.str p))) (.c (.d (.str q))) f=f (.bool (p.toList==q.toList)):=Eq.trans rfl rfl
theorem ZtH {p q:ByteArray}:Zc7 X gd .add t (.c (.d (.str p))) (.c (.d (.str q))) f=Z5 gd (p.size+q.size≤1000000000) (f (.str (p++q))):=Eq.trans rfl rfl
theorem ZtL {p q:ByteArray}:Zc7 X gd .neq t (.c (.d (.str p))) (.c (.d (.str q))) f=f (.bool (!(p.toList==q.toList))):=Eq.trans rfl rfl
theorem Ztt {p q:List C}:Zc7 X gd .eql t (.agg p) (.agg q) f=orFail (X.tt t) fun ti=>if ti.flat≠[]∧ZaC p=some ti.flat then orFail (ZaS p q) fun b=>f (.bool b) else .fail:=Eq.trans rfl rfl
theorem Ztv {p q:List C}:Zc7 X gd .neq t (.agg p) (.agg q) f=orFail (X.tt t) fun ti=>if ti.flat≠[]∧ZaC p=some ti.flat then orFail (ZaS p q) fun b=>f (.bool (!b)) else .fail:=Eq.trans rfl rfl
end

theorem ZyM {k:IntKind} {n:Int}:(D.int k n).cells=[.int k n]:=Eq.trans rfl rfl
theorem ZvI {b:Bool}:(D.bool b).cells=[.bool b]:=Eq.trans rfl rfl
theorem ZvK {l:List D}:(D.list l).cells=[.list l]:=Eq.trans rfl rfl
theorem ZyN {s:ByteArray}:(D.str s).cells=[.str s]:=Eq.trans rfl rfl
theorem ZFG {s:ByteArray}:(D.str s).toV=.c (.d (.str s)):=Eq.trans rfl rfl
theorem ZE7 {s:ByteArray}:(D.str s).okV=true:=Eq.trans rfl rfl
theorem ZyK {l:List D}:(D.agg l).cells=l:=Eq.trans rfl rfl
theorem ZFF {k:IntKind} {n:Int}:(D.int k n).toV=.c (.d (.int k n)):=Eq.trans rfl rfl
theorem ZDe {b:Bool}:(D.bool b).toV=.c (.d (.bool b)):=Eq.trans rfl rfl
theorem ZDf {l:List D}:(D.list l).toV=.c (.d (.list l)):=Eq.trans rfl rfl
theorem ZFE {l:List D}:(D.agg l).toV=.agg (l.map .d):=Eq.trans rfl rfl
theorem ZE6 {k:IntKind} {n:Int}:(D.int k n).okV=true:=Eq.trans rfl rfl
theorem ZCv {b:Bool}:(D.bool b).okV=true:=Eq.trans rfl rfl
theorem ZCw {l:List D}:(D.list l).okV=true:=Eq.trans rfl rfl
theorem ZE5 {l:List D}:(D.agg l).okV=true:=Eq.trans rfl rfl
theorem Ztq {p:D→Prop}:(∀ y∈([]:List D),p y)=True:=by simp
theorem ZoM {p:D→Prop} {x:D} {l:List D}:(∀ y∈x::l,p y)=(p x∧∀ y∈l,p y):=by simp
theorem ZCd {α:Type} {x:D} {f:D→α→Prop} {a:α}:(∃ y,(some x=some y)∧f y a)=f x a:=by simp

def frC:C→Name→Prop
 | .own k _,n=>k≠n
 | .arr k _,n=>k≠n
 | .lp k _,n=>k≠n
 | .ap k _ _,n=>k≠n
 | .bs k _,n=>k≠n
 | .vw k _ _,n=>k≠n
 | .rws k _ _,n=>k≠n
 | .rp k _ _,n=>k≠n
 | .fn _ caps,n=>n∉caps.map (·.1)
 | _,_=>True
def ZvV:List C→Name→Prop
 | [],_=>True
 | c::cs,n=>frC c n∧ZvV cs n
def frV:V→Name→Prop
 | .c x,n=>frC x n
 | .agg cs,n=>ZvV cs n
 | .tup _,_=>True
 | .ts _ cs,n=>ZvV cs n
 | .g _ v,n=>frV v n
def frT:List (Nat×V)→Name→Prop
 | [],_=>True
 | p::l,n=>frV p.2 n∧frT l n
def frB:Zf→Name→Prop
 | [],_=>True
 | p::l,n=>p.1≠n∧ZvV p.2 n∧frB l n
def frK:Zw→Name→Prop
 | [],_=>True
 | p::l,n=>p.1≠n∧frK l n

theorem Zzk (c:C) (n:Name):frC c n↔n∉c.nms:=by
 cases c <;> simp [frC,C.nms,eq_comm]
theorem Ziy (n:Name):∀ cs:List C,ZvV cs n↔∀ c∈cs,n∉c.nms
 | []=>by simp [ZvV]
 | c::cs=>by simp [ZvV,Zzk,Ziy n cs]
theorem Zzu (n:Name):∀ v:V,frV v n↔n∉v.nms
 | .c x=>Zzk x n
 | .agg cs=>by simp [frV,V.nms,Ziy]
 | .tup _=>by simp [frV,V.nms]
 | .ts _ cs=>by simp [frV,V.nms,Ziy]
 | .g _ v=>Zzu n v
theorem Zzr (n:Name):∀ l:List (Nat×V),frT l n↔∀ p∈l,n∉p.2.nms
 | []=>by simp [frT]
 | p::l=>by simp only [frT,Zzu,Zzr n l,List.forall_mem_cons]
theorem Zzh (n:Name):∀ l:Zf,frB l n↔∀ p∈l,p.1≠n∧∀ c∈p.2,n∉c.nms
 | []=>by simp [frB]
 | p::l=>by simp only [frB,Ziy,Zzh n l,List.forall_mem_cons,and_assoc]
theorem Zzo (n:Name):∀ l:Zw,frK l n↔∀ p∈l,p.1≠n
 | []=>by simp [frK]
 | p::l=>by simp only [frK,Zzo n l,List.forall_mem_cons]

theorem Ztn {t:List (Nat×V)} {b:Zf} {k:Zw} {n:Name}:FreeB ⟨t,b,k⟩ n=(frT t n∧frB b n∧frK k n):=by
 simp only [FreeB,Zzr,Zzh,Zzo]
theorem ZBU {p:Name→Prop}:(∀ n∈([]:List Name),p n)=True:=by simp
theorem ZBV {p:Name→Prop} {m:Name}:(∀ n∈[m],p n)=p m:=by simp
theorem Zzs {n:Name}:frT [] n=True:=Eq.trans rfl rfl
theorem ZtZ {t:Nat} {v:V} {l:List (Nat×V)} {n:Name}:frT ((t,v)::l) n=(frV v n∧frT l n):=Eq.trans rfl rfl
theorem Zzi {n:Name}:frB [] n=True:=Eq.trans rfl rfl
theorem ZtW {m n:Name} {cs:List C} {l:Zf}:frB ((m,cs)::l) n=(m≠n∧ZvV cs n∧frB l n):=Eq.trans rfl rfl
theorem Zzp {n:Name}:frK [] n=True:=Eq.trans rfl rfl
theorem ZtY {m n:Name} {t:Tok} {l:Zw}:frK ((m,t)::l) n=(m≠n∧frK l n):=Eq.trans rfl rfl
theorem ZtX {n:Name}:ZvV [] n=True:=Eq.trans rfl rfl
theorem Zpb {c:C} {cs:List C} {n:Name}:ZvV (c::cs) n=(frC c n∧ZvV cs n):=Eq.trans rfl rfl
theorem ZGp {x:C} {n:Name}:frV (.c x) n=frC x n:=Eq.trans rfl rfl
theorem Zzt {x:List C} {n:Name}:frV (.agg x) n=ZvV x n:=Eq.trans rfl rfl
theorem Zzv {x:List D} {n:Name}:frV (.tup x) n=True:=Eq.trans rfl rfl
theorem ZDM {sh:List (Option Nat)} {x:List C} {n:Name}:frV (.ts sh x) n=ZvV x n:=Eq.trans rfl rfl
theorem ZGq {γ:Bool} {v:V} {n:Name}:frV (.g γ v) n=frV v n:=Eq.trans rfl rfl
theorem ZGo {x:D} {n:Name}:frC (.d x) n=True:=Eq.trans rfl rfl
theorem Zzl {n:Name}:frC .nil n=True:=Eq.trans rfl rfl
theorem ZDJ {x:D} {n:Name}:frC (.pd x) n=True:=Eq.trans rfl rfl
theorem Zzm {m n:Name} {l:List D}:frC (.own m l) n=(m≠n):=Eq.trans rfl rfl
theorem Zzj {m n:Name} {l:Nat}:frC (.arr m l) n=(m≠n):=Eq.trans rfl rfl
theorem ZDI {m n:Name} {l:Nat}:frC (.lp m l) n=(m≠n):=Eq.trans rfl rfl
theorem ZDF {m n:Name} {i l:Nat}:frC (.ap m i l) n=(m≠n):=Eq.trans rfl rfl
theorem ZDG {m n:Name} {l:Nat}:frC (.bs m l) n=(m≠n):=Eq.trans rfl rfl
theorem ZDL {m n:Name} {i l:Nat}:frC (.vw m i l) n=(m≠n):=Eq.trans rfl rfl
theorem Zzn {m n:Name} {i l:Nat}:frC (.rws m i l) n=(m≠n):=Eq.trans rfl rfl
theorem ZDK {m n:Name} {i l:Nat}:frC (.rp m i l) n=(m≠n):=Eq.trans rfl rfl
theorem ZDH {f:FuncId} {caps:List (Name×Nat)} {n:Name}:frC (.fn f caps) n=(n∉caps.map (·.1)):=Eq.trans rfl rfl

def ZDD (X:Ctx) (rs:List ResultVar) (r:V) (b':Zf) (k':Zw):Exit→St→Prop
 | .normal,st=>ZDr X rs r b' k' st
 | .ret,st=>ZDr X rs r b' k' st
 | _,_=>False

theorem Zzg {X:Ctx} {rs:List ResultVar} {r:V} {b':Zf} {k':Zw}:∀ e st,ZDD X rs r b' k' e st→ZKZ X rs r b' k' e st:=by
 intro e st h
 cases e with
 | normal=>exact ⟨st,.refl _ _,h⟩
 | ret=>exact ⟨st,.refl _ _,h⟩
 | _=>exact h.elim

section
variable {X:Ctx} {rs:List ResultVar} {r:V} {b':Zf} {k':Zw} {st:St}
theorem Zkb:ZDD X rs r b' k' .normal st=(oel (Zuu X r rs st) (leV r)∧Zk7 b' st.b∧Zk8 k' st.k):=by
 simp only [ZDD,ZDr]; cases Zuu X r rs st <;> rfl
theorem ZtV:ZDD X rs r b' k' .ret st=(oel (Zuu X r rs st) (leV r)∧Zk7 b' st.b∧Zk8 k' st.k):=by
 simp only [ZDD,ZDr]; cases Zuu X r rs st <;> rfl
def ZGU (X:Ctx) (T:TypeId) (b:Zf):V→Option V
 | .c (.lp n off)=>match X.tt T with
  | some ti=>match lk b n with
   | some cs=>ZhH ti cs off
   | none=>none
  | none=>none
 | _=>none
theorem ZFm {T:TypeId} {b:Zf} {n:Name} {off:Nat}:ZGU X T b (.c (.lp n off))=(X.tt T).bind fun ti=>(lk b n).bind fun cs=>ZhH ti cs off:=by
 simp only [ZGU]
 cases X.tt T <;> simp
 cases lk b n <;> simp
theorem ZCC {t:Nat}:ZCA X st (.tmp t)=lk st.t t:=rfl
theorem ZpD {a:Nat} {T:TypeId}:ZCA X st (.cell a T)=(lk st.t a).bind (ZGU X T st.b):=by
 simp only [ZCA]
 cases h:lk st.t a with
 | none=>rfl
 | some v =>
  simp only [Option.bind_some,ZGU]
  cases v with
  | c x=>cases x <;> (try rfl); cases X.tt T <;> rfl
  | _=>rfl
theorem ZAe:Zd9 X st []=some []:=rfl
theorem Zwa {r:ResultVar} {rs:List ResultVar}:Zd9 X st (r::rs)=(ZCA X st r).bind fun v=>(Zd9 X st rs).bind fun vs=>some (v::vs):=by
 simp only [Zd9]; cases ZCA X st r <;> cases Zd9 X st rs <;> rfl
theorem ZAf {a:Nat} {T:TypeId}:Zuu X r [.cell a T] st=(lk st.t a).bind (ZGU X T st.b):=ZpD
theorem ZCE {ds:List D} {r r':ResultVar} {rs:List ResultVar}:Zuu X (.tup ds) (r::r'::rs) st=(Zd9 X st (r::r'::rs)).bind fun vs=>(toDs vs).map .tup:=by
 simp only [Zuu]; cases Zd9 X st (r::r'::rs) <;> rfl
theorem ZFn {sh:List (Option Nat)} {cs:List C} {r r':ResultVar} {rs:List ResultVar}:Zuu X (.ts sh cs) (r::r'::rs) st=(Zd9 X st (r::r'::rs)).bind fun vs=>(tsS vs).map fun sh=>.ts sh (tsC vs):=by
 simp only [Zuu]; cases Zd9 X st (r::r'::rs) <;> rfl
theorem ZFK:tsS []=some []:=rfl
theorem ZK7 {x:C} {vs:List V}:tsS (.c x::vs)=(tsS vs).map (none::·):=rfl
theorem ZFJ {x:List C} {vs:List V}:tsS (.agg x::vs)=(tsS vs).map (some x.length::·):=rfl
theorem ZFI:tsC []=[]:=rfl
theorem ZK6 {x:C} {vs:List V}:tsC (.c x::vs)=x::tsC vs:=rfl
theorem ZFH {x:List C} {vs:List V}:tsC (.agg x::vs)=x++tsC vs:=rfl
theorem ZAg {ds:List D}:Zuu X (.tup ds) [] st=some (.tup []):=rfl
theorem ZCD {t:Nat}:Zuu X r [.tmp t] st=lk st.t t:=rfl
theorem ZC1 {m:Zf}:Zk7 [] m=True:=rfl
theorem ZC2 {m:Zw}:Zk8 [] m=True:=rfl
theorem ZBl {n:Name} {cs:List C} {l m:Zf}:Zk7 ((n,cs)::l) m=(oel (lk m n) (ZlN cs)∧Zk7 l m):=by
 simp only [Zk7]; cases lk m n <;> rfl
theorem ZBm {n:Name} {t:Tok} {l m:Zw}:Zk8 ((n,t)::l) m=(oel (lk m n) (fun t'=>t=t')∧Zk8 l m):=by
 simp only [Zk8]; cases lk m n <;> rfl
theorem ZKQ {x y:C}:leV (.c x) (.c y)=leC x y:=rfl
theorem ZE0 {x y:List C}:leV (.agg x) (.agg y)=ZlN x y:=rfl
theorem ZE1 {x y:List D}:leV (.tup x) (.tup y)=(x=y):=rfl
theorem ZGA {sh sh':List (Option Nat)} {x y:List C}:leV (.ts sh x) (.ts sh' y)=(sh=sh'∧ZlN x y):=rfl
theorem ZCn:ZlN [] []=True:=rfl
theorem ZzH {c d:C} {cs ds:List C}:ZlN (c::cs) (d::ds)=(leC c d∧ZlN cs ds):=rfl
theorem ZEX {k k':IntKind} {n m:Int}:leC (.d (.int k n)) (.d (.int k' m))=(k=k'∧n=m):=by simp [leC]
theorem ZCl {n m:Bool}:leC (.d (.bool n)) (.d (.bool m))=(n=m):=by simp [leC]
theorem ZCm {l m:List D}:leC (.d (.list l)) (.d (.list m))=(l=m):=by simp [leC]
theorem Zpr {n:Name} {l m:List D}:leC (.d (.list l)) (.own n m)=(l=m):=rfl
theorem Zpq {l:List D}:leC (.d (.list l)) .nil=(l=[]):=rfl
theorem ZEZ {n n':Name} {l m:List D}:leC (.own n l) (.own n' m)=(n=n'∧l=m):=by simp [leC]
theorem ZEY:leC .nil .nil=True:=by simp [leC]
theorem ZGz {n n':Name} {i j:Nat}:leC (.lp n i) (.lp n' j)=(n=n'∧i=j):=by simp [leC]
end

abbrev vI (k:IntKind) (n:Int):V:=.c (.d (.int k n))
abbrev vB (n:Bool):V:=.c (.d (.bool n))
abbrev vL (l:List D):V:=.c (.d (.list l))

end Go.Vam
