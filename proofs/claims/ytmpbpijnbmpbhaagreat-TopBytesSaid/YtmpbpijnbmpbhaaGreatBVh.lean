/- A part of the proof. Conditions: none. -/
import Derived.Test.YtmpbpijnbmpbhaaGreatBVg
set_option linter.unusedVariables false
set_option linter.unusedSimpArgs false
namespace Go.Vam

def oel {α:Type}:Option α→(α→Prop)→Prop
 | some x,f=>f x
 | none,_=>False

theorem Zvg {α:Type} {x:α} {f:α→Prop}:oel (some x) f=f x:=Eq.trans rfl rfl
theorem Zvf {α:Type} {f:α→Prop}:oel none f=False:=Eq.trans rfl rfl
theorem wp_ret {α:Type} {st:St} {a:α} {Q:α→Prop}:(wp (.ret a) st Q)=(Q a):=Eq.trans rfl rfl
theorem ZCK {α:Type} {st:St}  {Q:α→Prop}:(wp (.fail) st Q)=(False):=Eq.trans rfl rfl
theorem ZCN {α:Type} {st:St} {n:Nat} {f:V→Rd α} {Q:α→Prop}:(wp (.getT n f) st Q)=(oel (lk st.t n) fun v=>wp (f v) st Q):=by simp only [wp,oel]; split <;> simp_all
theorem ZCL {α:Type} {st:St} {n:Name} {f:List C→Rd α} {Q:α→Prop}:(wp (.getB n f) st Q)=(oel (lk st.b n) fun v=>wp (f v) st Q):=by simp only [wp,oel]; split <;> simp_all
theorem ZCM {α:Type} {st:St} {n:Name} {f:Tok→Rd α} {Q:α→Prop}:(wp (.getK n f) st Q)=(oel (lk st.k n) fun v=>wp (f v) st Q):=by simp only [wp,oel]; split <;> simp_all
theorem ZCO {α:Type} {st:St} {p:Prop} {r:Rd α} {Q:α→Prop}:(wp (.need p r) st Q)=((p∧wp r st Q)):=Eq.trans rfl rfl
theorem ZFn {α:Type} {st:St} {f:D→Rd α} {Q:α→Prop}:(wp (.exD f) st Q)=(∃ x,wp (f x) st Q):=Eq.trans rfl rfl
theorem ZCJ {α:Type} {st:St} {γ:Bool} {r s:Rd α} {Q:α→Prop}:(wp (.case γ r s) st Q)=(((γ=true→wp r st Q)∧(γ=false→wp s st Q))):=Eq.trans rfl rfl
theorem ZFo {α:Type} {st:St} {c:Prop} [Decidable c] {r s:Rd α} {Q:α→Prop}:(wp (if c then r else s) st Q)=((if c then wp r st Q else wp s st Q)):=by split <;> rfl
theorem ZvN {α:Type} {st:St} {gd:Option Bool} {γ:Bool} {v:V} {f:V→Rd α} {Q:α→Prop}:(wp (unG gd (.g γ v) f) st Q)=(((gd.getD true=true→γ=true)∧wp (f v) st Q)):=Eq.trans rfl rfl
theorem ZvM {α:Type} {st:St} {gd:Option Bool} {x:C} {f:V→Rd α} {Q:α→Prop}:(wp (unG gd (.c x) f) st Q)=(wp (f (.c x)) st Q):=Eq.trans rfl rfl
theorem Zmp {α:Type} {st:St} {gd:Option Bool} {x:List C} {f:V→Rd α} {Q:α→Prop}:(wp (unG gd (.agg x) f) st Q)=(wp (f (.agg x)) st Q):=Eq.trans rfl rfl
theorem Zmq {α:Type} {st:St} {gd:Option Bool} {x:List D} {f:V→Rd α} {Q:α→Prop}:(wp (unG gd (.tup x) f) st Q)=(wp (f (.tup x)) st Q):=Eq.trans rfl rfl
theorem Zrq {α:Type} {st:St} {gd:Option Bool} {sh:List (Option Nat)} {x:List C} {f:V→Rd α} {Q:α→Prop}:(wp (unG gd (.ts sh x) f) st Q)=(wp (f (.ts sh x)) st Q):=Eq.trans rfl rfl
theorem Zk6 {α:Type} {st:St} {t:Nat} {f:V→Rd α} {Q:α→Prop}:(wp (Zxe (.tmp t) f) st Q)=(oel (lk st.t t) fun v=>wp (f v) st Q):=by simp only [Zxe,wp,oel]; split <;> simp_all
theorem Zha {α:Type} {st:St} {c:Value} {f:V→Rd α} {Q:α→Prop}:(wp (Zxe (.const c) f) st Q)=(oel (Zef c) fun v=>wp (f v) st Q):=by simp only [Zxe]; cases Zef c <;> rfl
theorem Ziu {α:Type} {st:St} {i:FuncId} {f:V→Rd α} {Q:α→Prop}:(wp (Zxe (.func i) f) st Q)=(wp (f (.c (.fn i []))) st Q):=Eq.trans rfl rfl
theorem ZCP {α:Type} {st:St} {gd:Option Bool} {x:Operand} {f:V→Rd α} {Q:α→Prop}:(wp (Zb9 gd x f) st Q)=(wp (Zxe x fun v=>unG gd v f) st Q):=Eq.trans rfl rfl
theorem Zir {α:Type} {st:St} {gd:Option Bool} {f:List V→Rd α} {Q:α→Prop}:(wp (Zej gd [] f) st Q)=(wp (f []) st Q):=Eq.trans rfl rfl
theorem Zg9 {α:Type} {st:St} {gd:Option Bool} {x:Operand} {xs:List Operand} {f:List V→Rd α} {Q:α→Prop}:(wp (Zej gd (x::xs) f) st Q)=(wp (Zb9 gd x fun v=>Zej gd xs fun vs=>f (v::vs)) st Q):=Eq.trans rfl rfl
theorem ZFm {α:Type} {st:St} {k:IntKind} {n:Int} {f:IntKind→Int→Rd α} {Q:α→Prop}:(wp (asI (.c (.d (.int k n))) f) st Q)=(wp (f k n) st Q):=Eq.trans rfl rfl
theorem ZFl {α:Type} {st:St} {b:Bool} {f:Bool→Rd α} {Q:α→Prop}:(wp (asB (.c (.d (.bool b))) f) st Q)=(wp (f b) st Q):=Eq.trans rfl rfl
theorem Zmn {α:Type} {st:St} {f:List D→Rd α} {Q:α→Prop}:(wp (asL (.c .nil) f) st Q)=(wp (f []) st Q):=Eq.trans rfl rfl
theorem Zmo {α:Type} {st:St} {n:Name} {l:List D} {f:List D→Rd α} {Q:α→Prop}:(wp (asL (.c (.own n l)) f) st Q)=(wp (f l) st Q):=Eq.trans rfl rfl
theorem Zk5 {α:Type} {st:St} {l:List D} {f:List D→Rd α} {Q:α→Prop}:(wp (asL (.c (.d (.list l))) f) st Q)=(wp (f l) st Q):=Eq.trans rfl rfl
theorem Zrp {α:Type} {st:St} {β:Type} {x:Option β} {f:β→Rd α} {Q:α→Prop}:(wp (orFail x f) st Q)=(oel x fun y=>wp (f y) st Q):=by cases x <;> rfl
theorem ZvJ {α:Type} {st:St} {gd:Option Bool} {p:Prop} {r:Rd α} {Q:α→Prop}:(wp (ZT gd p r) st Q)=(((gd.getD true=true→p)∧wp r st Q)):=Eq.trans rfl rfl
theorem Ziq {α:Type} {st:St} {r:Rd α} {Q:α→Prop}:(wp (ZkD none r) st Q)=(wp r st Q):=Eq.trans rfl rfl
theorem Zis {α:Type} {st:St} {gd:Option Bool} {n:Int} {f:Int→Rd α} {Q:α→Prop}:(wp (ZiJ gd none n f) st Q)=(wp (f n) st Q):=Eq.trans rfl rfl
theorem Zit {α:Type} {st:St} {gd:Option Bool} {x:Operand} {n:Int} {f:Int→Rd α} {Q:α→Prop}:(wp (ZiJ gd (some x) n f) st Q)=(wp (Zb9 gd x fun v=>asI v fun _ n=>f n) st Q):=Eq.trans rfl rfl
theorem Zio {α:Type} {st:St} {f:Zf→Rd α} {Q:α→Prop}:(wp (getBs [] f) st Q)=(wp (f []) st Q):=Eq.trans rfl rfl
theorem Zg7 {α:Type} {st:St} {n:Name} {ns:List Name} {f:Zf→Rd α} {Q:α→Prop}:(wp (getBs (n::ns) f) st Q)=(wp (.getB n fun cs=>getBs ns fun b=>f (ZLw n cs b)) st Q):=Eq.trans rfl rfl
theorem Zip {α:Type} {st:St} {f:Zr→Rd α} {Q:α→Prop}:(wp (getKs [] f) st Q)=(wp (f []) st Q):=Eq.trans rfl rfl
theorem Zg8 {α:Type} {st:St} {n:Name} {ns:List Name} {f:Zr→Rd α} {Q:α→Prop}:(wp (getKs (n::ns) f) st Q)=(wp (.getK n fun cs=>getKs ns fun b=>f (ZLx n cs b)) st Q):=Eq.trans rfl rfl
theorem ZvI {α β:Type} {st:St} {Q:β→Prop} {f:α→Rd β}:∀ {r:Rd α},wp (ZcK r f) st Q=wp r st (fun a=>wp (f a) st Q):=by
 intro r
 induction r with
 | ret a=>rfl
 | fail=>rfl
 | getT n g ih=>simp only [ZcK,wp]; split <;> simp_all
 | getB n g ih=>simp only [ZcK,wp]; split <;> simp_all
 | getK n g ih=>simp only [ZcK,wp]; split <;> simp_all
 | need p r ih=>simp only [ZcK,wp,ih]
 | exD g ih=>simp only [ZcK,wp,ih]
 | exM g ih=>simp only [ZcK,wp,ih]
 | case γ r s ih ih'=>simp only [ZcK,wp,ih,ih']
def ZkC (st:St) (ns:List Name):Prop:=∀ n∈ns,FreeB st n
theorem Zxa {st:St}:ZkC st []=True:=by simp [ZkC]
theorem Zxb {st:St} {m:Name}:ZkC st [m]=FreeB st m:=by simp [ZkC]
def ZDt (st:St) (n:Name):Bool:=st.t.all (fun p=>!p.2.nms.contains n) && st.b.all (fun p=>decide (p.1≠n) && p.2.all fun c=>!c.nms.contains n) && st.k.all fun p=>decide (p.1≠n)

theorem ZAH {st:St} {n:Name}:ZDt st n=true↔FreeB st n:=by
 simp only [ZDt,FreeB,Bool.and_eq_true,List.all_eq_true,Bool.not_eq_true',decide_eq_true_eq,List.contains_eq_mem,decide_eq_false_iff_not,and_assoc]

def Zm2 (st:St) (ops:Array Oper) (cs:List Rec):Bool:=cs.all (fun c=>c.r.new.all (ZDt st)) && (List.range cs.length).all (fun j=>(List.range j).all fun i=>match cs[i]?,cs[j]? with
  | some a,some b=>b.r.new.all fun n=>!a.nms.contains n
  | _,_=>true) && ZpA ops cs

theorem ZsD {st:St} {ops:Array Oper} {cs:List Rec}:Zm2 st ops cs=true↔ZA1 st cs∧ZpA ops cs=true:=by
 unfold Zm2 ZA1
 rw [Bool.and_eq_true,Bool.and_eq_true]
 simp only [List.all_eq_true (l:=cs),List.all_eq_true (p:=ZDt st),ZAH]
 exact Iff.rfl

section
variable {X:Ctx} {st:St} {Q:Exit→St→Prop}
theorem Zim {n:St→Prop}:Zk1 n Q .normal st=n st:=Eq.trans rfl rfl
theorem Zrm {n:St→Prop}:Zk1 n Q .ret st=Q .ret st:=Eq.trans rfl rfl
theorem Zmm {n:St→Prop} {i:Nat}:Zk1 n Q (.exit i) st=Q (.exit i) st:=Eq.trans rfl rfl
theorem ZeU {id:Nat}:Zdb id Q .normal st=Q .normal st:=Eq.trans rfl rfl
theorem Zid {id:Nat}:Zdb id Q .ret st=Q .ret st:=Eq.trans rfl rfl
theorem ZgT {id i:Nat}:Zdb id Q (.exit i) st=if i=id then Q .normal st else Q (.exit i) st:=Eq.trans rfl rfl
end

def ZNz (f:FuncId) (vs:List V):Rd Out:=match vs with
   | [.c (.lp n off)]=>.ret { v:=.c (.fn f [(n,off+1000000000)])}
   | _=>.fail
theorem ZGp {f:FuncId} {n:Name} {off:Nat}:ZNz f [.c (.lp n off)]=.ret { v:=.c (.fn f [(n,off+1000000000)])}:=Eq.trans rfl rfl
theorem ZGq:rcv []=false:=Eq.trans rfl rfl
theorem ZGs {p q:Name×Nat} {l:List (Name×Nat)}:rcv (p::q::l)=false:=Eq.trans rfl rfl
theorem ZGr {n:Name} {o:Nat}:rcv [(n,o)]=decide (1000000000≤o):=Eq.trans rfl rfl

def ZHm (X:Ctx) (gd:Option Bool) (dst:Option Nat) (as:List Operand) (fv:V):Rd Out:=match fv with
   | .c (.fn f caps)=>Zej gd as fun vs=>Zkj X gd dst f (fnA caps (vs.map (Zlf (dst.map X.mode))))
   | _=>.fail

def Zkz (gd:Option Bool) (ti:TI) (av:V):Rd Out:=match av with
  | .c (.lp n off)=>.getB n fun cs=>orFail (ZhI ti cs off) fun v=>.ret { v}
  | .c (.pd x)=>if ti.agg=true then (if x.cells.length=ti.size then match x with
    | .agg cs=>.ret { v:=.agg (cs.map .d)}
    | _=>.fail
    else .fail) else match x with
    | .agg _=>.fail
    | .tup _=>.fail
    | x=>.ret { v:=.c (.d x)}
  | .c (.rp k wd i)=>if ti.agg=false then .ret { v:=.c (.vw k (i*wd) wd)} else .fail
  | .c (.ap k i off)=>.getK k fun tk=>if ti.agg=false∧off=0 then orFail (Zft ti) fun z=>ZT gd (tk.isArr=true∧i < tk.l.length∧z.like (tk.l[i]?.getD z)=tk.l[i]?.getD z) (scR (z.like (tk.l[i]?.getD z)) fun y=>.need (y.okV=true) (.ret { v:=.c (.d y)})) else .exD fun x=>ZT gd (tk.isArr=true∧tk.l[i]?=some x) (orFail (Ziy ti x.cells off) fun y=>.need (y.okV=true) (.ret { v:=y.toV}))
  | _=>.fail
def Zml (ti:TI) (av xv:V):Rd Out:=match av with
  | .c (.lp n off)=>.getB n fun cs=>orFail xv.cells fun ys=>if ys.length=ti.size∧off+ti.size≤cs.length then .ret { v:=.tup [],b:=[(n,lay cs off ys)]} else .fail
  | .c (.ap k i off)=>.getK k fun tk=>if ti.agg=false∧off=0∧ti.size=1 then orFail (Zft ti) fun z=>orFail xv.toD fun d=>.need (tk.isArr=true∧i < tk.l.length∧z.like (tk.l[i]?.getD z)=tk.l[i]?.getD z) (scR (z.like (tk.l[i]?.getD z)) fun _=>scR d fun d=>.ret { v:=.tup [],k:=[(k,⟨true,tk.sz,tk.l.set i d⟩)]}) else .exD fun y=>.need (tk.isArr=true∧tk.l[i]?=some y) (orFail xv.cells fun cs=>orFail (C.toDs cs) fun ds =>
    if ds.length=ti.size∧off+ti.size≤y.cells.length then
     match y with
     | .agg ys=>.ret { v:=.tup [],k:=[(k,⟨true,tk.sz,tk.l.set i (.agg (lay ys off ds))⟩)]}
     | _=>match ds with
      | [d]=>.need (d.cells.length=1) (.ret { v:=.tup [],k:=[(k,⟨true,tk.sz,tk.l.set i d⟩)]})
      | _=>.fail
    else .fail)
  | _=>.fail
def ZG0 (v:V):Rd Out:=match v with
  | .c (.lp _ _)=>.ret { v}
  | .c (.pd _)=>.ret { v}
  | .c (.ap _ _ _)=>.ret { v}
  | .c (.rp _ _ _)=>.ret { v}
  | .c (.fn _ _)=>.ret { v}
  | _=>.fail
def ZuO (fi:TI) (p:Nat×Nat) (v:V):Rd Out:=match v with
  | .c (.lp n off)=>.ret { v:=.c (.lp n (off+p.1))}
  | .c (.pd (.agg cs))=>orFail (Ziy fi cs p.1) fun y=>.need (fi.agg=false→∀ zs,y≠.agg zs) (.ret { v:=.c (.pd y)})
  | .c (.ap k j off)=>.ret { v:=.c (.ap k j (off+p.1))}
  | _=>.fail
def ZER (fi:TI) (p:Nat×Nat) (v:V):Rd Out:=match v with
  | .agg cs=>orFail (ZhI fi cs p.1) fun v=>.ret { v}
  | _=>.fail
def ZE4 (gd:Option Bool) (ei:TI) (n:Int) (xv:V):Rd Out:=match xv with
  | .c (.arr k len)=>.getK k fun tk=>ZT gd (0≤n∧n < len) (.need (tk.sz=ei.size∧tk.isArr=true) (.ret { v:=.c (.ap k n.toNat 0)}))
  | .c (.bs m len)=>ZT gd (0≤n∧n < len) (.need (ei.size=1) (.ret { v:=.c (.lp m n.toNat)}))
  | .c (.vw k off len)=>.getK k fun tk=>ZT gd (0≤n∧n < len) (.need (tk.sz=1∧ei.size=1∧tk.isArr=true) (.ret { v:=.c (.ap k (off+n.toNat) 0)}))
  | .c (.rws k wd len)=>ZT gd (0≤n∧n < len) (.need (ei.size=1) (.ret { v:=.c (.rp k wd n.toNat)}))
  | xv=>asL xv fun l=>orFail (Zft ei) fun z=>ZT gd (0≤n∧n < l.length) (.need ((l[n.toNat]?.getD z).cells.length=ei.size∧z.like (l[n.toNat]?.getD z)=l[n.toNat]?.getD z) (.ret { v:=.c (.pd (z.like (l[n.toNat]?.getD z)))}))
def ZLL (i:Nat) (v:V):Rd Out:=match v with
  | .tup ds=>orFail (ds[i]?) fun y=>.need (y.okV=true) (.ret { v:=y.toV})
  | .ts sh cs=>orFail (Zel sh cs i) fun y=>.ret { v:=y}
  | _=>.fail

section
variable {gd:Option Bool} {ti fi ei:TI} {n:Name} {off i:Nat} {x:D} {cs:List D} {l:List D} {p:Nat×Nat} {m:Int}
theorem Zvb:Zkz gd ti (.c (.lp n off))=.getB n fun cs=>orFail (ZhI ti cs off) fun v=>.ret { v}:=Eq.trans rfl rfl
theorem Zp0:Zkz gd ti (.c (.pd (.agg cs)))=if ti.agg=true then (if cs.length=ti.size then .ret { v:=.agg (cs.map .d)} else .fail) else .fail:=Eq.trans rfl rfl
theorem Zp1 {k:IntKind} {m:Int}:Zkz gd ti (.c (.pd (.int k m)))=if ti.agg=true then .fail else .ret { v:=.c (.d (.int k m))}:=by
 simp only [Zkz]; split
 ·split <;> rfl
 ·rfl
theorem Zl6 {b:Bool}:Zkz gd ti (.c (.pd (.bool b)))=if ti.agg=true then .fail else .ret { v:=.c (.d (.bool b))}:=by
 simp only [Zkz]; split
 ·split <;> rfl
 ·rfl
theorem Zl7:Zkz gd ti (.c (.pd (.list l)))=if ti.agg=true then .fail else .ret { v:=.c (.d (.list l))}:=by
 simp only [Zkz]; split
 ·split <;> rfl
 ·rfl
theorem Zvc {wd:Nat}:Zkz gd ti (.c (.rp n wd i))=if ti.agg=false then .ret { v:=.c (.vw n (i*wd) wd)} else .fail:=Eq.trans rfl rfl
theorem Zva:Zkz gd ti (.c (.ap n i off))=.getK n fun tk=>if ti.agg=false∧off=0 then orFail (Zft ti) fun z=>ZT gd (tk.isArr=true∧i < tk.l.length∧z.like (tk.l[i]?.getD z)=tk.l[i]?.getD z) (scR (z.like (tk.l[i]?.getD z)) fun y=>.need (y.okV=true) (.ret { v:=.c (.d y)})) else .exD fun x=>ZT gd (tk.isArr=true∧tk.l[i]?=some x) (orFail (Ziy ti x.cells off) fun y=>.need (y.okV=true) (.ret { v:=y.toV})):=Eq.trans rfl rfl
theorem Zrf {xv:V}:Zml ti (.c (.lp n off)) xv=.getB n fun cs=>orFail xv.cells fun ys=>if ys.length=ti.size∧off+ti.size≤cs.length then .ret { v:=.tup [],b:=[(n,lay cs off ys)]} else .fail:=Eq.trans rfl rfl
theorem Zre {xv:V} (ha:(ti.agg=false∧off=0∧ti.size=1)=True):Zml ti (.c (.ap n i off)) xv=.getK n fun tk=>orFail (Zft ti) fun z=>orFail xv.toD fun d=>.need (tk.isArr=true∧i < tk.l.length∧z.like (tk.l[i]?.getD z)=tk.l[i]?.getD z) (scR (z.like (tk.l[i]?.getD z)) fun _=>scR d fun d=>.ret { v:=.tup [],k:=[(n,⟨true,tk.sz,tk.l.set i d⟩)]}):=by
 simp only [Zml,ha,if_true]
theorem ZBv {α:Type} {k:IntKind} {m:Int} {f:D→Rd α}:scR (.int k m) f=f (.int k m):=Eq.trans rfl rfl
theorem Zvx {α:Type} {b:Bool} {f:D→Rd α}:scR (.bool b) f=f (.bool b):=Eq.trans rfl rfl
theorem Zvy {α:Type} {l:List D} {f:D→Rd α}:scR (.list l) f=f (.list l):=Eq.trans rfl rfl
theorem ZA4:ZG0 (.c (.lp n off))=.ret { v:=.c (.lp n off)}:=Eq.trans rfl rfl
theorem ZA5:ZG0 (.c (.pd x))=.ret { v:=.c (.pd x)}:=Eq.trans rfl rfl
theorem ZA2:ZG0 (.c (.ap n i off))=.ret { v:=.c (.ap n i off)}:=Eq.trans rfl rfl
theorem ZA6 {wd:Nat}:ZG0 (.c (.rp n wd i))=.ret { v:=.c (.rp n wd i)}:=Eq.trans rfl rfl
theorem ZA3 {f:FuncId} {caps:List (Name×Nat)}:ZG0 (.c (.fn f caps))=.ret { v:=.c (.fn f caps)}:=Eq.trans rfl rfl
theorem ZpD:ZuO fi p (.c (.lp n off))=.ret { v:=.c (.lp n (off+p.1))}:=Eq.trans rfl rfl
theorem ZpE:ZuO fi p (.c (.pd (.agg cs)))=orFail (Ziy fi cs p.1) fun y=>.need (fi.agg=false→∀ zs,y≠.agg zs) (.ret { v:=.c (.pd y)}):=Eq.trans rfl rfl
theorem ZpC:ZuO fi p (.c (.ap n i off))=.ret { v:=.c (.ap n i (off+p.1))}:=Eq.trans rfl rfl
theorem Zl0 {cs:List C}:ZER fi p (.agg cs)=orFail (ZhI fi cs p.1) fun v=>.ret { v}:=Eq.trans rfl rfl
theorem ZDC {k:IntKind} {a:Int} {y:D}:(D.int k a).like y=.int k y.toI:=Eq.trans rfl rfl
theorem ZAT {a:Bool} {y:D}:(D.bool a).like y=.bool y.toB:=Eq.trans rfl rfl
theorem ZAU {a:List D} {y:D}:(D.list a).like y=.list y.toL:=Eq.trans rfl rfl
theorem ZDB {a:List D} {y:D}:(D.agg a).like y=.agg (Zw7 a y.cells):=Eq.trans rfl rfl
theorem ZAS {k:IntKind} {a:Int} {y:D}:(D.int k a).like1 y=.int k y.toI:=Eq.trans rfl rfl
theorem Zw5 {a:Bool} {y:D}:(D.bool a).like1 y=.bool y.toB:=Eq.trans rfl rfl
theorem Zw6 {a:List D} {y:D}:(D.list a).like1 y=.list y.toL:=Eq.trans rfl rfl
theorem ZAV {a:List D}:Zw7 [] a=[]:=Eq.trans rfl rfl
theorem Zw8 {z c:D} {zs cs:List D}:Zw7 (z::zs) (c::cs)=z.like1 c::Zw7 zs cs:=Eq.trans rfl rfl
theorem ZGJ {k:IntKind} {n:Int}:(D.int k n).toI=n:=Eq.trans rfl rfl
theorem ZEt {n:Bool}:(D.bool n).toB=n:=Eq.trans rfl rfl
theorem ZEv {n:List D}:(D.list n).toL=n:=Eq.trans rfl rfl
theorem Zst:ZaQ [] []=some true:=Eq.trans rfl rfl
theorem Zss {k k':IntKind} {a b:Int} {l m:List C}:ZaQ (.d (.int k a)::l) (.d (.int k' b)::m)=if k=k' then (ZaQ l m).map (fun r=>(a==b) && r) else none:=Eq.trans rfl rfl
theorem Zpq {a b:Bool} {l m:List C}:ZaQ (.d (.bool a)::l) (.d (.bool b)::m)=(ZaQ l m).map (fun r=>(a==b) && r):=Eq.trans rfl rfl
theorem ZmV:ZaC []=some []:=Eq.trans rfl rfl
theorem ZmU {k:IntKind} {a:Int} {l:List C}:ZaC (.d (.int k a)::l)=(ZaC l).map (fun r=>true::r):=Eq.trans rfl rfl
theorem Zlc {a:Bool} {l:List C}:ZaC (.d (.bool a)::l)=(ZaC l).map (fun r=>false::r):=Eq.trans rfl rfl
theorem Zu2 {len:Nat}:ZE4 gd ei m (.c (.arr n len))=.getK n fun tk=>ZT gd (0≤m∧m < len) (.need (tk.sz=ei.size∧tk.isArr=true) (.ret { v:=.c (.ap n m.toNat 0)})):=Eq.trans rfl rfl
theorem ZAK {len:Nat}:ZE4 gd ei m (.c (.bs n len))=ZT gd (0≤m∧m < len) (.need (ei.size=1) (.ret { v:=.c (.lp n m.toNat)})):=Eq.trans rfl rfl
theorem ZAL {len:Nat}:ZE4 gd ei m (.c (.vw n off len))=.getK n fun tk=>ZT gd (0≤m∧m < len) (.need (tk.sz=1∧ei.size=1∧tk.isArr=true) (.ret { v:=.c (.ap n (off+m.toNat) 0)})):=Eq.trans rfl rfl
theorem Zu4 {wd len:Nat}:ZE4 gd ei m (.c (.rws n wd len))=ZT gd (0≤m∧m < len) (.need (ei.size=1) (.ret { v:=.c (.rp n wd m.toNat)})):=Eq.trans rfl rfl
theorem Zu3:ZE4 gd ei m (.c (.own n l))=orFail (Zft ei) fun z=>ZT gd (0≤m∧m < l.length) (.need ((l[m.toNat]?.getD z).cells.length=ei.size∧z.like (l[m.toNat]?.getD z)=l[m.toNat]?.getD z) (.ret { v:=.c (.pd (z.like (l[m.toNat]?.getD z)))})):=Eq.trans rfl rfl
theorem ZpT:ZE4 gd ei m (.c (.d (.list l)))=orFail (Zft ei) fun z=>ZT gd (0≤m∧m < l.length) (.need ((l[m.toNat]?.getD z).cells.length=ei.size∧z.like (l[m.toNat]?.getD z)=l[m.toNat]?.getD z) (.ret { v:=.c (.pd (z.like (l[m.toNat]?.getD z)))})):=Eq.trans rfl rfl
theorem ZAm {sh:List (Option Nat)} {cs:List C}:ZLL i (.ts sh cs)=orFail (Zel sh cs i) fun y=>.ret { v:=y}:=Eq.trans rfl rfl
theorem ZEA {sh:List (Option Nat)} {c:C} {cs:List C}:Zel (none::sh) (c::cs) 0=some (.c c):=rfl
theorem ZEB {sh:List (Option Nat)} {c:C} {cs:List C} {i:Nat}:Zel (none::sh) (c::cs) (i+1)=Zel sh cs i:=rfl
theorem ZEy {sh:List (Option Nat)} {k:Nat} {cs:List C}:Zel (some k::sh) cs 0=if k≤cs.length then some (.agg (cs.take k)) else none:=rfl
theorem ZEz {sh:List (Option Nat)} {k:Nat} {cs:List C} {i:Nat}:Zel (some k::sh) cs (i+1)=if k≤cs.length then Zel sh (cs.drop k) i else none:=rfl
theorem ZuN:ZLL i (.tup l)=orFail (l[i]?) fun y=>.need (y.okV=true) (.ret { v:=y.toV}):=Eq.trans rfl rfl
end

section
variable {X:Ctx} {gd:Option Bool} {dst:Option Nat} {t:TypeId} {v:V} {k k' k'':IntKind} {a b c:Int} {n:Name} {l:List D} {m:Nat}
theorem ZlU {s:ByteArray}:ZN X gd dst .len (List.toArray [t]) [.c (.d (.str s))]=.need (X.P.underlying t=some .string) (.ret { v:=.c (.d (.int .i64 s.size))}):=Eq.trans rfl rfl
theorem ZlQ:ZN X gd dst .len (List.toArray [t]) [.c (.arr n m)]=orFail (X.tt t) fun ti=>orFail ti.elem fun _=>.ret { v:=.c (.d (.int .i64 m))}:=Eq.trans rfl rfl
theorem Zpk:ZN X gd dst .len (List.toArray [t]) [.c (.bs n m)]=orFail (X.tt t) fun ti=>orFail ti.elem fun _=>.ret { v:=.c (.d (.int .i64 m))}:=Eq.trans rfl rfl
theorem Zpl {o:Nat}:ZN X gd dst .len (List.toArray [t]) [.c (.vw n o m)]=orFail (X.tt t) fun ti=>orFail ti.elem fun _=>.ret { v:=.c (.d (.int .i64 m))}:=Eq.trans rfl rfl
theorem ZlT {o:Nat}:ZN X gd dst .len (List.toArray [t]) [.c (.rws n o m)]=orFail (X.tt t) fun ti=>orFail ti.elem fun _=>.ret { v:=.c (.d (.int .i64 m))}:=Eq.trans rfl rfl
theorem ZlS:ZN X gd dst .len (List.toArray [t]) [.c (.own n l)]=orFail (X.tt t) fun ti=>orFail ti.elem fun _=>.ret { v:=.c (.d (.int .i64 l.length))}:=Eq.trans rfl rfl
theorem ZlR:ZN X gd dst .len (List.toArray [t]) [.c .nil]=orFail (X.tt t) fun ti=>orFail ti.elem fun _=>.ret { v:=.c (.d (.int .i64 0))}:=Eq.trans rfl rfl
theorem Zj9:ZN X gd dst .len (List.toArray [t]) [.c (.d (.list l))]=orFail (X.tt t) fun ti=>orFail ti.elem fun _=>.ret { v:=.c (.d (.int .i64 l.length))}:=Eq.trans rfl rfl
theorem ZEL {ts:Array TypeId}:ZN X gd dst .min ts [.c (.d (.int k a)),.c (.d (.int k' b))]=.ret { v:=.c (.d (.int k (if b < a then b else a)))}:=Eq.trans rfl rfl
theorem ZEK {ts:Array TypeId}:ZN X gd dst .max ts [.c (.d (.int k a)),.c (.d (.int k' b))]=.ret { v:=.c (.d (.int k (if a < b then b else a)))}:=Eq.trans rfl rfl
theorem ZzL {ts:Array TypeId}:ZN X gd dst .max ts [.c (.d (.int k a)),.c (.d (.int k' b)),.c (.d (.int k'' c))]=.ret { v:=.c (.d (.int k (if (if a < b then b else a) < c then c else (if a < b then b else a))))}:=Eq.trans rfl rfl
theorem ZlP {t t':TypeId} {s x:V} (h:(t=t')=False):ZN X gd dst .append (List.toArray [t,t']) [s,x]=ZkD gd (ZmQ X dst t t' s x):=by simp [ZN,h]
theorem ZzK {t t':TypeId} {s x:V}:ZN X gd dst .copy (List.toArray [t,t']) [s,x]=ZkD gd (Zkm X t s x):=Eq.trans rfl rfl
theorem Zj8 {t:TypeId} {n:Name} {len:Nat} {s:V}:Zkm X t (.c (.arr n len)) s=orFail (X.tt t) fun ti=>orFail ti.elem fun e=>orFail (X.tt e) fun ei=>asL s fun xs=>.getK n fun tk =>
  .need (ei.size=1∧tk.isArr=true∧tk.sz=1∧len=tk.l.length∧xs.length≤len∧∀ x∈xs,x.cells.length=1) (.ret { v:=.c (.d (.int .i64 xs.length)),k:=[(n,⟨true,1,xs++tk.l.drop xs.length⟩)]}):=Eq.trans rfl rfl
theorem Zpj {s x:V}:ZN X gd dst .append (List.toArray [t,t]) [s,x]=ZkD gd (ZgO X dst t s x):=by simp [ZN]
end

section
variable {X:Ctx} {ops:Array Oper} {dst:Option Nat} {op:Op} {ty:TypeId} {pos:String} {aft:Array Edge} {gd:Option Bool} {g:Option (Nat×Bool)}

def ZHC (ops:Array Oper) (j:Nat):Option Nat:=(ops[j]?).bind (·.dst)
theorem ZpN {o:Oper} {l:List Oper}:ZHC (List.toArray (o::l)) 0=o.dst:=Eq.trans rfl rfl
theorem ZpM {o:Oper} {l:List Oper} {j:Nat}:ZHC (List.toArray (o::l)) (j+1)=ZHC (List.toArray l) j:=by simp [ZHC]

theorem Zl8:ZeW X ops ⟨dst,op,ty,pos,aft,none⟩=ZcK (Z6 X none ⟨dst,op,ty,pos,aft,none⟩) fun r=>.ret (none,r):=Eq.trans rfl rfl
theorem Zl9 {j:Nat} {want:Bool}:ZeW X ops ⟨dst,op,ty,pos,aft,some (j,want)⟩=orFail (ZHC ops j) fun tg=>.getT tg fun gv=>orFail (Zhz gv) fun g =>
  if Op.eff X ⟨dst,op,ty,pos,aft,some (j,want)⟩=true then .case (g.1 && (g.2==want)) (ZcK (Z6 X none ⟨dst,op,ty,pos,aft,some (j,want)⟩) fun r=>.ret (none,r)) (.ret (some false,{ v:=ZBx X dst}))
  else ZcK (Z6 X (some (g.1 && (g.2==want))) ⟨dst,op,ty,pos,aft,some (j,want)⟩) fun r=>.need (r.b=[]∧r.k=[]∧r.new=[]) (.ret (some (g.1 && (g.2==want)),r)):=Eq.trans rfl rfl
theorem Zxo {d:Nat}:ZBx X (some d)=if X.mode d=9 then .c (.d (.bool false)) else .c (.d (.int .i64 0)):=by simp only [ZBx,Option.map_some,Option.some.injEq]
theorem Zxn:ZBx X none=.c (.d (.int .i64 0)):=Eq.trans rfl rfl
theorem Zmc {x:Operand}:Z6 X gd ⟨dst,.move x,ty,pos,aft,g⟩=(Zb9 gd x fun v=>.ret { v}):=Eq.trans rfl rfl
theorem Zig {x:Operand}:Z6 X gd ⟨dst,.assign x,ty,pos,aft,g⟩=(Zb9 gd x fun v=>.ret { v}):=Eq.trans rfl rfl
theorem Zmd {c a b:Operand}:Z6 X gd ⟨dst,.pick c a b,ty,pos,aft,g⟩=(Zb9 gd c fun cv=>asB cv fun cb=>Zxe a fun av=>Zxe b fun bv =>
  orFail (Zhz av) fun x=>orFail (Zhz bv) fun y =>
  ZT gd (cb=true→x.1=true) (ZT gd (cb=false→y.1=true) (.ret { v:=.c (.d (.bool (cond cb x.2 y.2)))}))):=Eq.trans rfl rfl
theorem ZkG {e:TypeId}:Z6 X gd ⟨dst,.alloc e,ty,pos,aft,g⟩=(ZkD gd (orFail dst fun d=>orFail (X.tt e) fun ti=>.ret { v:=.c (.lp ⟨X.L,d⟩ 0),b:=[(⟨X.L,d⟩,ti.zero)],new:=[⟨X.L,d⟩]})):=Eq.trans rfl rfl
theorem Zp6 {e:TypeId} {x:Operand}:Z6 X gd ⟨dst,.box e x,ty,pos,aft,g⟩=(ZkD gd (orFail dst fun d=>Zb9 gd x fun v=>orFail v.cells fun cs=>.ret { v:=.c (.lp ⟨X.L,d⟩ 0),b:=[(⟨X.L,d⟩,cs)],new:=[⟨X.L,d⟩]})):=Eq.trans rfl rfl
def Zpn (X:Ctx) (ti:TI) (l:List (Nat×V)):Rd Out:=match ti.arr with
  | some e=>orFail (X.tt e) fun ei=>if ti.agg=true then orFail (Zcy ei.size ti.zero l) fun cs=>.ret { v:=.agg cs} else .fail
  | none=>if ti.agg=true∧ti.fields≠[] then orFail (Zbc X ti.fields ti.zero l) fun cs=>.ret { v:=.agg cs} else .fail
theorem ZkI {t:TypeId} {ps:Array (Nat×Operand)}:Z6 X gd ⟨dst,.build t ps,ty,pos,aft,g⟩=(Zej gd (ps.toList.map (·.2)) fun vs=>orFail (X.tt t) fun ti=>Zpn X ti ((ps.toList.map (·.1)).zip vs)):=Eq.trans rfl rfl
theorem Zkg {ti:TI} {l:List (Nat×V)} (h:ti.arr=none):Zpn X ti l=if ti.agg=true∧ti.fields≠[] then orFail (Zbc X ti.fields ti.zero l) fun cs=>.ret { v:=.agg cs} else .fail:=by simp only [Zpn,h]
theorem Zkh {ti:TI} {l:List (Nat×V)} {e:Nat} (h:ti.arr=some e):Zpn X ti l=orFail (X.tt e) fun ei=>if ti.agg=true then orFail (Zcy ei.size ti.zero l) fun cs=>.ret { v:=.agg cs} else .fail:=by simp only [Zpn,h]
theorem Zeh {t:TypeId} {len:Nat} {ps:Array (Nat×Operand)}:Z6 X gd ⟨dst,.buildSlice t len ps,ty,pos,aft,g⟩=(Zej gd (ps.toList.map (·.2)) fun vs=>orFail (X.tt t) fun ti=>orFail ti.elem fun e=>orFail (X.tt e) fun ei =>
  if ps.toList.map (·.1)=List.range len∧len*ei.size≤16777216 then
   if (dst.map X.mode)=some 5 then ZkD gd (.need (ei.size=1) (orFail (ZEu vs) fun cs=>orFail dst fun d=>.ret { v:=.c (.bs ⟨X.L,d⟩ len),b:=[(⟨X.L,d⟩,cs)],new:=[⟨X.L,d⟩]}))
   else orFail (toDs vs) fun l=>.need (∀ y∈l,y.cells.length=ei.size) <|
   if (dst.map X.mode)=some 1 then ZkD gd (orFail dst fun d=>.ret { v:=.c (.own ⟨X.L,d⟩ l),k:=[(⟨X.L,d⟩,⟨false,ei.size,l⟩)],new:=[⟨X.L,d⟩]})
   else .ret { v:=.c (.d (.list l))}
  else .fail):=Eq.trans rfl rfl
theorem Zmb {t:TypeId} {a:Operand}:Z6 X gd ⟨dst,.load t a,ty,pos,aft,g⟩=(Zb9 gd a fun av=>orFail (X.tt t) fun ti=>Zkz gd ti av):=Eq.trans rfl rfl
theorem ZkM {t:TypeId} {a x:Operand}:Z6 X gd ⟨none,.store t a x,ty,pos,aft,g⟩=ZkD gd (Zb9 gd a fun av=>Zb9 gd x fun xv=>orFail (X.tt t) fun ti=>Zml ti av xv):=Eq.trans rfl rfl
theorem Zfz {x:Operand}:Z6 X gd ⟨dst,.nilCheck x,ty,pos,aft,g⟩=(Zb9 gd x ZG0):=Eq.trans rfl rfl
theorem ZkH {bop:BinOp} {t t':TypeId} {x y:Operand}:Z6 X gd ⟨dst,.binOp bop t x y t',ty,pos,aft,g⟩=(Zb9 gd x fun xv=>Zb9 gd y fun yv=>Zdj X gd bop t xv yv fun d=>.ret { v:=.c (.d d)}):=Eq.trans rfl rfl
theorem Zp7 {t:TypeId} {x:Operand}:Z6 X gd ⟨dst,.unOp .neg t x,ty,pos,aft,g⟩=(Zb9 gd x fun v=>asI v fun k n=>.ret { v:=.c (.d (.int k (k.wrap (0 - n))))}):=by
 simp only [Z6]; congr 1; funext v; unfold asI; split <;> simp_all
theorem Zp8 {t:TypeId} {x:Operand}:Z6 X gd ⟨dst,.unOp .not t x,ty,pos,aft,g⟩=(Zb9 gd x fun v=>asB v fun b=>.ret { v:=.c (.d (.bool (!b)))}):=by
 simp only [Z6]; congr 1; funext v; unfold asB; split <;> simp_all
def Zz9 (X:Ctx) (s t:TypeId) (v:V):Rd Out:=match v with
  | .c (.d (.int _ n))=>orFail (X.tt s) fun _=>orFail (X.tt t) fun ti=>orFail ti.kind fun k=>.ret { v:=.c (.d (.int k (k.wrap n)))}
  | v=>asL v fun l=>.need (Zki X.P s t) (.need (∀ y∈l,y.isU8=true) (.ret { v:=.c (.d (.str (ZEh l)))}))
theorem ZgY {s t:TypeId} {x:Operand}:Z6 X gd ⟨dst,.convert s t x,ty,pos,aft,g⟩=(Zb9 gd x fun v=>Zz9 X s t v):=Eq.trans rfl rfl
theorem Zpw {s t:TypeId} {k:IntKind} {n:Int}:Zz9 X s t (.c (.d (.int k n)))=orFail (X.tt s) fun _=>orFail (X.tt t) fun ti=>orFail ti.kind fun k=>.ret { v:=.c (.d (.int k (k.wrap n)))}:=Eq.trans rfl rfl
theorem ZlY {s t:TypeId} {l:List D}:Zz9 X s t (.c (.d (.list l)))=.need (Zki X.P s t) (.need (∀ y∈l,y.isU8=true) (.ret { v:=.c (.d (.str (ZEh l)))})):=Eq.trans rfl rfl
theorem Zpy {s t:TypeId} {k:Name} {l:List D}:Zz9 X s t (.c (.own k l))=.need (Zki X.P s t) (.need (∀ y∈l,y.isU8=true) (.ret { v:=.c (.d (.str (ZEh l)))})):=Eq.trans rfl rfl
theorem Zpx {s t:TypeId}:Zz9 X s t (.c .nil)=.need (Zki X.P s t) (.need (∀ y∈([]:List D),y.isU8=true) (.ret { v:=.c (.d (.str (ZEh [])))})):=Eq.trans rfl rfl
theorem ZeZ {t:TypeId} {l c:Operand}:Z6 X gd ⟨dst,.makeSlice t l c,ty,pos,aft,g⟩=(Zb9 gd l fun lv=>Zb9 gd c fun cv=>asI lv fun _ n=>asI cv fun _ m =>
  orFail (X.tt t) fun ti=>orFail ti.elem fun e=>orFail (X.tt e) fun ei=>orFail (Zft ei) fun z =>
  ZT gd (0≤n∧n≤m∧m*ei.bytes≤140737488355328∧m≤9223372036854775807) <|
  if z.cells.length=ei.size∧0 < ei.size then
   if (dst.map X.mode)=some 1 then ZkD gd (orFail dst fun d=>.ret { v:=.c (.own ⟨X.L,d⟩ (List.replicate n.toNat z)),k:=[(⟨X.L,d⟩,⟨false,ei.size,List.replicate n.toNat z⟩)],new:=[⟨X.L,d⟩]})
   else if (dst.map X.mode)=some 2 then ZkD gd (.need (n=m) (orFail dst fun d=>.ret { v:=.c (.arr ⟨X.L,d⟩ n.toNat),k:=[(⟨X.L,d⟩,⟨true,ei.size,List.replicate n.toNat z⟩)],new:=[⟨X.L,d⟩]}))
   else if (dst.map X.mode)=some 5 then ZkD gd (.need (n=m∧ei.size=1) (orFail (ei.zero[0]?) fun c0=>orFail dst fun d=>.ret { v:=.c (.bs ⟨X.L,d⟩ n.toNat),b:=[(⟨X.L,d⟩,List.replicate n.toNat c0)],new:=[⟨X.L,d⟩]}))
   else .ret { v:=.c (.d (.list (List.replicate n.toNat z)))}
  else .fail):=Eq.trans rfl rfl
def Zqs (gd:Option Bool) (ei:TI) (lo hi mx:Option Operand) (xv:V):Rd Out:=match xv with
  | .c (.arr k len)=>.getK k fun tk=>ZiJ gd lo 0 fun n=>ZiJ gd hi len fun h=>ZiJ gd mx h fun m =>
   .need (mx.isSome=true∧hi.isSome=true) <|
   ZT gd (0≤n∧n < h∧h=m∧m≤len) <|
   .need (tk.sz=1∧ei.size=1∧tk.isArr=true) (.ret { v:=.c (.vw k n.toNat (h - n).toNat)})
  | xv=>asL xv fun l =>
  ZiJ gd lo 0 fun n=>ZiJ gd hi l.length fun h=>ZiJ gd mx h fun m =>
  .need (mx.isSome=true→hi.isSome=true) <|
  ZT gd (0≤n∧n≤h∧h≤m∧m≤l.length) <|
  .need (∀ y∈l,y.cells.length=ei.size) <|
  if Zk7 mx=true then .ret { v:=.c .nil} else .ret { v:=.c (.d (.list (cut l n.toNat (h.toNat - n.toNat))))}
theorem ZkL {t:TypeId} {x:Operand} {lo hi mx:Option Operand}:Z6 X gd ⟨dst,.slice t x lo hi mx,ty,pos,aft,g⟩=(Zb9 gd x fun xv=>orFail (X.tt t) fun ti=>orFail ti.elem fun e=>orFail (X.tt e) fun ei=>Zqs gd ei lo hi mx xv):=Eq.trans rfl rfl
def Zvz (gd:Option Bool) (ei:TI) (lo hi mx:Option Operand) (l:List D):Rd Out :=
  ZiJ gd lo 0 fun n=>ZiJ gd hi l.length fun h=>ZiJ gd mx h fun m =>
  .need (mx.isSome=true→hi.isSome=true) <|
  ZT gd (0≤n∧n≤h∧h≤m∧m≤l.length) <|
  .need (∀ y∈l,y.cells.length=ei.size) <|
  if Zk7 mx=true then .ret { v:=.c .nil} else .ret { v:=.c (.d (.list (cut l n.toNat (h.toNat - n.toNat))))}
theorem Zqr {ei:TI} {lo hi mx:Option Operand} {l:List D}:Zvz gd ei lo hi mx l=ZiJ gd lo 0 fun n=>ZiJ gd hi l.length fun h=>ZiJ gd mx h fun m =>
  .need (mx.isSome=true→hi.isSome=true) <|
  ZT gd (0≤n∧n≤h∧h≤m∧m≤l.length) <|
  .need (∀ y∈l,y.cells.length=ei.size) <|
  if Zk7 mx=true then .ret { v:=.c .nil} else .ret { v:=.c (.d (.list (cut l n.toNat (h.toNat - n.toNat))))}:=Eq.trans rfl rfl
theorem Zmk {ei:TI} {lo hi mx:Option Operand} {n:Name} {l:List D}:Zqs gd ei lo hi mx (.c (.own n l))=Zvz gd ei lo hi mx l:=Eq.trans rfl rfl
theorem ZkV {ei:TI} {lo hi mx:Option Operand} {l:List D}:Zqs gd ei lo hi mx (.c (.d (.list l)))=Zvz gd ei lo hi mx l:=Eq.trans rfl rfl
theorem Zmj {ei:TI} {lo hi mx:Option Operand}:Zqs gd ei lo hi mx (.c .nil)=Zvz gd ei lo hi mx []:=Eq.trans rfl rfl
theorem Zmi {ei:TI} {lo hi mx:Option Operand} {k:Name} {len:Nat}:Zqs gd ei lo hi mx (.c (.arr k len))=.getK k fun tk=>ZiJ gd lo 0 fun n=>ZiJ gd hi len fun h=>ZiJ gd mx h fun m =>
   .need (mx.isSome=true∧hi.isSome=true) <|
   ZT gd (0≤n∧n < h∧h=m∧m≤len) <|
   .need (tk.sz=1∧ei.size=1∧tk.isArr=true) (.ret { v:=.c (.vw k n.toNat (h - n).toNat)}):=Eq.trans rfl rfl
theorem ZeX {t:TypeId} {x:Operand} {i:Nat}:Z6 X gd ⟨dst,.fieldAddr t x i,ty,pos,aft,g⟩=(Zb9 gd x fun v=>orFail (X.tt t) fun ti=>orFail (ti.fields[i]?) fun p=>orFail (X.tt p.2) fun fi=>if 0 < fi.size∧ti.agg=true then ZuO fi p v else .fail):=Eq.trans rfl rfl
def ZNu (X:Ctx) (gd:Option Bool) (t:TypeId) (n:Int) (xv:V):Rd Out:=match xv with
  | .c (.d (.str s))=>.need (X.P.underlying t=some .string) (ZT gd (0≤n∧n < (s.size:Int)) (.ret { v:=.c (.d (.int .u8 (s.toList[n.toNat]?.getD 0).toNat))}))
  | _=>.fail
theorem Zu1 {s:ByteArray} {n:Int} {t:TypeId}:ZNu X gd t n (.c (.d (.str s)))=.need (X.P.underlying t=some .string) (ZT gd (0≤n∧n < (s.size:Int)) (.ret { v:=.c (.d (.int .u8 (s.toList[n.toNat]?.getD 0).toNat))})):=Eq.trans rfl rfl
theorem ZkK {t:TypeId} {x i:Operand}:Z6 X gd ⟨dst,.index t x i,ty,pos,aft,g⟩=(Zb9 gd x fun xv=>Zb9 gd i fun iv=>asI iv fun _ n=>ZNu X gd t n xv):=Eq.trans rfl rfl
theorem ZkJ {t:TypeId} {x:Operand} {i:Nat}:Z6 X gd ⟨dst,.field t x i,ty,pos,aft,g⟩=(Zb9 gd x fun v=>orFail (X.tt t) fun ti=>orFail (ti.fields[i]?) fun p=>orFail (X.tt p.2) fun fi=>if ti.agg=true then ZER fi p v else .fail):=Eq.trans rfl rfl
def ZHD (X:Ctx) (gd:Option Bool) (ti:TI) (n:Int) (xv:V):Rd Out:=match ti.arr with
  | some e=>orFail (X.tt e) fun ei=>(match xv with
   | .c (.lp m off)=>ZT gd (0≤n∧n.toNat*ei.size+ei.size≤ti.size∧0 < ei.size) (.ret { v:=.c (.lp m (off+n.toNat*ei.size))})
   | _=>.fail)
  | none=>orFail ti.elem fun e=>orFail (X.tt e) fun ei=>ZE4 gd ei n xv
theorem ZeY {t:TypeId} {x i:Operand}:Z6 X gd ⟨dst,.indexAddr t x i,ty,pos,aft,g⟩=(Zb9 gd x fun xv=>Zb9 gd i fun iv=>asI iv fun _ n=>orFail (X.tt t) fun ti=>ZHD X gd ti n xv):=Eq.trans rfl rfl
theorem ZpR {ti:TI} {n:Int} {xv:V} (h:ti.arr=none):ZHD X gd ti n xv=orFail ti.elem fun e=>orFail (X.tt e) fun ei=>ZE4 gd ei n xv:=by simp only [ZHD,h]
theorem ZpS {ti:TI} {n:Int} {m:Name} {off:Nat} {e:Nat} (h:ti.arr=some e):ZHD X gd ti n (.c (.lp m off))=orFail (X.tt e) fun ei=>ZT gd (0≤n∧n.toNat*ei.size+ei.size≤ti.size∧0 < ei.size) (.ret { v:=.c (.lp m (off+n.toNat*ei.size))}):=by simp only [ZHD,h]
theorem ZgZ {x:Operand} {i:Nat}:Z6 X gd ⟨dst,.extract x i,ty,pos,aft,g⟩=(Zb9 gd x fun v=>ZLL i v):=Eq.trans rfl rfl
theorem Zfy {f:FuncId} {l caps:List Operand}:Z6 X gd ⟨dst,.makeFunc (.func f) l.toArray caps.toArray,ty,pos,aft,g⟩=(if l.length=0 then Zej gd caps fun vs =>
   orFail (vs.foldr (fun v acc=>match v,acc with
    | .c (.lp n off),some l=>some ((n,off)::l)
    | _,_=>none) (some [])) fun l=>.need (rcv l=false) (.ret { v:=.c (.fn f l)})
  else if caps.length=0 then Zej gd l fun vs=>ZNz f vs
  else .fail):=Eq.trans rfl rfl
theorem ZgX {b:Builtin} {as:List Operand} {ts:Array TypeId}:Z6 X gd ⟨dst,.call { callee:=.builtin b,args:=as.toArray,argTypes:=ts},ty,pos,aft,g⟩=Zej gd as fun vs=>ZN X gd dst b ts vs:=Eq.trans rfl rfl
theorem Zma {fo:Operand} {as:List Operand} {ts:Array TypeId}:Z6 X gd ⟨dst,.call { callee:=.value fo,args:=as.toArray,argTypes:=ts},ty,pos,aft,g⟩=Zb9 gd fo fun fv=>ZHm X gd dst as fv:=Eq.trans rfl rfl
theorem ZuC {f:FuncId} {caps:List (Name×Nat)} {as:List Operand}:ZHm X gd dst as (.c (.fn f caps))=Zej gd as fun vs=>Zkj X gd dst f (fnA caps (vs.map (Zlf (dst.map X.mode)))):=Eq.trans rfl rfl
end


theorem ZwN {t:List (Nat×V)} {b:Zf} {k:Zr} {d:Nat} {v:V} {b':Zf} {k':Zr} {ns:List Name}:St.apply ⟨t,b,k⟩ (some d) none ⟨v,b',k',ns⟩=⟨(d,v)::t,b'++b,k'++k⟩:=Eq.trans rfl rfl
theorem ZFI {t:List (Nat×V)} {b:Zf} {k:Zr} {d:Nat} {γ:Bool} {v:V} {b':Zf} {k':Zr} {ns:List Name}:St.apply ⟨t,b,k⟩ (some d) (some γ) ⟨v,b',k',ns⟩=⟨(d,.g γ v)::t,b'++b,k'++k⟩:=Eq.trans rfl rfl
theorem ZwM {t:List (Nat×V)} {b:Zf} {k:Zr} {v:V} {b':Zf} {k':Zr} {ns:List Name} {gd:Option Bool}:St.apply ⟨t,b,k⟩ none gd ⟨v,b',k',ns⟩=⟨t,b'++b,k'++k⟩:=by cases gd <;> exact Eq.trans rfl rfl
theorem ZFM {b:Bool}:Zhz (.c (.d (.bool b)))=some (true,b):=Eq.trans rfl rfl
theorem ZFN {γ b:Bool}:Zhz (.g γ (.c (.d (.bool b))))=some (γ,b):=Eq.trans rfl rfl
theorem Zz8 {t:Nat} {st:St}:ZmX (.tmp t) st=(lk st.t t).bind Zhz:=by simp only [ZmX]; cases lk st.t t <;> rfl
theorem Zsw {b:Bool} {st:St}:ZmX (.const (.bool b)) st=some (true,b):=Eq.trans rfl rfl
theorem Zxc {α β:Type} {x:α} {f:α→Option β}:(some x).bind f=f x:=Eq.trans rfl rfl
theorem ZwV {k:IntKind} {n:Int}:Zef (.int k n)=some (.c (.d (.int k n))):=Eq.trans rfl rfl
theorem Zsx {b:Bool}:Zef (.bool b)=some (.c (.d (.bool b))):=Eq.trans rfl rfl
theorem ZwW:Zef (.slice none 0 0)=some (.c .nil):=Eq.trans rfl rfl
theorem ZwX {s:ByteArray}:Zef (.string s)=some (.c (.d (.str s))):=Eq.trans rfl rfl
theorem Zsy:Zef .nilFunc=some (.c (.d (.raw .nilFunc))):=Eq.trans rfl rfl
theorem Zsz:Zef (.pointer none)=some (.c (.d (.raw (.pointer none)))):=Eq.trans rfl rfl
theorem ZC8 {i:Nat}:Zuf i []=[]:=Eq.trans rfl rfl
theorem ZzH {i:Nat} {v:V} {vs:List V}:Zuf i (v::vs)=(i,v)::Zuf (i+1) vs:=Eq.trans rfl rfl

section
variable {X:Ctx} {gd:Option Bool} {t:TypeId} {α:Type} {f:D→Rd α} {k:IntKind} {a b:Int} {st:St}
theorem Zug:Zdj X gd .add t (.c (.d (.int k a))) (.c (.d (.int k b))) f=ZT gd True (f (.int k (k.wrap (a+b)))):=by simp [Zdj,Zcp,orFail]
theorem ZuA:Zdj X gd .sub t (.c (.d (.int k a))) (.c (.d (.int k b))) f=ZT gd True (f (.int k (k.wrap (a - b)))):=by simp [Zdj,Zcp,orFail]
theorem Zur:Zdj X gd .mul t (.c (.d (.int k a))) (.c (.d (.int k b))) f=ZT gd True (f (.int k (k.wrap (a*b)))):=by simp [Zdj,Zcp,orFail]
theorem Zut:Zdj X gd .quo t (.c (.d (.int k a))) (.c (.d (.int k b))) f=ZT gd (b≠0) (f (.int k (k.wrap (a.tdiv b)))):=by simp [Zdj,Zcp,orFail]
theorem Zuu:Zdj X gd .rem t (.c (.d (.int k a))) (.c (.d (.int k b))) f=ZT gd (b≠0) (f (.int k (a.tmod b))):=by simp [Zdj,Zcp,orFail]
theorem Zui:Zdj X gd .and t (.c (.d (.int k a))) (.c (.d (.int k b))) f=ZT gd True (f (.int k (k.wrap (BitVec.ofInt k.bits a &&& BitVec.ofInt k.bits b).toNat))):=by simp [Zdj,Zcp,orFail]
theorem ZzM:Zdj X gd .or t (.c (.d (.int k a))) (.c (.d (.int k b))) f=ZT gd True (f (.int k (k.wrap (BitVec.ofInt k.bits a ||| BitVec.ofInt k.bits b).toNat))):=by simp [Zdj,Zcp,orFail]
theorem ZuB:Zdj X gd .xor t (.c (.d (.int k a))) (.c (.d (.int k b))) f=ZT gd True (f (.int k (k.wrap (BitVec.ofInt k.bits a ^^^ BitVec.ofInt k.bits b).toNat))):=by simp [Zdj,Zcp,orFail]
theorem Zka:Zdj X gd .andNot t (.c (.d (.int k a))) (.c (.d (.int k b))) f=ZT gd True (f (.int k (k.wrap (BitVec.ofInt k.bits a &&& ~~~ (BitVec.ofInt k.bits b)).toNat))):=by simp [Zdj,Zcp,orFail]
theorem Zum:Zdj X gd .eql t (.c (.d (.int k a))) (.c (.d (.int k b))) f=ZT gd True (f (.bool (a==b))):=by simp [Zdj,Zcp,orFail]
theorem Zus:Zdj X gd .neq t (.c (.d (.int k a))) (.c (.d (.int k b))) f=ZT gd True (f (.bool (a != b))):=by simp [Zdj,Zcp,orFail]
theorem Zuq:Zdj X gd .lss t (.c (.d (.int k a))) (.c (.d (.int k b))) f=ZT gd True (f (.bool (decide (a < b)))):=by simp [Zdj,Zcp,orFail]
theorem Zup:Zdj X gd .leq t (.c (.d (.int k a))) (.c (.d (.int k b))) f=ZT gd True (f (.bool (decide (a≤b)))):=by simp [Zdj,Zcp,orFail]
theorem Zuo:Zdj X gd .gtr t (.c (.d (.int k a))) (.c (.d (.int k b))) f=ZT gd True (f (.bool (decide (b < a)))):=by simp [Zdj,Zcp,orFail]
theorem Zun:Zdj X gd .geq t (.c (.d (.int k a))) (.c (.d (.int k b))) f=ZT gd True (f (.bool (decide (b≤a)))):=by simp [Zdj,Zcp,orFail]
theorem Zux {k':IntKind}:Zdj X gd .shl t (.c (.d (.int k a))) (.c (.d (.int k' b))) f=ZT gd (0≤b) (f (.int k (k.wrap (a*2 ^ (Nat.min b.toNat k.bits))))):=Eq.trans rfl rfl
theorem Zuy {k':IntKind}:Zdj X gd .shr t (.c (.d (.int k a))) (.c (.d (.int k' b))) f=ZT gd (0≤b) (f (.int k (a.fdiv (2 ^ (Nat.min b.toNat k.bits))))):=Eq.trans rfl rfl
theorem Zuk {p q:Bool}:Zdj X gd .eql t (.c (.d (.bool p))) (.c (.d (.bool q))) f=orFail (X.tt t) fun ti=>if ti.boo=true then f (.bool (p==q)) else .fail:=Eq.trans rfl rfl
theorem Zul {p q:Bool}:Zdj X gd .neq t (.c (.d (.bool p))) (.c (.d (.bool q))) f=orFail (X.tt t) fun ti=>if ti.boo=true then f (.bool (!(p==q))) else .fail:=Eq.trans rfl rfl
theorem Zuw {p q:ByteArray}:Zdj X gd .eql t (.c (.d (.str p))) (.c (.d (.str q))) f=f (.bool (p.toList==q.toList)):=Eq.trans rfl rfl
theorem Zuv {p q:ByteArray}:Zdj X gd .add t (.c (.d (.str p))) (.c (.d (.str q))) f=ZT gd (p.size+q.size≤1000000000) (f (.str (p++q))):=Eq.trans rfl rfl
theorem Zuz {p q:ByteArray}:Zdj X gd .neq t (.c (.d (.str p))) (.c (.d (.str q))) f=f (.bool (!(p.toList==q.toList))):=Eq.trans rfl rfl
theorem Zuh {p q:List C}:Zdj X gd .eql t (.agg p) (.agg q) f=orFail (X.tt t) fun ti=>if ti.flat≠[]∧ZaC p=some ti.flat then orFail (ZaQ p q) fun b=>f (.bool b) else .fail:=Eq.trans rfl rfl
theorem Zuj {p q:List C}:Zdj X gd .neq t (.agg p) (.agg q) f=orFail (X.tt t) fun ti=>if ti.flat≠[]∧ZaC p=some ti.flat then orFail (ZaQ p q) fun b=>f (.bool (!b)) else .fail:=Eq.trans rfl rfl
end

theorem ZzT {k:IntKind} {n:Int}:(D.int k n).cells=[.int k n]:=Eq.trans rfl rfl
theorem ZwO {b:Bool}:(D.bool b).cells=[.bool b]:=Eq.trans rfl rfl
theorem ZwQ {l:List D}:(D.list l).cells=[.list l]:=Eq.trans rfl rfl
theorem ZzU {s:ByteArray}:(D.str s).cells=[.str s]:=Eq.trans rfl rfl
theorem ZGM {s:ByteArray}:(D.str s).toV=.c (.d (.str s)):=Eq.trans rfl rfl
theorem ZGe {s:ByteArray}:(D.str s).okV=true:=Eq.trans rfl rfl
theorem ZzR {l:List D}:(D.agg l).cells=l:=Eq.trans rfl rfl
theorem ZGL {k:IntKind} {n:Int}:(D.int k n).toV=.c (.d (.int k n)):=Eq.trans rfl rfl
theorem ZEw {b:Bool}:(D.bool b).toV=.c (.d (.bool b)):=Eq.trans rfl rfl
theorem ZEx {l:List D}:(D.list l).toV=.c (.d (.list l)):=Eq.trans rfl rfl
theorem ZGK {l:List D}:(D.agg l).toV=.agg (l.map .d):=Eq.trans rfl rfl
theorem ZGd {k:IntKind} {n:Int}:(D.int k n).okV=true:=Eq.trans rfl rfl
theorem ZDH {b:Bool}:(D.bool b).okV=true:=Eq.trans rfl rfl
theorem ZDI {l:List D}:(D.list l).okV=true:=Eq.trans rfl rfl
theorem ZGc {l:List D}:(D.agg l).okV=true:=Eq.trans rfl rfl
theorem Zua {p:D→Prop}:(∀ y∈([]:List D),p y)=True:=by simp
theorem Zpg {p:D→Prop} {x:D} {l:List D}:(∀ y∈x::l,p y)=(p x∧∀ y∈l,p y):=by simp
theorem ZDr {α:Type} {x:D} {f:D→α→Prop} {a:α}:(∃ y,(some x=some y)∧f y a)=f x a:=by simp

def frC:C→Name→Prop
 | .own k _,n=>k≠n
 | .arr k _,n=>k≠n
 | .lp k _,n=>k≠n
 | .ap k _ _,n=>k≠n
 | .bs k _,n=>k≠n
 | .vw k _ _,n=>k≠n
 | .rws k _ _,n=>k≠n
 | .rp k _ _,n=>k≠n
 | .fn _ caps,n=>n∉caps.map (·.1)
 | _,_=>True
def Zw3:List C→Name→Prop
 | [],_=>True
 | c::cs,n=>frC c n∧Zw3 cs n
def frV:V→Name→Prop
 | .c x,n=>frC x n
 | .agg cs,n=>Zw3 cs n
 | .tup _,_=>True
 | .ts _ cs,n=>Zw3 cs n
 | .g _ v,n=>frV v n
def frT:List (Nat×V)→Name→Prop
 | [],_=>True
 | p::l,n=>frV p.2 n∧frT l n
def frB:Zf→Name→Prop
 | [],_=>True
 | p::l,n=>p.1≠n∧Zw3 p.2 n∧frB l n
def frK:Zr→Name→Prop
 | [],_=>True
 | p::l,n=>p.1≠n∧frK l n

theorem ZAv (c:C) (n:Name):frC c n↔n∉c.nms:=by
 cases c <;> simp [frC,C.nms,eq_comm]
theorem ZiH (n:Name):∀ cs:List C,Zw3 cs n↔∀ c∈cs,n∉c.nms
 | []=>by simp [Zw3]
 | c::cs=>by simp [Zw3,ZAv,ZiH n cs]
theorem ZAF (n:Name):∀ v:V,frV v n↔n∉v.nms
 | .c x=>ZAv x n
 | .agg cs=>by simp [frV,V.nms,ZiH]
 | .tup _=>by simp [frV,V.nms]
 | .ts _ cs=>by simp [frV,V.nms,ZiH]
 | .g _ v=>ZAF n v
theorem ZAC (n:Name):∀ l:List (Nat×V),frT l n↔∀ p∈l,n∉p.2.nms
 | []=>by simp [frT]
 | p::l=>by simp only [frT,ZAF,ZAC n l,List.forall_mem_cons]
theorem ZAs (n:Name):∀ l:Zf,frB l n↔∀ p∈l,p.1≠n∧∀ c∈p.2,n∉c.nms
 | []=>by simp [frB]
 | p::l=>by simp only [frB,ZiH,ZAs n l,List.forall_mem_cons,and_assoc]
theorem ZAz (n:Name):∀ l:Zr,frK l n↔∀ p∈l,p.1≠n
 | []=>by simp [frK]
 | p::l=>by simp only [frK,ZAz n l,List.forall_mem_cons]

theorem Zt8 {t:List (Nat×V)} {b:Zf} {k:Zr} {n:Name}:FreeB ⟨t,b,k⟩ n=(frT t n∧frB b n∧frK k n):=by
 simp only [FreeB,ZAC,ZAs,ZAz]
theorem ZC6 {p:Name→Prop}:(∀ n∈([]:List Name),p n)=True:=by simp
theorem ZC7 {p:Name→Prop} {m:Name}:(∀ n∈[m],p n)=p m:=by simp
theorem ZAD {n:Name}:frT [] n=True:=Eq.trans rfl rfl
theorem ZuU {t:Nat} {v:V} {l:List (Nat×V)} {n:Name}:frT ((t,v)::l) n=(frV v n∧frT l n):=Eq.trans rfl rfl
theorem ZAt {n:Name}:frB [] n=True:=Eq.trans rfl rfl
theorem ZuR {m n:Name} {cs:List C} {l:Zf}:frB ((m,cs)::l) n=(m≠n∧Zw3 cs n∧frB l n):=Eq.trans rfl rfl
theorem ZAA {n:Name}:frK [] n=True:=Eq.trans rfl rfl
theorem ZuT {m n:Name} {t:Tok} {l:Zr}:frK ((m,t)::l) n=(m≠n∧frK l n):=Eq.trans rfl rfl
theorem ZuS {n:Name}:Zw3 [] n=True:=Eq.trans rfl rfl
theorem ZpI {c:C} {cs:List C} {n:Name}:Zw3 (c::cs) n=(frC c n∧Zw3 cs n):=Eq.trans rfl rfl
theorem ZHx {x:C} {n:Name}:frV (.c x) n=frC x n:=Eq.trans rfl rfl
theorem ZAE {x:List C} {n:Name}:frV (.agg x) n=Zw3 x n:=Eq.trans rfl rfl
theorem ZAG {x:List D} {n:Name}:frV (.tup x) n=True:=Eq.trans rfl rfl
theorem ZE1 {sh:List (Option Nat)} {x:List C} {n:Name}:frV (.ts sh x) n=Zw3 x n:=Eq.trans rfl rfl
theorem ZHy {γ:Bool} {v:V} {n:Name}:frV (.g γ v) n=frV v n:=Eq.trans rfl rfl
theorem ZHw {x:D} {n:Name}:frC (.d x) n=True:=Eq.trans rfl rfl
theorem ZAw {n:Name}:frC .nil n=True:=Eq.trans rfl rfl
theorem ZEY {x:D} {n:Name}:frC (.pd x) n=True:=Eq.trans rfl rfl
theorem ZAx {m n:Name} {l:List D}:frC (.own m l) n=(m≠n):=Eq.trans rfl rfl
theorem ZAu {m n:Name} {l:Nat}:frC (.arr m l) n=(m≠n):=Eq.trans rfl rfl
theorem ZEX {m n:Name} {l:Nat}:frC (.lp m l) n=(m≠n):=Eq.trans rfl rfl
theorem ZEU {m n:Name} {i l:Nat}:frC (.ap m i l) n=(m≠n):=Eq.trans rfl rfl
theorem ZEV {m n:Name} {l:Nat}:frC (.bs m l) n=(m≠n):=Eq.trans rfl rfl
theorem ZE0 {m n:Name} {i l:Nat}:frC (.vw m i l) n=(m≠n):=Eq.trans rfl rfl
theorem ZAy {m n:Name} {i l:Nat}:frC (.rws m i l) n=(m≠n):=Eq.trans rfl rfl
theorem ZEZ {m n:Name} {i l:Nat}:frC (.rp m i l) n=(m≠n):=Eq.trans rfl rfl
theorem ZEW {f:FuncId} {caps:List (Name×Nat)} {n:Name}:frC (.fn f caps) n=(n∉caps.map (·.1)):=Eq.trans rfl rfl

def ZES (X:Ctx) (rs:List ResultVar) (r:V) (b':Zf) (k':Zr):Exit→St→Prop
 | .normal,st=>ZEI X rs r b' k' st
 | .ret,st=>ZEI X rs r b' k' st
 | _,_=>False

theorem ZsF {X:Ctx} {rs:List ResultVar} {r:V} {b':Zf} {k':Zr}:∀ e st,ZES X rs r b' k' e st→ZLW X rs r b' k' e st:=by
 intro e st h
 cases e with
 | normal=>exact ⟨st,.refl _ _,h⟩
 | ret=>exact ⟨st,.refl _ _,h⟩
 | _=>exact h.elim

section
variable {X:Ctx} {rs:List ResultVar} {r:V} {b':Zf} {k':Zr} {st:St}
theorem Zks:ZES X rs r b' k' .normal st=(oel (Zvm X r rs st) (leV r)∧Zll b' st.b∧Zlm k' st.k):=by
 simp only [ZES,ZEI]; cases Zvm X r rs st <;> rfl
theorem ZuQ:ZES X rs r b' k' .ret st=(oel (Zvm X r rs st) (leV r)∧Zll b' st.b∧Zlm k' st.k):=by
 simp only [ZES,ZEI]; cases Zvm X r rs st <;> rfl
def ZHY (X:Ctx) (T:TypeId) (b:Zf):V→Option V
 | .c (.lp n off)=>match X.tt T with
  | some ti=>match lk b n with
   | some cs=>ZhI ti cs off
   | none=>none
  | none=>none
 | _=>none
theorem ZGv {T:TypeId} {b:Zf} {n:Name} {off:Nat}:ZHY X T b (.c (.lp n off))=(X.tt T).bind fun ti=>(lk b n).bind fun cs=>ZhI ti cs off:=by
 simp only [ZHY]
 cases X.tt T <;> simp
 cases lk b n <;> simp
theorem ZDT {t:Nat}:ZDR X st (.tmp t)=lk st.t t:=rfl
theorem Zqe {a:Nat} {T:TypeId}:ZDR X st (.cell a T)=(lk st.t a).bind (ZHY X T st.b):=by
 simp only [ZDR]
 cases h:lk st.t a with
 | none=>rfl
 | some v =>
  simp only [Option.bind_some,ZHY]
  cases v with
  | c x=>cases x <;> (try rfl); cases X.tt T <;> rfl
  | _=>rfl
theorem ZBl:Zek X st []=some []:=rfl
theorem Zxf {r:ResultVar} {rs:List ResultVar}:Zek X st (r::rs)=(ZDR X st r).bind fun v=>(Zek X st rs).bind fun vs=>some (v::vs):=by
 simp only [Zek]; cases ZDR X st r <;> cases Zek X st rs <;> rfl
theorem ZBm {a:Nat} {T:TypeId}:Zvm X r [.cell a T] st=(lk st.t a).bind (ZHY X T st.b):=Zqe
theorem ZDV {ds:List D} {r r':ResultVar} {rs:List ResultVar}:Zvm X (.tup ds) (r::r'::rs) st=(Zek X st (r::r'::rs)).bind fun vs=>(toDs vs).map .tup:=by
 simp only [Zvm]; cases Zek X st (r::r'::rs) <;> rfl
theorem ZGw {sh:List (Option Nat)} {cs:List C} {r r':ResultVar} {rs:List ResultVar}:Zvm X (.ts sh cs) (r::r'::rs) st=(Zek X st (r::r'::rs)).bind fun vs=>(tsS vs).map fun sh=>.ts sh (tsC vs):=by
 simp only [Zvm]; cases Zek X st (r::r'::rs) <;> rfl
theorem ZGQ:tsS []=some []:=rfl
theorem ZL7 {x:C} {vs:List V}:tsS (.c x::vs)=(tsS vs).map (none::·):=rfl
theorem ZGP {x:List C} {vs:List V}:tsS (.agg x::vs)=(tsS vs).map (some x.length::·):=rfl
theorem ZGO:tsC []=[]:=rfl
theorem ZL6 {x:C} {vs:List V}:tsC (.c x::vs)=x::tsC vs:=rfl
theorem ZGN {x:List C} {vs:List V}:tsC (.agg x::vs)=x++tsC vs:=rfl
theorem ZBn {ds:List D}:Zvm X (.tup ds) [] st=some (.tup []):=rfl
theorem ZDU {t:Nat}:Zvm X r [.tmp t] st=lk st.t t:=rfl
theorem ZEj {m:Zf}:Zll [] m=True:=rfl
theorem ZEk {m:Zr}:Zlm [] m=True:=rfl
theorem ZCv {n:Name} {cs:List C} {l m:Zf}:Zll ((n,cs)::l) m=(oel (lk m n) (Zl5 cs)∧Zll l m):=by
 simp only [Zll]; cases lk m n <;> rfl
theorem ZCw {n:Name} {t:Tok} {l m:Zr}:Zlm ((n,t)::l) m=(oel (lk m n) (fun t'=>t=t')∧Zlm l m):=by
 simp only [Zlm]; cases lk m n <;> rfl
theorem ZLR {x y:C}:leV (.c x) (.c y)=leC x y:=rfl
theorem ZF5 {x y:List C}:leV (.agg x) (.agg y)=Zl5 x y:=rfl
theorem ZF6 {x y:List D}:leV (.tup x) (.tup y)=(x=y):=rfl
theorem ZHI {sh sh':List (Option Nat)} {x y:List C}:leV (.ts sh x) (.ts sh' y)=(sh=sh'∧Zl5 x y):=rfl
theorem ZDz:Zl5 [] []=True:=rfl
theorem ZAP {c d:C} {cs ds:List C}:Zl5 (c::cs) (d::ds)=(leC c d∧Zl5 cs ds):=rfl
theorem ZF2 {k k':IntKind} {n m:Int}:leC (.d (.int k n)) (.d (.int k' m))=(k=k'∧n=m):=by simp [leC]
theorem ZDx {n m:Bool}:leC (.d (.bool n)) (.d (.bool m))=(n=m):=by simp [leC]
theorem ZDy {l m:List D}:leC (.d (.list l)) (.d (.list m))=(l=m):=by simp [leC]
theorem ZpZ {n:Name} {l m:List D}:leC (.d (.list l)) (.own n m)=(l=m):=rfl
theorem ZpY {l:List D}:leC (.d (.list l)) .nil=(l=[]):=rfl
theorem ZF4 {n n':Name} {l m:List D}:leC (.own n l) (.own n' m)=(n=n'∧l=m):=by simp [leC]
theorem ZF3:leC .nil .nil=True:=by simp [leC]
theorem ZHH {n n':Name} {i j:Nat}:leC (.lp n i) (.lp n' j)=(n=n'∧i=j):=by simp [leC]
end

abbrev vI (k:IntKind) (n:Int):V:=.c (.d (.int k n))
abbrev vB (n:Bool):V:=.c (.d (.bool n))
abbrev vL (l:List D):V:=.c (.d (.list l))

end Go.Vam
