/- A part of the proof. Conditions: none. -/
import Derived.Test.YtmpbpijnbmpbhaaGreatBVa
import Derived.Laws.BytesArg
import Derived.Laws.StructEq
import Derived.Laws.Tables
import Derived.Laws.AppendOwn
import Derived.Laws.MakeOwn
import Derived.Laws.Slices
section
set_option linter.unusedVariables false
set_option linter.unusedSimpArgs false
namespace Go.Vam

structure TI where
 size:Nat
 bytes:Nat
 agg:Bool
 zero:List C
 fields:List (Nat×Nat)
 elem:Option Nat
 kind:Option IntKind
 flat:List Bool
 boo:Bool
 arr:Option Nat

structure Ent where
 pre:Prop
 r:V
 b:Zf:=[]
 k:Zr:=[]

structure Ctx where
 P:Program
 tt:TypeId→Option TI
 n:Nat
 L:Nat
 mode:Nat→Nat
 G:FuncId→List V→Zf→Zr→Name→Option Ent

inductive Rd (α:Type) where
 | ret (a:α)
 | fail
 | getT (n:Nat) (f:V→Rd α)
 | getB (n:Name) (f:List C→Rd α)
 | getK (n:Name) (f:Tok→Rd α)
 | need (p:Prop) (r:Rd α)
 | exD (f:D→Rd α)
 | exM (f:V→Zf→Zr→Rd α)
 | case (γ:Bool) (r s:Rd α)

inductive Key where
 | t (n:Nat)
 | b (n:Name)
 | k (n:Name)
 deriving DecidableEq

inductive Runs {α:Type}:Rd α→St→List Key→α→Prop
 | ret (a st):Runs (.ret a) st [] a
 | getT {n f st v R a}:lk st.t n=some v→Runs (f v) st R a→Runs (.getT n f) st (.t n::R) a
 | getB {n f st v R a}:lk st.b n=some v→Runs (f v) st R a→Runs (.getB n f) st (.b n::R) a
 | getK {n f st v R a}:lk st.k n=some v→Runs (f v) st R a→Runs (.getK n f) st (.k n::R) a
 | need {p r st R a}:p→Runs r st R a→Runs (.need p r) st R a
 | exD {f st R a} (x:D):Runs (f x) st R a→Runs (.exD f) st R a
 | exM {f st R a} (x:V) (b:Zf) (k:Zr):Runs (f x b k) st R a→Runs (.exM f) st R a
 | caseT {γ r s st R a}:γ=true→Runs r st R a→Runs (.case γ r s) st R a
 | caseF {γ r s st R a}:γ=false→Runs s st R a→Runs (.case γ r s) st R a

theorem Runs.agree {α:Type} {r:Rd α} {st st':St} {R:List Key} {a:α} (h:Runs r st R a)
  (ht:∀ n,Key.t n∈R→lk st'.t n=lk st.t n) (hb:∀ n,Key.b n∈R→lk st'.b n=lk st.b n) (hk:∀ n,Key.k n∈R→lk st'.k n=lk st.k n):Runs r st' R a:=by
 induction h with
 | ret a st=>exact .ret a st'
 | getT e _ ih=>exact .getT ((ht _ (by simp)).trans e) (ih (fun n hn=>ht n (by simp [hn])) (fun n hn=>hb n (by simp [hn])) (fun n hn=>hk n (by simp [hn])))
 | getB e _ ih=>exact .getB ((hb _ (by simp)).trans e) (ih (fun n hn=>ht n (by simp [hn])) (fun n hn=>hb n (by simp [hn])) (fun n hn=>hk n (by simp [hn])))
 | getK e _ ih=>exact .getK ((hk _ (by simp)).trans e) (ih (fun n hn=>ht n (by simp [hn])) (fun n hn=>hb n (by simp [hn])) (fun n hn=>hk n (by simp [hn])))
 | need p _ ih=>exact .need p (ih ht hb hk)
 | exD x _ ih=>exact .exD x (ih ht hb hk)
 | exM x b k _ ih=>exact .exM x b k (ih ht hb hk)
 | caseT e _ ih=>exact .caseT e (ih ht hb hk)
 | caseF e _ ih=>exact .caseF e (ih ht hb hk)

def ZC2 (lv:Nat) (r:V) (b:Zf) (k:Zr):Prop :=
 (∀ n,r.has n→n.lv≤lv)∧(∀ p∈b,p.1.lv≤lv∧∀ c∈p.2,∀ n,c.has n→n.lv≤lv)∧∀ p∈k,p.1.lv≤lv

def RVs (ok:Zas) (ℓ:Loc) (w:World) (us:Array Value) (vs:List V):Prop :=
 us.size=vs.length∧∀ (i:Nat) u v,us[i]?=some u→vs[i]?=some v→RV ok ℓ w u v

structure Post (lv:Nat) (ok:Zas) (ℓ:Loc) (b:Zf) (k:Zr) (w:World) (r:V) (b':Zf) (k':Zr) (ok':Zas) (ℓ':Loc) (w':World) (u:Value):Prop where
 ext:Ext (fun x=>∃ n,Owns ℓ b k n x) w w'
 mem:MemOK ok' ℓ' b' k' w'
 val:RV ok' ℓ' w' u r
 chg:Chg ok ok' w w'
 sup:∀ x o,ok' x o→ok x o∨w.heap.size≤x∨∃ n,Owns ℓ b k n x
 own:∀ n x,Owns ℓ' b' k' n x→w.heap.size≤x∨∃ m,Owns ℓ b k m x
 loc:∀ n,n.lv≤lv→¬ Zj5 b b' k k' n→LocAt ℓ ℓ' n∧(lk b n=none→lk k n=none→ℓ'.i n=ℓ.i n∧ℓ'.z n=ℓ.z n∧ℓ'.h n=ℓ.h n)

def CallsF (P:Program) (f:FuncId) (us:Array Value) (w:World) (R:Ending→World→Prop):Prop :=
 ((callFunc f us).run P w=.ok (.enter f us) w∧Calls P f us w R)∨∃ v w',(callFunc f us).run P w=.ok (.value v) w'∧R (.returned v) w'

def Spec (P:Program) (lv:Nat) (f:FuncId) (args:List V) (b:Zf) (k:Zr) (r:V) (b':Zf) (k':Zr):Prop :=
 ZC2 lv r b' k'∧∀ (w:World) (ok:Zas) (ℓ:Loc) (us:Array Value),MemOK ok ℓ b k w→RVs ok ℓ w us args→
  CallsF P f us w fun e w'=>∃ u ok' ℓ',e=.returned u∧Post lv ok ℓ b k w r b' k' ok' ℓ' w' u

structure Out where
 v:V
 b:Zf:=[]
 k:Zr:=[]
 new:List Name:=[]

def D.toV:D→V
 | .agg cs=>.agg (cs.map .d)
 | .tup ds=>.tup ds
 | d=>.c (.d d)

def D.okV:D→Bool
 | .raw v=>v.oneCell'
 | _=>true

def C.toD:C→Option D
 | .d x=>some x
 | .nil=>some (.list [])
 | .own _ l=>some (.list l)
 | _=>none

def C.toDs:List C→Option (List D)
 | []=>some []
 | c::cs=>match c.toD,C.toDs cs with
  | some x,some xs=>some (x::xs)
  | _,_=>none

def V.toD:V→Option D
 | .c x=>x.toD
 | .agg cs=>(C.toDs cs).map .agg
 | .tup _=>none
 | .ts _ _=>none
 | .g _ _=>none

def C.pure:C→C
 | .nil=>.d (.list [])
 | .own _ l=>.d (.list l)
 | c=>c
def V.pure:V→V
 | .c x=>.c x.pure
 | .agg cs=>.agg (cs.map C.pure)
 | v=>v

def V.cells:V→Option (List C)
 | .c x=>some [x]
 | .agg cs=>some cs
 | _=>none

def Zel:List (Option Nat)→List C→Nat→Option V
 | none::sh,c::cs,i=>match i with
  | 0=>some (.c c)
  | i+1=>Zel sh cs i
 | some n::sh,cs,i=>if n≤cs.length then (match i with
  | 0=>some (.agg (cs.take n))
  | i+1=>Zel sh (cs.drop n) i) else none
 | _,_,_=>none

def Zef:Value→Option V
 | .int k n=>some (.c (.d (.int k n)))
 | .bool b=>some (.c (.d (.bool b)))
 | .string s=>some (.c (.d (.str s)))
 | .slice none 0 0=>some (.c .nil)
 | .nilFunc=>some (.c (.d (.raw .nilFunc)))
 | .pointer none=>some (.c (.d (.raw (.pointer none))))
 | _=>none

section
variable {α:Type}

def unG (gd:Option Bool) (v:V) (f:V→Rd α):Rd α :=
 match v with
 | .g γ v=>.need (gd.getD true=true→γ=true) (f v)
 | v=>f v

def Zxe (x:Operand) (f:V→Rd α):Rd α :=
 match x with
 | .tmp t=>.getT t f
 | .const c=>match Zef c with
  | some v=>f v
  | none=>.fail
 | .func id=>f (.c (.fn id []))
 | .global _=>.fail

def Zb9 (gd:Option Bool) (x:Operand) (f:V→Rd α):Rd α:=Zxe x fun v=>unG gd v f

def Zej (gd:Option Bool):List Operand→(List V→Rd α)→Rd α
 | [],f=>f []
 | x::xs,f=>Zb9 gd x fun v=>Zej gd xs fun vs=>f (v::vs)

def asI (v:V) (f:IntKind→Int→Rd α):Rd α:=match v with
 | .c (.d (.int k n))=>f k n
 | _=>.fail
def asB (v:V) (f:Bool→Rd α):Rd α:=match v with
 | .c (.d (.bool b))=>f b
 | _=>.fail
def asL (v:V) (f:List D→Rd α):Rd α:=match v with
 | .c .nil=>f []
 | .c (.own _ l)=>f l
 | .c (.d (.list l))=>f l
 | _=>.fail
def orFail {β:Type} (x:Option β) (f:β→Rd α):Rd α:=match x with
 | some y=>f y
 | none=>.fail
end

def Zhz:V→Option (Bool×Bool)
 | .c (.d (.bool b))=>some (true,b)
 | .g γ (.c (.d (.bool b)))=>some (γ,b)
 | _=>none

def ZT {α:Type} (gd:Option Bool) (p:Prop) (r:Rd α):Rd α:=.need (gd.getD true=true→p) r

def Zcp (op:BinOp) (k:IntKind) (a b:Int):Option (Prop×D) :=
 match op with
 | .add=>some (True,.int k (k.wrap (a+b)))
 | .sub=>some (True,.int k (k.wrap (a - b)))
 | .mul=>some (True,.int k (k.wrap (a*b)))
 | .quo=>some (b≠0,.int k (k.wrap (a.tdiv b)))
 | .rem=>some (b≠0,.int k (a.tmod b))
 | .and=>some (True,.int k (k.wrap (BitVec.ofInt k.bits a &&& BitVec.ofInt k.bits b).toNat))
 | .or=>some (True,.int k (k.wrap (BitVec.ofInt k.bits a ||| BitVec.ofInt k.bits b).toNat))
 | .xor=>some (True,.int k (k.wrap (BitVec.ofInt k.bits a ^^^ BitVec.ofInt k.bits b).toNat))
 | .andNot=>some (True,.int k (k.wrap (BitVec.ofInt k.bits a &&& ~~~ (BitVec.ofInt k.bits b)).toNat))
 | .eql=>some (True,.bool (a==b))
 | .neq=>some (True,.bool (a != b))
 | .lss=>some (True,.bool (decide (a < b)))
 | .leq=>some (True,.bool (decide (a≤b)))
 | .gtr=>some (True,.bool (decide (a > b)))
 | .geq=>some (True,.bool (decide (a≥b)))
 | _=>none

def ZiN (op:BinOp) (k:IntKind) (a b:Int):Option D :=
 match op with
 | .shl=>some (.int k (k.wrap (a*2 ^ (Nat.min b.toNat k.bits))))
 | .shr=>some (.int k (a.fdiv (2 ^ (Nat.min b.toNat k.bits))))
 | _=>none

def ZaQ:List C→List C→Option Bool
 | [],[]=>some true
 | .d (.int k a)::l,.d (.int k' b)::m=>if k=k' then (ZaQ l m).map (fun r=>(a==b) && r) else none
 | .d (.bool a)::l,.d (.bool b)::m=>(ZaQ l m).map (fun r=>(a==b) && r)
 | _,_=>none

def ZaC:List C→Option (List Bool)
 | []=>some []
 | .d (.int _ _)::l=>(ZaC l).map (true::·)
 | .d (.bool _)::l=>(ZaC l).map (false::·)
 | _=>none

def Zdj {α:Type} (X:Ctx) (gd:Option Bool) (op:BinOp) (t:TypeId) (x y:V) (f:D→Rd α):Rd α :=
 match x,y with
 | .c (.d (.int k a)),.c (.d (.int k' b)) =>
  match op with
  | .shl=>ZT gd (0≤b) (orFail (ZiN .shl k a b) f)
  | .shr=>ZT gd (0≤b) (orFail (ZiN .shr k a b) f)
  | op=>if k=k' then orFail (Zcp op k a b) fun r=>ZT gd r.1 (f r.2) else .fail
 | .c (.d (.bool a)),.c (.d (.bool b)) =>
  orFail (X.tt t) fun ti=>if ti.boo=true then
   match op with
   | .eql=>f (.bool (a==b))
   | .neq=>f (.bool (!(a==b)))
   | _=>.fail
   else .fail
 | .c (.d (.str a)),.c (.d (.str b)) =>
  match op with
  | .add=>ZT gd (a.size+b.size≤1000000000) (f (.str (a++b)))
  | .eql=>f (.bool (a.toList==b.toList))
  | .neq=>f (.bool (!(a.toList==b.toList)))
  | _=>.fail
 | .agg xs,.agg ys =>
  orFail (X.tt t) fun ti=>if ti.flat≠[]∧ZaC xs=some ti.flat then
   match op with
   | .eql=>orFail (ZaQ xs ys) fun b=>f (.bool b)
   | .neq=>orFail (ZaQ xs ys) fun b=>f (.bool (!b))
   | _=>.fail
   else .fail
 | _,_=>.fail

def cut {β:Type} (l:List β) (off n:Nat):List β:=(l.drop off).take n
def lay {β:Type}:List β→Nat→List β→List β
 | l,0,ys=>ys++l.drop ys.length
 | [],_+1,_=>[]
 | x::l,o+1,ys=>x::lay l o ys

def ZhI (ti:TI) (cs:List C) (off:Nat):Option V :=
 if ti.agg=true then (if off+ti.size≤cs.length then some (.agg (cut cs off ti.size)) else none) else (cs[off]?).map .c

def Ziy (ti:TI) (cs:List D) (off:Nat):Option D :=
 if ti.agg=true then (if off+ti.size≤cs.length then some (.agg (cut cs off ti.size)) else none) else cs[off]?

def D.toI:D→Int
 | .int _ n=>n
 | _=>0
def D.toB:D→Bool
 | .bool b=>b
 | _=>false
def D.toL:D→List D
 | .list l=>l
 | _=>[]
def D.like1:D→D→D
 | .int k _,y=>.int k y.toI
 | .bool _,y=>.bool y.toB
 | .list _,y=>.list y.toL
 | _,y=>y
def Zw7:List D→List D→List D
 | [],_=>[]
 | z::zs,cs=>z.like1 (cs.headD z)::Zw7 zs cs.tail
def D.like:D→D→D
 | .agg zs,y=>.agg (Zw7 zs y.cells)
 | z,y=>z.like1 y

def Zft (ti:TI):Option D :=
 match C.toDs ti.zero with
 | some ds=>if ti.agg=true then some (.agg ds) else match ds with
  | [d]=>some d
  | _=>none
 | none=>none

def Zbc (X:Ctx) (fields:List (Nat×Nat)):List C→List (Nat×V)→Option (List C)
 | cs,[]=>some cs
 | cs,(i,v)::ps=>match fields[i]? with
  | some (off,ft)=>match X.tt ft,v.cells with
   | some fi,some ys=>if ys.length=fi.size∧off+fi.size≤cs.length then Zbc X fields (lay cs off ys) ps else none
   | _,_=>none
  | none=>none

def Zcy (sz:Nat):List C→List (Nat×V)→Option (List C)
 | cs,[]=>some cs
 | cs,(i,v)::ps=>match v.cells with
  | some ys=>if ys.length=sz∧i*sz+sz≤cs.length then Zcy sz (lay cs (i*sz) ys) ps else none
  | none=>none

def toDs:List V→Option (List D)
 | []=>some []
 | v::vs=>match v.toD,toDs vs with
  | some x,some xs=>some (x::xs)
  | _,_=>none

def ZEh (l:List D):ByteArray:=strOfNums (l.map D.toI)
def D.isU8:D→Bool
 | .int .u8 _=>true
 | _=>false
def Zki (P:Program) (s t:TypeId):Prop:=∃ e,P.underlying s=some (.slice e)∧P.underlying e=some (.int .u8)∧P.underlying t=some .string
def scR {α:Type} (x:D) (f:D→Rd α):Rd α:=match x with
 | .agg _=>.fail
 | .tup _=>.fail
 | x=>f x

def ZEu:List V→Option (List C)
 | []=>some []
 | .c x::vs=>(ZEu vs).map (x::·)
 | _=>none

def C.ptrs:C→List Name
 | .lp n _=>[n]
 | .bs n _=>[n]
 | .fn _ caps=>caps.map (·.1)
 | _=>[]
def V.ptrs:V→List Name
 | .c x=>x.ptrs
 | _=>[]
def C.bufs:C→List Name
 | .own k _=>[k]
 | .arr k _=>[k]
 | .vw k _ _=>[k]
 | .rws k _ _=>[k]
 | .rp k _ _=>[k]
 | _=>[]

def V.bufs:V→List Name
 | .c x=>x.bufs
 | .agg cs=>cs.flatMap C.bufs
 | _=>[]
def Zlf (m:Option Nat) (v:V):V:=if m=some 3 then v else v.pure

def ZLw (n:Name) (cs:List C) (b:Zf):Zf:=if (lk b n).isSome then b else (n,cs)::b
def ZLx (n:Name) (t:Tok) (k:Zr):Zr:=if (lk k n).isSome then k else (n,t)::k

section
variable {α:Type}
def getBs:List Name→(Zf→Rd α)→Rd α
 | [],f=>f []
 | n::ns,f=>.getB n fun cs=>getBs ns fun b=>f (ZLw n cs b)
def getKs:List Name→(Zr→Rd α)→Rd α
 | [],f=>f []
 | n::ns,f=>.getK n fun t=>getKs ns fun k=>f (ZLx n t k)
end

def ZBk (X:Ctx) (dst:Option Nat):Name:=⟨X.L,dst.getD 0⟩

def ZpW {α:Type} (b b':List (Name×α)):Bool:=b.all fun p=>(lk b' p.1).isSome
def ZHR {α:Type} (b:Zf) (k:Zr) (dst:Option Nat) (L:Nat) (b':List (Name×α)):Bool:=b'.all fun p=>(lk b p.1).isSome || (lk k p.1).isSome || decide (some p.1=dst.map (Name.mk L))

def Zkj (X:Ctx) (gd:Option Bool) (dst:Option Nat) (f:FuncId) (vs:List V):Rd Out :=
 getBs (vs.flatMap V.ptrs) fun b =>
 getKs (vs.flatMap V.bufs++b.flatMap fun p=>p.2.flatMap C.bufs) fun k =>
 orFail (X.G f vs b k (ZBk X dst)) fun e =>
 ZT gd e.pre <|
 if ZpW b e.b=true∧ZpW k e.k=true∧ZHR b k dst X.L e.b=true∧ZHR b k dst X.L e.k=true∧(gd=none∨(e.b=[]∧e.k=[])) then
 .ret { v:=e.r,b:=e.b,k:=e.k,new:=if (dst.map fun d=>(lk e.b ⟨X.L,d⟩).isSome || (lk e.k ⟨X.L,d⟩).isSome)=some true∧(dst.map fun d=>(lk b ⟨X.L,d⟩).isSome || (lk k ⟨X.L,d⟩).isSome)=some false then (dst.map (Name.mk X.L)).toList else []}
 else .fail

def Zab (n bytes:Nat):Prop:=n*bytes≤140737488355328∧n≤9223372036854775807

def Zd2 (X:Ctx) (d:Nat) (ei:TI) (s:V) (m:List D):Rd Out :=
 match s with
 | .c .nil=>if X.mode d=2 then .need (m≠[]∧Zab m.length ei.bytes) (.ret { v:=.c (.arr ⟨X.L,d⟩ m.length),k:=[(⟨X.L,d⟩,⟨true,ei.size,m⟩)],new:=[⟨X.L,d⟩]}) else
  .need (Zab m.length ei.bytes) (.ret { v:=.c (.own ⟨X.L,d⟩ m),k:=[(⟨X.L,d⟩,⟨false,ei.size,m⟩)],new:=[⟨X.L,d⟩]})
 | .c (.own n l)=>.getK n fun tk=>.need (tk.l=l∧tk.isArr=false∧tk.sz=ei.size) (.need (Zab (l.length+m.length) ei.bytes) (.ret { v:=.c (.own n (l++m)),k:=[(n,⟨false,ei.size,l++m⟩)]}))
 | _=>.fail

def ZgO (X:Ctx) (dst:Option Nat) (t:TypeId) (s x:V):Rd Out :=
 orFail dst fun d=>orFail (X.tt t) fun ti=>orFail ti.elem fun e=>orFail (X.tt e) fun ei =>
 asL x fun m =>
 .need (∀ y∈m,y.cells.length=ei.size) <| Zd2 X d ei s m

def ZmQ (X:Ctx) (dst:Option Nat) (t:TypeId) (t':TypeId) (s x:V):Rd Out :=
 orFail dst fun d=>orFail (X.tt t) fun ti=>orFail ti.elem fun e=>orFail (X.tt e) fun ei=>orFail (X.tt t') fun ni=>orFail ni.kind fun _=>orFail (Zft ei) fun z =>
 asI x fun _ n =>
 .need (z.cells.length=ei.size∧0 < ei.size∧0≤n∧n*ei.bytes≤140737488355328∧n≤9223372036854775807) <| Zd2 X d ei s (List.replicate n.toNat z)

def ZkD {α:Type} (gd:Option Bool) (r:Rd α):Rd α:=match gd with
 | none=>r
 | some _=>.fail

def Zkm (X:Ctx) (t:TypeId) (d s:V):Rd Out:=match d with
 | .c (.arr n len)=>orFail (X.tt t) fun ti=>orFail ti.elem fun e=>orFail (X.tt e) fun ei=>asL s fun xs=>.getK n fun tk =>
  .need (ei.size=1∧tk.isArr=true∧tk.sz=1∧len=tk.l.length∧xs.length≤len∧∀ x∈xs,x.cells.length=1) (.ret { v:=.c (.d (.int .i64 xs.length)),k:=[(n,⟨true,1,xs++tk.l.drop xs.length⟩)]})
 | _=>.fail

def ZN (X:Ctx) (gd:Option Bool) (dst:Option Nat) (b:Builtin) (ts:Array TypeId) (vs:List V):Rd Out :=
 match b,vs with
 | .len,[v]=>match ts.toList with
  | [t]=>match v with
   | .c (.d (.str s))=>.need (X.P.underlying t=some .string) (.ret { v:=.c (.d (.int .i64 s.size))})
   | v=>orFail (X.tt t) fun ti=>orFail ti.elem fun _=>match v with
   | .c (.arr _ n)=>.ret { v:=.c (.d (.int .i64 n))}
   | .c (.bs _ n)=>.ret { v:=.c (.d (.int .i64 n))}
   | .c (.vw _ _ n)=>.ret { v:=.c (.d (.int .i64 n))}
   | .c (.rws _ _ n)=>.ret { v:=.c (.d (.int .i64 n))}
   | v=>asL v fun l=>.ret { v:=.c (.d (.int .i64 l.length))}
  | _=>.fail
 | .min,[x,y]=>asI x fun k a=>asI y fun _ b=>.ret { v:=.c (.d (.int k (if b < a then b else a)))}
 | .max,[x,y]=>asI x fun k a=>asI y fun _ b=>.ret { v:=.c (.d (.int k (if b > a then b else a)))}
 | .max,[x,y,z]=>asI x fun k a=>asI y fun _ b=>asI z fun _ c=>.ret { v:=.c (.d (.int k (let m:=if b > a then b else a; if c > m then c else m)))}
 | .append,[s,x]=>match ts.toList with
  | [t,t']=>ZkD gd (if t=t' then ZgO X dst t s x else ZmQ X dst t t' s x)
  | _=>.fail
 | .copy,[d,s]=>match ts.toList with
  | [t,_]=>ZkD gd (Zkm X t d s)
  | _=>.fail
 | _,_=>.fail

def ZiJ {α:Type} (gd:Option Bool) (x:Option Operand) (n:Int) (f:Int→Rd α):Rd α:=match x with
 | none=>f n
 | some a=>Zb9 gd a fun v=>asI v fun _ n=>f n

def Zk7:Option Operand→Bool
 | some (.const (.int .i64 0))=>true
 | _=>false

def fnA (caps:List (Name×Nat)) (vs:List V):List V :=
 if rcv caps=true then caps.map (fun p=>V.c (.lp p.1 (p.2 - 1000000000)))++vs else vs++caps.map fun p=>V.c (.lp p.1 p.2)

def Z6 (X:Ctx) (gd:Option Bool) (o:Oper):Rd Out :=
 match o.op with
 | .move x=>Zb9 gd x fun v=>.ret { v}
 | .assign x=>Zb9 gd x fun v=>.ret { v}
 | .pick c a b=>Zb9 gd c fun cv=>asB cv fun cb=>Zxe a fun av=>Zxe b fun bv =>
  orFail (Zhz av) fun x=>orFail (Zhz bv) fun y =>
  ZT gd (cb=true→x.1=true) (ZT gd (cb=false→y.1=true) (.ret { v:=.c (.d (.bool (cond cb x.2 y.2)))}))
 | .alloc e=>ZkD gd (orFail o.dst fun d=>orFail (X.tt e) fun ti=>.ret { v:=.c (.lp ⟨X.L,d⟩ 0),b:=[(⟨X.L,d⟩,ti.zero)],new:=[⟨X.L,d⟩]})
 | .box e x=>ZkD gd (orFail o.dst fun d=>Zb9 gd x fun v=>orFail v.cells fun cs=>.ret { v:=.c (.lp ⟨X.L,d⟩ 0),b:=[(⟨X.L,d⟩,cs)],new:=[⟨X.L,d⟩]})
 | .build t ps=>Zej gd (ps.toList.map (·.2)) fun vs=>orFail (X.tt t) fun ti=>match ti.arr with
  | some e=>orFail (X.tt e) fun ei=>if ti.agg=true then orFail (Zcy ei.size ti.zero ((ps.toList.map (·.1)).zip vs)) fun cs=>.ret { v:=.agg cs} else .fail
  | none=>if ti.agg=true∧ti.fields≠[] then orFail (Zbc X ti.fields ti.zero ((ps.toList.map (·.1)).zip vs)) fun cs=>.ret { v:=.agg cs} else .fail
 | .buildSlice t len ps=>Zej gd (ps.toList.map (·.2)) fun vs=>orFail (X.tt t) fun ti=>orFail ti.elem fun e=>orFail (X.tt e) fun ei =>
  if ps.toList.map (·.1)=List.range len∧len*ei.size≤16777216 then
   if (o.dst.map X.mode)=some 5 then ZkD gd (.need (ei.size=1) (orFail (ZEu vs) fun cs=>orFail o.dst fun d=>.ret { v:=.c (.bs ⟨X.L,d⟩ len),b:=[(⟨X.L,d⟩,cs)],new:=[⟨X.L,d⟩]}))
   else orFail (toDs vs) fun l=>.need (∀ y∈l,y.cells.length=ei.size) <|
   if (o.dst.map X.mode)=some 1 then ZkD gd (orFail o.dst fun d=>.ret { v:=.c (.own ⟨X.L,d⟩ l),k:=[(⟨X.L,d⟩,⟨false,ei.size,l⟩)],new:=[⟨X.L,d⟩]})
   else .ret { v:=.c (.d (.list l))}
  else .fail
 | .load t a=>Zb9 gd a fun av=>orFail (X.tt t) fun ti=>match av with
  | .c (.lp n off)=>.getB n fun cs=>orFail (ZhI ti cs off) fun v=>.ret { v}
  | .c (.pd x)=>if ti.agg=true then (if x.cells.length=ti.size then match x with
    | .agg cs=>.ret { v:=.agg (cs.map .d)}
    | _=>.fail
    else .fail) else match x with
    | .agg _=>.fail
    | .tup _=>.fail
    | x=>.ret { v:=.c (.d x)}
  | .c (.rp k wd i)=>if ti.agg=false then .ret { v:=.c (.vw k (i*wd) wd)} else .fail
  | .c (.ap k i off)=>.getK k fun tk=>if ti.agg=false∧off=0 then orFail (Zft ti) fun z=>ZT gd (tk.isArr=true∧i < tk.l.length∧z.like (tk.l[i]?.getD z)=tk.l[i]?.getD z) (scR (z.like (tk.l[i]?.getD z)) fun y=>.need (y.okV=true) (.ret { v:=.c (.d y)})) else .exD fun x=>ZT gd (tk.isArr=true∧tk.l[i]?=some x) (orFail (Ziy ti x.cells off) fun y=>.need (y.okV=true) (.ret { v:=y.toV}))
  | _=>.fail
 | .store t a x=>ZkD gd (if o.dst=none then Zb9 gd a fun av=>Zb9 gd x fun xv=>orFail (X.tt t) fun ti=>match av with
  | .c (.lp n off)=>.getB n fun cs=>orFail xv.cells fun ys=>if ys.length=ti.size∧off+ti.size≤cs.length then .ret { v:=.tup [],b:=[(n,lay cs off ys)]} else .fail
  | .c (.ap k i off)=>.getK k fun tk=>if ti.agg=false∧off=0∧ti.size=1 then orFail (Zft ti) fun z=>orFail xv.toD fun d=>.need (tk.isArr=true∧i < tk.l.length∧z.like (tk.l[i]?.getD z)=tk.l[i]?.getD z) (scR (z.like (tk.l[i]?.getD z)) fun _=>scR d fun d=>.ret { v:=.tup [],k:=[(k,⟨true,tk.sz,tk.l.set i d⟩)]}) else .exD fun y=>.need (tk.isArr=true∧tk.l[i]?=some y) (orFail xv.cells fun cs=>orFail (C.toDs cs) fun ds =>
    if ds.length=ti.size∧off+ti.size≤y.cells.length then
     match y with
     | .agg ys=>.ret { v:=.tup [],k:=[(k,⟨true,tk.sz,tk.l.set i (.agg (lay ys off ds))⟩)]}
     | _=>match ds with
      | [d]=>.need (d.cells.length=1) (.ret { v:=.tup [],k:=[(k,⟨true,tk.sz,tk.l.set i d⟩)]})
      | _=>.fail
    else .fail)
  | _=>.fail
  else .fail)
 | .nilCheck x=>Zb9 gd x fun v=>match v with
  | .c (.lp _ _)=>.ret { v}
  | .c (.pd _)=>.ret { v}
  | .c (.ap _ _ _)=>.ret { v}
  | .c (.rp _ _ _)=>.ret { v}
  | .c (.fn _ _)=>.ret { v}
  | _=>.fail
 | .binOp op t x y _=>Zb9 gd x fun xv=>Zb9 gd y fun yv=>Zdj X gd op t xv yv fun d=>.ret { v:=.c (.d d)}
 | .unOp op _ x=>Zb9 gd x fun v=>match op,v with
  | .neg,.c (.d (.int k n))=>.ret { v:=.c (.d (.int k (k.wrap (0 - n))))}
  | .not,.c (.d (.bool b))=>.ret { v:=.c (.d (.bool (!b)))}
  | _,_=>.fail
 | .convert s t x=>Zb9 gd x fun v=>match v with
  | .c (.d (.int _ n))=>orFail (X.tt s) fun _=>orFail (X.tt t) fun ti=>orFail ti.kind fun k=>.ret { v:=.c (.d (.int k (k.wrap n)))}
  | v=>asL v fun l=>.need (Zki X.P s t) (.need (∀ y∈l,y.isU8=true) (.ret { v:=.c (.d (.str (ZEh l)))}))
 | .makeSlice t l c=>Zb9 gd l fun lv=>Zb9 gd c fun cv=>asI lv fun _ n=>asI cv fun _ m =>
  orFail (X.tt t) fun ti=>orFail ti.elem fun e=>orFail (X.tt e) fun ei=>orFail (Zft ei) fun z =>
  ZT gd (0≤n∧n≤m∧m*ei.bytes≤140737488355328∧m≤9223372036854775807) <|
  if z.cells.length=ei.size∧0 < ei.size then
   if (o.dst.map X.mode)=some 1 then ZkD gd (orFail o.dst fun d=>.ret { v:=.c (.own ⟨X.L,d⟩ (List.replicate n.toNat z)),k:=[(⟨X.L,d⟩,⟨false,ei.size,List.replicate n.toNat z⟩)],new:=[⟨X.L,d⟩]})
   else if (o.dst.map X.mode)=some 2 then ZkD gd (.need (n=m) (orFail o.dst fun d=>.ret { v:=.c (.arr ⟨X.L,d⟩ n.toNat),k:=[(⟨X.L,d⟩,⟨true,ei.size,List.replicate n.toNat z⟩)],new:=[⟨X.L,d⟩]}))
   else if (o.dst.map X.mode)=some 5 then ZkD gd (.need (n=m∧ei.size=1) (orFail (ei.zero[0]?) fun c0=>orFail o.dst fun d=>.ret { v:=.c (.bs ⟨X.L,d⟩ n.toNat),b:=[(⟨X.L,d⟩,List.replicate n.toNat c0)],new:=[⟨X.L,d⟩]}))
   else .ret { v:=.c (.d (.list (List.replicate n.toNat z)))}
  else .fail
 | .slice t x lo hi mx=>Zb9 gd x fun xv=>orFail (X.tt t) fun ti=>orFail ti.elem fun e=>orFail (X.tt e) fun ei =>
  match xv with
  | .c (.arr k len)=>.getK k fun tk=>ZiJ gd lo 0 fun n=>ZiJ gd hi len fun h=>ZiJ gd mx h fun m =>
   .need (mx.isSome=true∧hi.isSome=true) <|
   ZT gd (0≤n∧n < h∧h=m∧m≤len) <|
   .need (tk.sz=1∧ei.size=1∧tk.isArr=true) (.ret { v:=.c (.vw k n.toNat (h - n).toNat)})
  | xv=>asL xv fun l =>
  ZiJ gd lo 0 fun n=>ZiJ gd hi l.length fun h=>ZiJ gd mx h fun m =>
  .need (mx.isSome=true→hi.isSome=true) <|
  ZT gd (0≤n∧n≤h∧h≤m∧m≤l.length) <|
  .need (∀ y∈l,y.cells.length=ei.size) <|
  if Zk7 mx=true then .ret { v:=.c .nil} else .ret { v:=.c (.d (.list (cut l n.toNat (h.toNat - n.toNat))))}
 | .fieldAddr t x i=>Zb9 gd x fun v=>orFail (X.tt t) fun ti=>orFail (ti.fields[i]?) fun p=>orFail (X.tt p.2) fun fi=>if 0 < fi.size∧ti.agg=true then match v with
  | .c (.lp n off)=>.ret { v:=.c (.lp n (off+p.1))}
  | .c (.pd (.agg cs))=>orFail (Ziy fi cs p.1) fun y=>.need (fi.agg=false→∀ zs,y≠.agg zs) (.ret { v:=.c (.pd y)})
  | .c (.ap k j off)=>.ret { v:=.c (.ap k j (off+p.1))}
  | _=>.fail
  else .fail
 | .field t x i=>Zb9 gd x fun v=>orFail (X.tt t) fun ti=>orFail (ti.fields[i]?) fun p=>orFail (X.tt p.2) fun fi=>if ti.agg=true then match v with
  | .agg cs=>orFail (ZhI fi cs p.1) fun v=>.ret { v}
  | _=>.fail
  else .fail
 | .indexAddr t x i=>Zb9 gd x fun xv=>Zb9 gd i fun iv=>asI iv fun _ n=>orFail (X.tt t) fun ti=>match ti.arr with
  | some e=>orFail (X.tt e) fun ei=>(match xv with
   | .c (.lp m off)=>ZT gd (0≤n∧n.toNat*ei.size+ei.size≤ti.size∧0 < ei.size) (.ret { v:=.c (.lp m (off+n.toNat*ei.size))})
   | _=>.fail)
  | none=>orFail ti.elem fun e=>orFail (X.tt e) fun ei =>
  match xv with
  | .c (.arr k len)=>.getK k fun tk=>ZT gd (0≤n∧n < len) (.need (tk.sz=ei.size∧tk.isArr=true) (.ret { v:=.c (.ap k n.toNat 0)}))
  | .c (.bs m len)=>ZT gd (0≤n∧n < len) (.need (ei.size=1) (.ret { v:=.c (.lp m n.toNat)}))
  | .c (.vw k off len)=>.getK k fun tk=>ZT gd (0≤n∧n < len) (.need (tk.sz=1∧ei.size=1∧tk.isArr=true) (.ret { v:=.c (.ap k (off+n.toNat) 0)}))
  | .c (.rws k wd len)=>ZT gd (0≤n∧n < len) (.need (ei.size=1) (.ret { v:=.c (.rp k wd n.toNat)}))
  | xv=>asL xv fun l=>orFail (Zft ei) fun z=>ZT gd (0≤n∧n < l.length) (.need ((l[n.toNat]?.getD z).cells.length=ei.size∧z.like (l[n.toNat]?.getD z)=l[n.toNat]?.getD z) (.ret { v:=.c (.pd (z.like (l[n.toNat]?.getD z)))}))
 | .index t x i=>Zb9 gd x fun xv=>Zb9 gd i fun iv=>asI iv fun _ n=>match xv with
  | .c (.d (.str s))=>.need (X.P.underlying t=some .string) (ZT gd (0≤n∧n < (s.size:Int)) (.ret { v:=.c (.d (.int .u8 (s.toList[n.toNat]?.getD 0).toNat))}))
  | _=>.fail
 | .extract x i=>Zb9 gd x fun v=>match v with
  | .tup ds=>orFail (ds[i]?) fun y=>.need (y.okV=true) (.ret { v:=y.toV})
  | .ts sh cs=>orFail (Zel sh cs i) fun y=>.ret { v:=y}
  | _=>.fail
 | .makeFunc (.func f) first caps=>if first.toList.length=0 then Zej gd caps.toList fun vs =>
   orFail (vs.foldr (fun v acc=>match v,acc with
    | .c (.lp n off),some l=>some ((n,off)::l)
    | _,_=>none) (some [])) fun l=>.need (rcv l=false) (.ret { v:=.c (.fn f l)})
  else if caps.toList.length=0 then Zej gd first.toList fun vs=>match vs with
   | [.c (.lp n off)]=>.ret { v:=.c (.fn f [(n,off+1000000000)])}
   | _=>.fail
  else .fail
 | .call c=>match c.callee with
  | .builtin b=>Zej gd c.args.toList fun vs=>ZN X gd o.dst b c.argTypes vs
  | .value fo=>Zb9 gd fo fun fv=>match fv with
   | .c (.fn f caps)=>Zej gd c.args.toList fun vs=>Zkj X gd o.dst f (fnA caps (vs.map (Zlf (o.dst.map X.mode))))
   | _=>.fail
  | _=>.fail
 | _=>.fail

def Op.eff (X:Ctx) (o:Oper):Bool :=
 match o.op with
 | .alloc _ | .box _ _ | .store _ _ _=>true
 | .call { callee:=.builtin .append,..}=>true
 | .call _ | .buildSlice _ _ _ | .makeSlice _ _ _=>(o.dst.map fun d=>decide (X.mode d≠0)).getD false
 | _=>false

def ZcK {α β:Type}:Rd α→(α→Rd β)→Rd β
 | .ret a,f=>f a
 | .fail,_=>.fail
 | .getT n g,f=>.getT n fun v=>ZcK (g v) f
 | .getB n g,f=>.getB n fun v=>ZcK (g v) f
 | .getK n g,f=>.getK n fun v=>ZcK (g v) f
 | .need p r,f=>.need p (ZcK r f)
 | .exD g,f=>.exD fun x=>ZcK (g x) f
 | .exM g,f=>.exM fun x b k=>ZcK (g x b k) f
 | .case γ r s,f=>.case γ (ZcK r f) (ZcK s f)

def ZBx (X:Ctx) (dst:Option Nat):V:=if dst.map X.mode=some 9 then .c (.d (.bool false)) else .c (.d (.int .i64 0))

def ZeW (X:Ctx) (ops:Array Oper) (o:Oper):Rd (Option Bool×Out) :=
 match o.guard with
 | none=>ZcK (Z6 X none o) fun r=>.ret (none,r)
 | some (j,want)=>orFail ((ops[j]?).bind (·.dst)) fun tg=>.getT tg fun gv=>orFail (Zhz gv) fun g =>
  if Op.eff X o=true then .case (g.1 && (g.2==want)) (ZcK (Z6 X none o) fun r=>.ret (none,r)) (.ret (some false,{ v:=ZBx X o.dst}))
  else ZcK (Z6 X (some (g.1 && (g.2==want))) o) fun r=>.need (r.b=[]∧r.k=[]∧r.new=[]) (.ret (some (g.1 && (g.2==want)),r))

def ZGn (dst:Option Nat) (gd:Option Bool) (v:V) (t:List (Nat×V)):List (Nat×V) :=
 match dst,gd with
 | some d,some γ=>(d,.g γ v)::t
 | some d,none=>(d,v)::t
 | none,_=>t

def St.apply (st:St) (dst:Option Nat) (gd:Option Bool) (r:Out):St :=
 {t:=ZGn dst gd r.v st.t
  b:=r.b++st.b
  k:=r.k++st.k}

end Go.Vam
end
section
set_option linter.unusedVariables false
set_option linter.unusedSimpArgs false
namespace Go.Vam

def zc:Value→C→Bool
 | .int k n,.d (.int k' n')=>decide (k=k') && decide (n=n')
 | .bool b,.d (.bool b')=>b==b'
 | .string s,.d (.str s')=>decide (s=s')
 | .slice none 0 0,.nil=>true
 | .nilFunc,.d (.raw .nilFunc)=>true
 | .pointer none,.d (.raw (.pointer none))=>true
 | _,_=>false

def zcs:List Value→List C→Bool
 | [],[]=>true
 | v::vs,c::cs=>zc v c && zcs vs cs
 | _,_=>false

def ZAd:TypeDesc→Bool
 | .struct _=>true
 | .array _ _=>true
 | _=>false

def ZCR (agg:Bool):Value→Bool
 | .agg _=>agg
 | .tuple _=>false
 | _=>!agg

def ZzA (P:Program) (t:TypeId) (n:Nat):Bool :=
 match P.underlying t with
 | some (.struct _)=>decide ((P.info? t).map (·.size)=some n)
 | _=>true

def ZpG (P:Program) (g:TypeId→Option (List Bool)):List Field→Nat→Option (List Bool)
 | [],_=>some []
 | f::fs,off=>if f.name≠ "_"∧f.offset=off then
   match g f.type with
   | some ks=>if ZzA P f.type ks.length=true then (ZpG P g fs (off+ks.length)).map (ks++·) else none
   | none=>none
  else none

def Zld (P:Program):Nat→TypeId→Option (List Bool)
 | 0=>fun _=>none
 | d+1=>fun t=>match P.underlying t with
  | some (.int _)=>some [true]
  | some .bool=>some [false]
  | some (.struct fs)=>if P.stoodInHeld t=false then ZpG P (Zld P d) fs.toList 0 else none
  | _=>none

def TI.check (P:Program) (t:TypeId) (ti:TI):Bool :=
 match P.info? t,P.underlying t with
 | some i,some d =>
  decide (i.size=ti.size) && decide (i.bytes=ti.bytes) && (ZAd d==ti.agg) &&
  (match i.zero with
   | some z=>ZCR ti.agg z && zcs z.cells.toList ti.zero && decide (ti.zero.length=ti.size)
   | none=>false) &&
  (match d with
   | .struct fs=>decide (fs.toList.map (fun f=>(f.offset,f.type))=ti.fields) && fs.toList.all (fun f=>(P.info? f.type).isSome)
   | _=>decide (ti.fields=[])) &&
  (match d with
   | .slice e=>decide (ti.elem=some e)
   | _=>decide (ti.elem=none)) &&
  (match d with
   | .int k=>decide (ti.kind=some k)
   | _=>decide (ti.kind=none)) &&
  (!ti.boo || (match d with | .bool=>true | _=>false)) &&
  (decide (ti.flat=[]) || (decide (P.eqGuardType P.depth t=false) && decide (Zld P 20 t=some ti.flat) && ti.agg)) &&
  (match d with
   | .array n e=>decide (ti.arr=none) || (decide (ti.arr=some e) && (match P.info? e with
    | some ie=>decide (ti.size=n*ie.size)
    | none=>false))
   | _=>decide (ti.arr=none))
 | _,_=>false

structure TI.Ok (P:Program) (t:TypeId) (ti:TI) (i:TypeInfo) (d:TypeDesc) (z:Value):Prop where
 info:P.info? t=some i
 und:P.underlying t=some d
 size:i.size=ti.size
 bytes:i.bytes=ti.bytes
 agg:ZAd d=ti.agg
 zero:i.zero=some z
 zshape:ZCR ti.agg z=true
 zcells:zcs z.cells.toList ti.zero=true
 zlen:ti.zero.length=ti.size
 fields:ti.fields≠[]→∃ fs,d=.struct fs∧fs.toList.map (fun f=>(f.offset,f.type))=ti.fields∧∀ f∈fs.toList,(P.info? f.type).isSome=true
 elem:∀ e,ti.elem=some e→d=.slice e
 kind:∀ k,ti.kind=some k→d=.int k
 boo:ti.boo=true→d=.bool
 arr:∀ e,ti.arr=some e→∃ n ie,d=.array n e∧P.info? e=some ie∧ti.size=n*ie.size
 flat:ti.flat≠[]→P.eqGuardType P.depth t=false∧Zld P 20 t=some ti.flat∧ti.agg=true

theorem TI.ok {P:Program} {t:TypeId} {ti:TI} (h:TI.check P t ti=true):∃ i d z,TI.Ok P t ti i d z:=by
 unfold TI.check at h
 split at h
 case h_2=>cases h
 rename_i i d hi hd
 simp only [Bool.and_eq_true,decide_eq_true_eq,beq_iff_eq] at h
 obtain ⟨⟨⟨⟨⟨⟨⟨⟨⟨h1,h2⟩,h3⟩,h4⟩,h5⟩,h6⟩,h7⟩,h9⟩,h8⟩,h10⟩:=h
 split at h4
 case h_2=>cases h4
 rename_i z hz
 simp only [Bool.and_eq_true,decide_eq_true_eq] at h4
 refine ⟨i,d,z,hi,hd,h1,h2,h3,hz,h4.1.1,h4.1.2,h4.2,fun hne=>?_,fun e he=>?_,fun k hk=>?_,fun hb=>?_,fun e he=>?_,fun hf=>?_⟩
 ·split at h5
  ·rename_i fs
   simp only [Bool.and_eq_true,decide_eq_true_eq,List.all_eq_true] at h5
   exact ⟨fs,rfl,h5.1,h5.2⟩
  ·simp only [decide_eq_true_eq] at h5
   exact absurd h5 hne
 ·split at h6
  ·simp only [decide_eq_true_eq] at h6; rw [h6] at he; cases he; rfl
  ·simp only [decide_eq_true_eq] at h6; rw [h6] at he; cases he
 ·split at h7
  ·simp only [decide_eq_true_eq] at h7; rw [h7] at hk; cases hk; rfl
  ·simp only [decide_eq_true_eq] at h7; rw [h7] at hk; cases hk
 ·rw [hb] at h9
  cases d <;> simp at h9 ⊢
 ·split at h10
  ·rename_i n e'
   rw [he] at h10
   simp only [Bool.or_eq_true,Bool.and_eq_true,decide_eq_true_eq,reduceCtorEq,false_or,Option.some.injEq] at h10
   obtain ⟨rfl,h11⟩:=h10
   split at h11
   ·rename_i ie hie
    exact ⟨n,ie,rfl,hie,of_decide_eq_true h11⟩
   ·cases h11
  ·simp only [decide_eq_true_eq] at h10; rw [h10] at he; cases he
 ·simp only [Bool.or_eq_true,Bool.and_eq_true,decide_eq_true_eq] at h8
  have h8:=h8.resolve_left hf
  exact ⟨h8.1.1,h8.1.2,h8.2⟩

structure TOk (X:Ctx):Prop where
 ty:∀ t ti,X.tt t=some ti→TI.check X.P t ti=true
 call:∀ f vs b k n e,X.G f vs b k n=some e→n.lv=X.L→e.pre→Spec X.P X.L f vs b k e.r e.b e.k

instance {X:Ctx}:CoeFun (TOk X) (fun _=>∀ t ti,X.tt t=some ti→TI.check X.P t ti=true):=⟨fun h=>h.ty⟩

theorem ZLv {v:Value} {c:C} (h:zc v c=true) (ok:Zas) (ℓ:Loc) (w:World):RC ok ℓ w v c∧∀ n,¬ c.has n:=by
 unfold zc at h
 split at h <;> first
  | cases h; done
  | (
   simp only [Bool.and_eq_true,decide_eq_true_eq,beq_iff_eq] at h
   first
    | (obtain ⟨rfl,rfl⟩:=h; exact ⟨⟨.int _ _,rfl⟩,fun _ h=>h⟩)
    | (subst h; exact ⟨⟨.bool _,rfl⟩,fun _ h=>h⟩)
    | (subst h; exact ⟨⟨.str _,rfl⟩,fun _ h=>h⟩))
  | exact ⟨⟨_,rfl⟩,fun _ h=>h⟩
  | exact ⟨⟨.raw _,rfl⟩,fun _ h=>h⟩

theorem Zdi (ok:Zas) (ℓ:Loc) (w:World):∀ (vs:List Value) (cs:List C),zcs vs cs=true→RCs ok ℓ w vs.toArray cs∧∀ c∈cs,∀ n,¬ c.has n
 | [],[],_=>⟨⟨rfl,by simp⟩,by simp⟩
 | [],_::_,h=>by simp [zcs] at h
 | _::_,[],h=>by simp [zcs] at h
 | v::vs,c::cs,h=>by
  simp only [zcs,Bool.and_eq_true] at h
  obtain ⟨h1,h2⟩:=h
  obtain ⟨⟨h3,h4⟩,h5⟩:=Zdi ok ℓ w vs cs h2
  obtain ⟨h6,h7⟩:=ZLv h1 ok ℓ w
  refine ⟨⟨by simpa using h3,fun i u d hu hd=>?_⟩,fun d hd n=>?_⟩
  ·cases i with
   | zero=>simp at hu hd; subst hu; subst hd; exact h6
   | succ i=>simp at hu hd; exact h4 i u d (by simpa using hu) hd
  ·rcases List.mem_cons.1 hd with rfl | hd
   ·exact h7 n
   ·exact h5 d hd n

structure Start where
 w:World
 ok:Zas
 ℓ:Loc
 M:Nat→Prop
 H:Name→Prop

structure SimW (X:Ctx) (S:Start) (ok:Zas) (ℓ:Loc) (st:St) (a:Act) (w:World):Prop where
 defers:a.defers=[]
 size:a.tmps.size=X.n
 tmps:∀ t v,lk st.t t=some v→∃ u,a.tmps[t]?=some u∧RV ok ℓ w u v
 mem:MemOK ok ℓ st.b st.k w
 ext:Ext S.M S.w w
 sub:Chg S.ok ok S.w w
 sup:∀ x o,ok x o→S.ok x o∨S.w.heap.size≤x∨S.M x
 own:∀ n x,Owns ℓ st.b st.k n x→S.w.heap.size≤x∨S.M x
 names:∀ n,n.lv < X.L→LocAt S.ℓ ℓ n∧(¬ S.H n→ℓ.i n=S.ℓ.i n∧ℓ.z n=S.ℓ.z n∧ℓ.h n=S.ℓ.h n)
 inH:∀ n,n.lv < X.L→(lk st.b n).isSome=true∨(lk st.k n).isSome=true→S.H n

def Sim (X:Ctx) (S:Start) (st:St) (a:Act) (w:World):Prop:=∃ ok ℓ,SimW X S ok ℓ st a w

structure St.Free (st:St) (n:Name):Prop where
 t:∀ t v,lk st.t t=some v→¬ v.has n
 m:Fresh st.b st.k n

theorem SimW.eval {X S ok ℓ st a w} (h:SimW X S ok ℓ st a w) {t:Nat} {v:V} (hv:lk st.t t=some v):RV ok ℓ w (a.eval (.tmp t)) v:=by
 obtain ⟨u,hu,hr⟩:=h.tmps t v hv
 have:a.eval (.tmp t)=u:=by simp [Act.eval,hu]
 rw [this]; exact hr

theorem SimW.move {X S ok ok' ℓ ℓ' st a w w'} (h:SimW X S ok ℓ st a w) {b':Zf} {k':Zr} (hc:Chg ok ok' w w')
  (hl:∀ t v,lk st.t t=some v→∀ n,v.has n→LocAt ℓ ℓ' n) (hm:MemOK ok' ℓ' b' k' w')
  (he:w'.os=w.os∧w'.tape=w.tape∧w'.output=w.output∧w.heap.size≤w'.heap.size) (hb:∀ i,i < S.w.heap.size→¬ S.M i→w'.heap[i]?=w.heap[i]?)
  (hsup:∀ x o,ok' x o→ok x o∨S.w.heap.size≤x∨S.M x) (hown:∀ n x,Owns ℓ' b' k' n x→S.w.heap.size≤x∨S.M x)
  (hn:∀ n,n.lv < X.L→LocAt ℓ ℓ' n∧(¬ S.H n→ℓ'.i n=ℓ.i n∧ℓ'.z n=ℓ.z n∧ℓ'.h n=ℓ.h n))
  (hH:∀ n,n.lv < X.L→(lk b' n).isSome=true∨(lk k' n).isSome=true→S.H n):SimW X S ok' ℓ' ⟨st.t,b',k'⟩ a w' where
 defers:=h.defers
 size:=h.size
 tmps t v hv:=let ⟨u,hu,hr⟩:=h.tmps t v hv; ⟨u,hu,hr.chg hc (hl t v hv)⟩
 mem:=hm
 ext:=⟨he.1.trans h.ext.os,he.2.1.trans h.ext.tape,he.2.2.1.trans h.ext.output,Nat.le_trans h.ext.size he.2.2.2,fun i hi hn=>(hb i hi hn).trans (h.ext.block i hi hn)⟩
 sub:=h.sub.trans hc
 sup x o hx:=(hsup x o hx).elim (h.sup x o) (fun h=>.inr h)
 own:=hown
 names n hlt:=by
  obtain ⟨h1,h2⟩:=h.names n hlt
  obtain ⟨h3,h4⟩:=hn n hlt
  exact ⟨h1.trans h3,fun hH=>⟨(h4 hH).1.trans (h2 hH).1,(h4 hH).2.1.trans (h2 hH).2.1,(h4 hH).2.2.trans (h2 hH).2.2⟩⟩
 inH:=hH

theorem SimW.put {X S ok ℓ st a w} (h:SimW X S ok ℓ st a w) {u:Value} {v:V} {d:Nat} (hd:d < X.n) (hr:RV ok ℓ w u v):SimW X S ok ℓ ⟨(d,v)::st.t,st.b,st.k⟩ (a.put (some d) u) w where
 defers:=h.defers
 size:=by simp [Act.put,h.size]
 tmps t v' hv:=by
  have hds:d < a.tmps.size:=by rw [h.size]; exact hd
  by_cases e:d=t
  ·subst e
   rw [Zl] at hv
   cases hv
   exact ⟨u,by simp [Act.put,hds],hr⟩
  ·rw [Zh _ _ e] at hv
   obtain ⟨u',hu',hr'⟩:=h.tmps t v' hv
   exact ⟨u',by simp [Act.put,Array.getElem?_setIfInBounds_ne e,hu'],hr'⟩
 mem:=h.mem
 ext:=h.ext
 sub:=h.sub
 sup:=h.sup
 own:=h.own
 names:=h.names
 inH:=h.inH

theorem Sim.fin {X S ok ℓ st a w} (h:SimW X S ok ℓ st a w) {u:Value} {v:V} {dst:Option Nat} (hd:∀ d,dst=some d→d < X.n) {gd:Option Bool} (hg:gd.getD true=true) (hr:dst.isSome=true→RV ok ℓ w u v) :
  Sim X S ⟨ZGn dst gd v st.t,st.b,st.k⟩ (a.put dst u) w:=by
 cases dst with
 | none=>cases gd <;> exact ⟨ok,ℓ,h⟩
 | some d =>
  cases gd with
  | none=>exact ⟨ok,ℓ,h.put (hd d rfl) (hr rfl)⟩
  | some γ=>exact ⟨ok,ℓ,h.put (v:=.g γ v) (hd d rfl) ⟨fun _=>hr rfl,fun e=>by rw [e] at hg; cases hg⟩⟩

theorem ZCH {ok ℓ w u y} (h:Rep ok w u y) (hy:y.okV=true):RV ok ℓ w u y.toV:=by
 cases y with
 | agg cs =>
  obtain ⟨zs,hz,h5,h6,h7⟩:=h.agg_inv
  refine ⟨zs,hz,by simpa using h5,fun j u c hu' hc=>?_⟩
  simp only [List.getElem?_map,Option.map_eq_some_iff] at hc
  obtain ⟨y,hy,rfl⟩:=hc
  exact ⟨h7 j u y hu' hy,h6 y (List.mem_of_getElem? hy)⟩
 | tup ds=>exact h
 | int k n=>exact ⟨h,rfl⟩
 | bool b=>exact ⟨h,rfl⟩
 | str s=>exact ⟨h,rfl⟩
 | list l=>exact ⟨h,rfl⟩
 | raw v=>exact ⟨h,hy⟩

end Go.Vam
end
