/- A part of the proof. Conditions: none. -/
import Derived.Calls
import Derived.Orders
import Derived.Laws.Sem
import Derived.Laws.World
import Derived.Laws.Cells
import Derived.Laws.Rows
section
set_option linter.unusedVariables false
set_option linter.unusedSimpArgs false
namespace Go.Vam

inductive D where
 | int (k:IntKind) (n:Int)
 | bool (b:Bool)
 | str (s:ByteArray)
 | list (l:List D)
 | agg (cs:List D)
 | tup (ds:List D)
 | raw (v:Value)

def D.cells:D→List D
 | .agg cs=>cs
 | d=>[d]

def D.sc:D→Bool
 | .agg _=>false
 | .tup _=>false
 | .raw v=>v.oneCell'
 | _=>true

abbrev Zas:=Nat→Nat→Prop

inductive Rep (ok:Zas) (w:World):Value→D→Prop
 | int (k n):Rep ok w (.int k n) (.int k n)
 | bool (b):Rep ok w (.bool b) (.bool b)
 | str (s):Rep ok w (.string s) (.str s)
 | nil (a cap):Rep ok w (.slice a 0 cap) (.list [])
 | list (blk o cap sz:Nat) (l:List D) (u:Nat→Nat→Value):l.length≤cap→(∀ x∈l,x.cells.length=sz)→
   (∀ i x j y,l[i]?=some x→x.cells[j]?=some y→y.sc=true∧ok blk (o+i*sz+j)∧w.cell? ⟨blk,o+i*sz+j,none⟩=some (u i j))→
   (∀ i x j y,l[i]?=some x→x.cells[j]?=some y→Rep ok w (u i j) y)→
   Rep ok w (.slice (some ⟨blk,o,none⟩) l.length cap) (.list l)
 | agg (vs:Array Value) (cs:List D):vs.size=cs.length→(∀ y∈cs,y.sc=true)→(∀ (i:Nat) u y,vs[i]?=some u→cs[i]?=some y→Rep ok w u y)→Rep ok w (.agg vs) (.agg cs)
 | tup (vs:Array Value) (ds:List D):vs.size=ds.length→(∀ (i:Nat) u y,vs[i]?=some u→ds[i]?=some y→Rep ok w u y)→Rep ok w (.tuple vs) (.tup ds)
 | raw v:Rep ok w v (.raw v)

structure Chg (ok ok':Zas) (w w':World):Prop where
 sub:∀ x o,ok x o→ok' x o
 cell:∀ x o,ok x o→w'.cell? ⟨x,o,none⟩=w.cell? ⟨x,o,none⟩

theorem Chg.refl (ok:Zas) (w:World):Chg ok ok w w:=⟨fun _ _ h=>h,fun _ _ _=>rfl⟩
theorem Chg.trans {ok ok' ok'':Zas} {w w' w'':World} (h:Chg ok ok' w w') (k:Chg ok' ok'' w' w''):Chg ok ok'' w w'' :=
 ⟨fun x o hx=>k.sub _ _ (h.sub _ _ hx),fun x o hx=>(k.cell _ _ (h.sub _ _ hx)).trans (h.cell _ _ hx)⟩

theorem Rep.chg {ok ok':Zas} {w w':World} (hc:Chg ok ok' w w') {v:Value} {d:D} (h:Rep ok w v d):Rep ok' w' v d:=by
 induction h with
 | int k n=>exact .int k n
 | bool b=>exact .bool b
 | str s=>exact .str s
 | nil a cap=>exact .nil a cap
 | list blk o cap sz l u h1 h2 h3 _ ih =>
  refine .list blk o cap sz l u h1 h2 (fun i x j y hx hy=>?_) (fun i x j y hx hy=>ih i x j y hx hy)
  obtain ⟨a,b,c⟩:=h3 i x j y hx hy
  exact ⟨a,hc.sub _ _ b,(hc.cell _ _ b).trans c⟩
 | agg vs cs h1 h2 _ ih=>exact .agg vs cs h1 h2 (fun i u y hu hy=>ih i u y hu hy)
 | tup vs ds h1 _ ih=>exact .tup vs ds h1 (fun i u y hu hy=>ih i u y hu hy)
 | raw v=>exact .raw v

theorem Rep.int_inv {ok w v k n} (h:Rep ok w v (.int k n)):v=.int k n:=by cases h; rfl
theorem Rep.bool_inv {ok w v b} (h:Rep ok w v (.bool b)):v=.bool b:=by cases h; rfl
theorem Rep.str_inv {ok w v s} (h:Rep ok w v (.str s)):v=.string s:=by cases h; rfl
theorem Rep.agg_inv {ok w v cs} (h:Rep ok w v (.agg cs)):∃ vs:Array Value,v=.agg vs∧vs.size=cs.length∧(∀ y∈cs,y.sc=true)∧∀ (i:Nat) u y,vs[i]?=some u→cs[i]?=some y→Rep ok w u y:=by
 cases h with | agg vs _ h1 h2 h3=>exact ⟨vs,rfl,h1,h2,h3⟩
theorem Rep.tup_inv {ok w v ds} (h:Rep ok w v (.tup ds)):∃ vs:Array Value,v=.tuple vs∧vs.size=ds.length∧∀ (i:Nat) u y,vs[i]?=some u→ds[i]?=some y→Rep ok w u y:=by
 cases h with | tup vs _ h1 h3=>exact ⟨vs,rfl,h1,h3⟩

theorem Rep.list_inv {ok w v l} (h:Rep ok w v (.list l)):∃ a cap,v=.slice a l.length cap∧(l=[]∨∃ blk o sz,∃ u:Nat→Nat→Value,a=some ⟨blk,o,none⟩∧l.length≤cap∧(∀ x∈l,x.cells.length=sz)∧
   (∀ i x j y,l[i]?=some x→x.cells[j]?=some y→y.sc=true∧ok blk (o+i*sz+j)∧w.cell? ⟨blk,o+i*sz+j,none⟩=some (u i j)∧Rep ok w (u i j) y)):=by
 cases h with
 | nil a cap=>exact ⟨a,cap,rfl,.inl rfl⟩
 | list blk o cap sz l u h1 h2 h3 h4 =>
  exact ⟨_,cap,rfl,.inr ⟨blk,o,sz,u,rfl,h1,h2,fun i x j y hx hy=>⟨(h3 i x j y hx hy).1,(h3 i x j y hx hy).2.1,(h3 i x j y hx hy).2.2,h4 i x j y hx hy⟩⟩⟩

theorem Rep.oneCell {ok w v d} (h:Rep ok w v d) (hs:d.sc=true):v.oneCell'=true:=by
 cases h <;> simp_all [D.sc,Value.oneCell']

structure Name where
 lv:Nat
 s:Nat
 deriving DecidableEq

inductive C where
 | d (x:D)
 | nil
 | own (k:Name) (l:List D)
 | arr (k:Name) (n:Nat)
 | lp (n:Name) (off:Nat)
 | pd (x:D)
 | ap (k:Name) (i off:Nat)
 | fn (f:FuncId) (caps:List (Name×Nat))
 | bs (m:Name) (n:Nat)
 | vw (k:Name) (off len:Nat)
 | rws (k:Name) (w n:Nat)
 | rp (k:Name) (w i:Nat)

inductive V where
 | c (x:C)
 | agg (cs:List C)
 | tup (ds:List D)
 | ts (sh:List (Option Nat)) (cs:List C)
 | g (γ:Bool) (v:V)

structure Tok where
 isArr:Bool
 sz:Nat
 l:List D

def hlen:Value→Nat
 | .slice _ n _=>n
 | _=>0
def Zl2:Value→Option Nat
 | .slice (some a) _ cap=>if cap=0 then none else some a.block
 | _=>none

def PtrTo (ok:Zas) (w:World) (x:D) (b o:Nat):Prop :=
 ∀ (j:Nat) y,x.cells[j]?=some y→y.sc=true∧ok b (o+j)∧∃ z,w.cell? ⟨b,o+j,none⟩=some z∧Rep ok w z y

structure Loc where
 i:Name→Nat
 h:Name→Value
 z:Name→Nat

def rcv:List (Name×Nat)→Bool
 | [(_,o)]=>decide (1000000000≤o)
 | _=>false
def fnP (ℓ:Loc) (k:Nat) (caps:List (Name×Nat)):List Value:=caps.map fun p=>Value.pointer (some ⟨ℓ.i p.1,p.2 - k,none⟩)
def fnV (ℓ:Loc) (f:FuncId) (caps:List (Name×Nat)):Value :=
 if rcv caps=true then .func (.func f) (fnP ℓ 1000000000 caps).toArray #[] else .func (.func f) #[] (fnP ℓ 0 caps).toArray

def RC (ok:Zas) (ℓ:Loc) (w:World) (u:Value):C→Prop
 | .d x=>Rep ok w u x∧x.sc=true
 | .nil=>∃ a,u=.slice a 0 0
 | .own k l=>Rep ok w u (.list l)∧l.length≤hlen (ℓ.h k)∧(l.length=hlen (ℓ.h k)→u=ℓ.h k)
 | .arr k n=>∃ cap,n≤cap∧u=.slice (some ⟨ℓ.i k,0,none⟩) n cap
 | .lp n off=>u=.pointer (some ⟨ℓ.i n,off,none⟩)
 | .pd x=>∃ b o,u=.pointer (some ⟨b,o,none⟩)∧PtrTo ok w x b o
 | .ap k i off=>u=.pointer (some ⟨ℓ.i k,i*ℓ.z k+off,none⟩)
 | .fn f caps=>u=fnV ℓ f caps
 | .bs m n=>u=.slice (some ⟨ℓ.i m,0,none⟩) n n
 | .vw k off len=>u=.slice (some ⟨ℓ.i k,off,none⟩) len len
 | .rws k wd n=>∃ b o,u=.slice (some ⟨b,o,none⟩) n n∧∀ i,i < n→ok b (o+i)∧w.cell? ⟨b,o+i,none⟩=some (.slice (some ⟨ℓ.i k,i*wd,none⟩) wd wd)
 | .rp k wd i=>∃ b o,u=.pointer (some ⟨b,o,none⟩)∧ok b o∧w.cell? ⟨b,o,none⟩=some (.slice (some ⟨ℓ.i k,i*wd,none⟩) wd wd)

def RCs (ok:Zas) (ℓ:Loc) (w:World) (vs:Array Value) (cs:List C):Prop :=
 vs.size=cs.length∧∀ (i:Nat) u c,vs[i]?=some u→cs[i]?=some c→RC ok ℓ w u c

def Zk3:List (Option Nat)→List Value→List Value
 | [],_=>[]
 | none::sh,vs=>match vs with
  | []=>[]
  | v::vs=>v::Zk3 sh vs
 | some n::sh,vs=>.agg (vs.take n).toArray::Zk3 sh (vs.drop n)

def RV (ok:Zas) (ℓ:Loc) (w:World) (u:Value):V→Prop
 | .c x=>RC ok ℓ w u x
 | .agg cs=>∃ vs:Array Value,u=.agg vs∧RCs ok ℓ w vs cs
 | .tup ds=>Rep ok w u (.tup ds)
 | .ts sh cs=>∃ vs:Array Value,u=.tuple (Zk3 sh vs.toList).toArray∧RCs ok ℓ w vs cs
 | .g γ v=>(γ=true→RV ok ℓ w u v)∧(γ=false→u=undef)

theorem RC.oneCell {ok ℓ w u c} (h:RC ok ℓ w u c):u.oneCell'=true:=by
 cases c with
 | d x=>exact h.1.oneCell h.2
 | nil=>obtain ⟨a,rfl⟩:=h; rfl
 | own k l=>exact h.1.oneCell rfl
 | arr k n=>obtain ⟨cap,_,rfl⟩:=h; rfl
 | lp n off=>rw [h]; rfl
 | pd x=>obtain ⟨b,o,rfl,_⟩:=h; rfl
 | ap k i off=>rw [h]; rfl
 | fn f caps=>rw [h]; unfold fnV; split <;> rfl
 | bs m n=>rw [h]; rfl
 | vw k off len=>rw [h]; rfl
 | rws k wd n=>obtain ⟨b,o,rfl,_⟩:=h; rfl
 | rp k wd i=>obtain ⟨b,o,rfl,_⟩:=h; rfl

def C.has (c:C) (n:Name):Prop :=
 match c with
 | .own k _=>k=n
 | .arr k _=>k=n
 | .lp k _=>k=n
 | .ap k _ _=>k=n
 | .bs m _=>m=n
 | .vw k _ _=>k=n
 | .rws k _ _=>k=n
 | .rp k _ _=>k=n
 | .fn _ caps=>∃ p∈caps,p.1=n
 | _=>False

def V.has (v:V) (n:Name):Prop :=
 match v with
 | .c x=>x.has n
 | .agg cs=>∃ c∈cs,c.has n
 | .tup _=>False
 | .ts _ cs=>∃ c∈cs,c.has n
 | .g _ v=>v.has n

structure LocAt (ℓ ℓ':Loc) (n:Name):Prop where
 i:ℓ'.i n=ℓ.i n
 z:ℓ'.z n=ℓ.z n
 le:hlen (ℓ.h n)≤hlen (ℓ'.h n)
 eq:hlen (ℓ.h n)=hlen (ℓ'.h n)→ℓ'.h n=ℓ.h n

theorem LocAt.refl (ℓ:Loc) (n:Name):LocAt ℓ ℓ n:=⟨rfl,rfl,Nat.le_refl _,fun _=>rfl⟩
theorem LocAt.trans {a b c:Loc} {n:Name} (h:LocAt a b n) (k:LocAt b c n):LocAt a c n :=
 ⟨k.i.trans h.i,k.z.trans h.z,Nat.le_trans h.le k.le,fun e=>by
  have h1:hlen (a.h n)=hlen (b.h n):=Nat.le_antisymm h.le (by rw [e]; exact k.le)
  have h2:hlen (b.h n)=hlen (c.h n):=h1.symm.trans e
  rw [k.eq h2,h.eq h1]⟩

theorem PtrTo.chg {ok ok':Zas} {w w':World} (hc:Chg ok ok' w w') {x b o} (h:PtrTo ok w x b o):PtrTo ok' w' x b o:=by
 intro j y hy
 obtain ⟨h1,h2,z,h3,h4⟩:=h j y hy
 exact ⟨h1,hc.sub _ _ h2,z,(hc.cell _ _ h2).trans h3,h4.chg hc⟩

theorem RC.chg {ok ok':Zas} {w w':World} {ℓ ℓ':Loc} (hc:Chg ok ok' w w') {u:Value} {c:C} (hl:∀ n,c.has n→LocAt ℓ ℓ' n) (h:RC ok ℓ w u c):RC ok' ℓ' w' u c:=by
 cases c with
 | d x=>exact ⟨h.1.chg hc,h.2⟩
 | nil=>exact h
 | own k l =>
  obtain ⟨h1,h2,h3⟩:=h
  have hk:=hl k rfl
  refine ⟨h1.chg hc,Nat.le_trans h2 hk.le,fun e=>?_⟩
  have e1:hlen (ℓ.h k)=hlen (ℓ'.h k):=Nat.le_antisymm hk.le (by rw [← e]; exact h2)
  rw [hk.eq e1]
  exact h3 (e.trans e1.symm)
 | arr k n=>simp only [RC] at h ⊢; rw [(hl k rfl).i]; exact h
 | lp n off=>simp only [RC] at h ⊢; rw [(hl n rfl).i]; exact h
 | pd x=>obtain ⟨b,o,h1,h2⟩:=h; exact ⟨b,o,h1,h2.chg hc⟩
 | ap k i off=>simp only [RC] at h ⊢; rw [(hl k rfl).i,(hl k rfl).z]; exact h
 | bs m n=>simp only [RC] at h ⊢; rw [(hl m rfl).i]; exact h
 | vw k off len=>simp only [RC] at h ⊢; rw [(hl k rfl).i]; exact h
 | rws k wd n =>
  obtain ⟨b,o,h1,h2⟩:=h
  exact ⟨b,o,h1,fun i hi=>⟨hc.sub _ _ (h2 i hi).1,by rw [(hl k rfl).i]; exact (hc.cell _ _ (h2 i hi).1).trans (h2 i hi).2⟩⟩
 | rp k wd i =>
  obtain ⟨b,o,h1,h2,h3⟩:=h
  exact ⟨b,o,h1,hc.sub _ _ h2,by rw [(hl k rfl).i]; exact (hc.cell _ _ h2).trans h3⟩
 | fn f caps =>
  simp only [RC] at h ⊢
  have key:∀ k,fnP ℓ k caps=fnP ℓ' k caps:=fun k=>by
   unfold fnP
   apply List.map_congr_left
   intro p hp
   rw [(hl p.1 ⟨p,hp,rfl⟩).i]
  rw [h]
  unfold fnV
  rw [key,key]

theorem RCs.chg {ok ok':Zas} {w w':World} {ℓ ℓ':Loc} (hc:Chg ok ok' w w') {vs:Array Value} {cs:List C} (hl:∀ n,(∃ c∈cs,c.has n)→LocAt ℓ ℓ' n) (h:RCs ok ℓ w vs cs):RCs ok' ℓ' w' vs cs :=
 ⟨h.1,fun i u c hu hcs=>(h.2 i u c hu hcs).chg hc (fun n hn=>hl n ⟨c,List.mem_of_getElem? hcs,hn⟩)⟩

theorem RV.chg {ok ok':Zas} {w w':World} {ℓ ℓ':Loc} (hc:Chg ok ok' w w') {u:Value} {v:V} (hl:∀ n,v.has n→LocAt ℓ ℓ' n) (h:RV ok ℓ w u v):RV ok' ℓ' w' u v:=by
 induction v with
 | c x=>exact RC.chg hc hl h
 | agg cs=>obtain ⟨vs,h1,h2⟩:=h; exact ⟨vs,h1,h2.chg hc hl⟩
 | tup ds=>exact Rep.chg hc h
 | ts sh cs=>obtain ⟨vs,h1,h2⟩:=h; exact ⟨vs,h1,h2.chg hc hl⟩
 | g γ v ih=>exact ⟨fun e=>ih hl (h.1 e),h.2⟩

def lk {κ α:Type} [DecidableEq κ]:List (κ×α)→κ→Option α
 | [],_=>none
 | (k,v)::l,x=>if k=x then some v else lk l x

def rm {κ α:Type} [DecidableEq κ] (l:List (κ×α)) (x:κ):List (κ×α):=l.filter fun p=>p.1≠x

theorem Zl {κ α:Type} [DecidableEq κ] (l:List (κ×α)) (k:κ) (v:α):lk ((k,v)::l) k=some v:=by simp [lk]
theorem Zh {κ α:Type} [DecidableEq κ] (l:List (κ×α)) {k x:κ} (v:α) (h:k≠x):lk ((k,v)::l) x=lk l x:=by simp [lk,h]
theorem ZhG {κ α:Type} [DecidableEq κ] (l:List (κ×α)) (x:κ):lk (rm l x) x=none:=by
 induction l with
 | nil=>rfl
 | cons p l ih =>
  obtain ⟨k,v⟩:=p
  by_cases h:k=x
  ·simpa [rm,h] using ih
  ·have e:rm ((k,v)::l) x=(k,v)::rm l x:=by simp [rm,h]
   rw [e,Zh _ _ h,ih]
theorem Zfp {κ α:Type} [DecidableEq κ] (l:List (κ×α)) {x y:κ} (h:y≠x):lk (rm l x) y=lk l y:=by
 induction l with
 | nil=>rfl
 | cons p l ih =>
  obtain ⟨k,v⟩:=p
  by_cases hk:k=x
  ·have e:rm ((k,v)::l) x=rm l x:=by simp [rm,hk]
   rw [e,ih,Zh _ _ (by rw [hk]; exact h.symm)]
  ·have e:rm ((k,v)::l) x=(k,v)::rm l x:=by simp [rm,hk]
   rw [e]
   by_cases hy:k=y
   ·subst hy; rw [Zl,Zl]
   ·rw [Zh _ _ hy,Zh _ _ hy,ih]

abbrev Zf:=List (Name×List C)
abbrev Zr:=List (Name×Tok)

def Owns (ℓ:Loc) (b:Zf) (k:Zr) (n:Name) (x:Nat):Prop :=
 ((lk b n).isSome=true∧x=ℓ.i n)∨(∃ tk,lk k n=some tk∧tk.isArr=true∧x=ℓ.i n)∨(∃ tk,lk k n=some tk∧tk.isArr=false∧Zl2 (ℓ.h n)=some x)

def BoxOK (ok:Zas) (ℓ:Loc) (w:World) (n:Name) (cs:List C):Prop :=
 ∃ vs T,w.heap[ℓ.i n]?=some (.cells vs T (0,0))∧RCs ok ℓ w vs cs∧∀ o,¬ ok (ℓ.i n) o

def BufOK (ok:Zas) (ℓ:Loc) (w:World) (n:Name) (tk:Tok):Prop :=
 Rep ok w (ℓ.h n) (.list tk.l)∧(∀ x∈tk.l,x.cells.length=tk.sz)∧∃ a cap,ℓ.h n=.slice a tk.l.length cap∧
  (cap=0∨∃ blk cs T,a=some ⟨blk,0,none⟩∧w.heap[blk]?=some (.cells cs T (0,0))∧cs.size=cap*tk.sz∧∀ o,tk.l.length*tk.sz≤o→¬ ok blk o)

def ArrOK (ok:Zas) (ℓ:Loc) (w:World) (n:Name) (tk:Tok):Prop :=
 ℓ.z n=tk.sz∧(∀ x∈tk.l,x.cells.length=tk.sz)∧∃ cs T,w.heap[ℓ.i n]?=some (.cells cs T (0,0))∧tk.l.length*tk.sz≤cs.size∧
  (∀ i x j y,tk.l[i]?=some x→x.cells[j]?=some y→y.sc=true∧∃ u,cs[i*tk.sz+j]?=some u∧Rep ok w u y)∧∀ o,¬ ok (ℓ.i n) o

structure MemOK (ok:Zas) (ℓ:Loc) (b:Zf) (k:Zr) (w:World):Prop where
 box:∀ n cs,lk b n=some cs→BoxOK ok ℓ w n cs
 buf:∀ n tk,lk k n=some tk→tk.isArr=false→BufOK ok ℓ w n tk
 arr:∀ n tk,lk k n=some tk→tk.isArr=true→ArrOK ok ℓ w n tk
 apart:∀ n,(lk b n).isSome=true→lk k n=none
 distinct:∀ n m x,Owns ℓ b k n x→Owns ℓ b k m x→n=m
 alive:∀ x o,ok x o→x < w.heap.size

theorem Z8 {w:World} {x:Nat} {o:Obj} (h:w.heap[x]?=some o):x < w.heap.size:=(Array.getElem?_eq_some_iff.1 h).1

theorem MemOK.owned_lt {ok ℓ b k w} (h:MemOK ok ℓ b k w) {n x} (ho:Owns ℓ b k n x):x < w.heap.size:=by
 rcases ho with ⟨h1,rfl⟩ | ⟨tk,h1,h2,rfl⟩ | ⟨tk,h1,h2,h3⟩
 ·obtain ⟨cs,hcs⟩:=Option.isSome_iff_exists.1 h1
  obtain ⟨vs,T,hh,_⟩:=h.box n cs hcs
  exact Z8 hh
 ·obtain ⟨_,_,cs,T,hh,_⟩:=h.arr n tk h1 h2
  exact Z8 hh
 ·obtain ⟨_,_,a,cap,hv,hr⟩:=h.buf n tk h1 h2
  rw [hv] at h3
  rcases hr with rfl | ⟨blk,cs,T,rfl,hh,_⟩
  ·cases a <;> simp [Zl2] at h3
  ·simp [Zl2] at h3
   obtain ⟨_,rfl⟩:=h3
   exact Z8 hh

theorem MemOK.not_ok_box {ok ℓ b k w} (h:MemOK ok ℓ b k w) {n cs} (hn:lk b n=some cs) (o:Nat):¬ ok (ℓ.i n) o:=by
 obtain ⟨_,_,_,_,h⟩:=h.box n cs hn
 exact h o

structure St where
 t:List (Nat×V)
 b:Zf
 k:Zr

end Go.Vam
end
section
set_option linter.unusedVariables false
set_option linter.unusedSimpArgs false
namespace Go.Vam

def setBlk (w:World) (x:Nat) (o:Obj):World:={ w with heap:=w.heap.setIfInBounds x o}

theorem Zbl (w:World) {x:Nat} (o:Obj) (h:x < w.heap.size):(setBlk w x o).heap[x]?=some o:=by
 simp [setBlk,h]
theorem ZG (w:World) {x y:Nat} (o:Obj) (h:y≠x):(setBlk w x o).heap[y]?=w.heap[y]?:=by
 simp [setBlk,Array.getElem?_setIfInBounds_ne h.symm]
theorem Za8 (w:World) (x:Nat) (o:Obj):(setBlk w x o).heap.size=w.heap.size:=by simp [setBlk]
theorem Znn (w:World) (x:Nat) (o o':Obj):setBlk (setBlk w x o) x o'=setBlk w x o':=by
 simp only [setBlk]
 congr 1
 apply Array.ext_getElem?
 intro i
 by_cases h:i=x
 ·subst h
  simp only [Array.getElem?_setIfInBounds_self]
  simp [Array.size_setIfInBounds]
 ·simp [Array.getElem?_setIfInBounds_ne (Ne.symm h)]

theorem ZsY (w:World) {x:Nat} {o:Obj} (h:w.heap[x]?=some o):setBlk w x o=w:=by
 have:w.heap.setIfInBounds x o=w.heap:=by
  apply Array.ext_getElem?
  intro i
  by_cases hi:i=x
  ·subst hi
   have:=Z8 h
   simp [this]
   exact (Array.getElem?_eq_some_iff.1 h).2.symm
  ·simp [Array.getElem?_setIfInBounds_ne (Ne.symm hi)]
 simp [setBlk,this]

theorem Zxk (w:World) {x o:Nat} {vs:Array Value} {T:TypeId} {fr:Nat×Nat} (v:Value) (h:w.heap[x]?=some (.cells vs T fr)) :
  w.setCell ⟨x,o,none⟩ v=setBlk w x (.cells (vs.setIfInBounds o v) T fr):=by
 simp only [World.setCell,setBlk]
 congr 1
 apply Array.ext_getElem?
 intro i
 rw [Array.getElem?_modify]
 by_cases hi:x=i
 ·subst hi
  have hlt:=Z8 h
  have hx:w.heap[x]=.cells vs T fr:=(Array.getElem?_eq_some_iff.1 h).2
  simp [hlt,hx]
 ·simp [hi]

theorem Zam {w:World} {x:Nat} {vs:Array Value} {T:TypeId} {fr:Nat×Nat} (h:w.heap[x]?=some (.cells vs T fr)) (o:Nat):w.cell? ⟨x,o,none⟩=vs[o]?:=by
 simp [World.cell?,h]

theorem ZaO {w w':World} {x:Nat} (h:w'.heap[x]?=w.heap[x]?) (o:Nat):w'.cell? ⟨x,o,none⟩=w.cell? ⟨x,o,none⟩:=by
 simp [World.cell?,h]

def ZP (vs:Array Value) (o:Nat):List Value→Array Value
 | []=>vs
 | u::us=>ZP (vs.setIfInBounds o u) (o+1) us

theorem ZbH (us:List Value):∀ (vs:Array Value) (o:Nat),(ZP vs o us).size=vs.size:=by
 induction us with
 | nil=>intro vs o; rfl
 | cons u us ih=>intro vs o; simp [ZP,ih]

theorem Za7 (us:List Value):∀ (vs:Array Value) (o i:Nat),(i < o∨o+us.length≤i)→(ZP vs o us)[i]?=vs[i]?:=by
 induction us with
 | nil=>intro vs o i _; rfl
 | cons u us ih =>
  intro vs o i h
  simp only [ZP,List.length_cons] at h ⊢
  rw [ih _ _ _ (by omega),Array.getElem?_setIfInBounds_ne (by omega)]

theorem ZdN (us:List Value):∀ (vs:Array Value) (o i:Nat),o+us.length≤vs.size→i < us.length→(ZP vs o us)[o+i]?=us[i]?:=by
 induction us with
 | nil=>intro vs o i _ h; simp at h
 | cons u us ih =>
  intro vs o i hs h
  simp only [ZP,List.length_cons] at h hs ⊢
  cases i with
  | zero =>
   rw [Za7 _ _ _ _ (by omega)]
   have:o < vs.size:=by omega
   simp [this]
  | succ i =>
   have:=ih (vs.setIfInBounds o u) (o+1) i (by simp; omega) (by omega)
   simp only [List.getElem?_cons_succ]
   rw [← this]
   congr 1
   omega

theorem Zdh (P:Program) (us:List Value):∀ (w:World) (x o i:Nat) (vs:Array Value) (T:TypeId),w.heap[x]?=some (.cells vs T (0,0))→
  o+i+us.length≤vs.size→(∀ u∈us,u.oneCell'=true)→
  (storeCells ⟨x,o,none⟩ us i).run P w=.ok () (setBlk w x (.cells (ZP vs (o+i) us) T (0,0))):=by
 induction us with
 | nil=>intro w x o i vs T h _ _; simp [storeCells,ZP,ZsY w h]
 | cons u us ih =>
  intro w x o i vs T h hs hu
  simp only [List.length_cons] at hs
  have hadd:(⟨x,o,none⟩:Addr).add i=⟨x,o+i,none⟩:=by unfold Addr.add; split <;> simp_all
  simp only [storeCells,Sem.run_bind,hadd]
  rw [run_store P w ⟨x,o+i,none⟩ u .plain (hu u (by simp))]
  rw [Zam h]
  have hlt:o+i < vs.size:=by omega
  simp only [Array.getElem?_eq_getElem hlt]
  have hf:w.frozen? ⟨x,o+i,none⟩=false:=by simp [World.frozen?,h]
  simp only [hf,Bool.false_eq_true,if_false,Result.andThen_ok]
  rw [Zxk w u h]
  have hh:(setBlk w x (.cells (vs.setIfInBounds (o+i) u) T (0,0))).heap[x]?=some (.cells (vs.setIfInBounds (o+i) u) T (0,0)):=Zbl w _ (Z8 h)
  rw [ih _ x o (i+1) _ T hh (by simp; omega) (fun u hu'=>hu u (by simp [hu']))]
  rw [Znn]
  rfl

theorem ZdM (P:Program) (w:World) (x o n:Nat) (us:List Value) (hn:us.length=n) (h:∀ j u,us[j]?=some u→w.cell? ⟨x,o+j,none⟩=some u) :
  (loadCells ⟨x,o,none⟩ n).run P w=.ok us.toArray w:=by
 subst hn
 refine run_loadCells_list (P:=P) w ⟨x,o,none⟩ us (fun j v hv=>?_)
 have hadd:(⟨x,o,none⟩:Addr).add j=⟨x,o+j,none⟩:=by unfold Addr.add; split <;> simp_all
 rw [hadd]
 exact h j v hv

structure Ext (M:Nat→Prop) (w w':World):Prop where
 os:w'.os=w.os
 tape:w'.tape=w.tape
 output:w'.output=w.output
 size:w.heap.size≤w'.heap.size
 block:∀ i,i < w.heap.size→¬ M i→w'.heap[i]?=w.heap[i]?

theorem Ext.refl (M:Nat→Prop) (w:World):Ext M w w:=⟨rfl,rfl,rfl,Nat.le_refl _,fun _ _ _=>rfl⟩
theorem Ext.trans {M:Nat→Prop} {a b c:World} (h:Ext M a b) (k:Ext M b c):Ext M a c :=
 ⟨k.os.trans h.os,k.tape.trans h.tape,k.output.trans h.output,Nat.le_trans h.size k.size,fun i hi hm=>(k.block i (Nat.lt_of_lt_of_le hi h.size) hm).trans (h.block i hi hm)⟩
theorem Ext.mono {M M':Nat→Prop} {a b:World} (h:Ext M a b) (hm:∀ x,M x→M' x):Ext M' a b:=⟨h.os,h.tape,h.output,h.size,fun i hi hn=>h.block i hi (fun h=>hn (hm _ h))⟩
theorem Ext.alloc (M:Nat→Prop) (w:World) (o:Obj):Ext M w (w.alloc o) :=
 ⟨rfl,rfl,rfl,by simp,fun i hi _=>by show (w.heap.push o)[i]?=_; rw [Array.getElem?_push,if_neg (by omega)]⟩
theorem Ext.setBlk (w:World) (x:Nat) (o:Obj):Ext (fun y=>y=x) w (setBlk w x o) :=
 ⟨rfl,rfl,rfl,by simp [Za8],fun i hi hn=>ZG w o hn⟩
theorem Ext.drew (M:Nat→Prop) (w:World):Ext M w { w with drawn:=w.drawn+1}:=⟨rfl,rfl,rfl,Nat.le_refl _,fun _ _ _=>rfl⟩

theorem ZbT (w:World) (o:Obj):(w.alloc o).heap[w.heap.size]?=some o:=by show (w.heap.push o)[w.heap.size]?=_; simp
theorem Z2 (w:World) (o:Obj) {i:Nat} (h:i < w.heap.size):(w.alloc o).heap[i]?=w.heap[i]?:=by
 show (w.heap.push o)[i]?=_; rw [Array.getElem?_push,if_neg (by omega)]

theorem BoxOK.chg {ok ok':Zas} {ℓ ℓ':Loc} {w w':World} {n:Name} {cs:List C} (hc:Chg ok ok' w w') (hl:∀ m,(∃ c∈cs,c.has m)→LocAt ℓ ℓ' m) (hi:ℓ'.i n=ℓ.i n)
  (hb:w'.heap[ℓ.i n]?=w.heap[ℓ.i n]?) (hok:∀ o,ok' (ℓ.i n) o→ok (ℓ.i n) o) (h:BoxOK ok ℓ w n cs):BoxOK ok' ℓ' w' n cs:=by
 obtain ⟨vs,T,h1,h2,h3⟩:=h
 refine ⟨vs,T,by rw [hi,hb,h1],h2.chg hc hl,fun o ho=>h3 o (hok o (hi ▸ ho))⟩

theorem BufOK.chg {ok ok':Zas} {ℓ ℓ':Loc} {w w':World} {n:Name} {tk:Tok} (hc:Chg ok ok' w w') (hh:ℓ'.h n=ℓ.h n)
  (hb:∀ x,Zl2 (ℓ.h n)=some x→w'.heap[x]?=w.heap[x]?) (hok:∀ x o,Zl2 (ℓ.h n)=some x→ok' x o→ok x o) (h:BufOK ok ℓ w n tk):BufOK ok' ℓ' w' n tk:=by
 obtain ⟨h1,h1',a,cap,h2,h3⟩:=h
 refine ⟨by rw [hh]; exact h1.chg hc,h1',a,cap,by rw [hh,h2],?_⟩
 rcases h3 with h3 | ⟨blk,cs,T,rfl,h4,h5,h6⟩
 ·exact .inl h3
 ·by_cases hcap:cap=0
  ·exact .inl hcap
  ·have hx:Zl2 (ℓ.h n)=some blk:=by rw [h2]; simp [Zl2,hcap]
   exact .inr ⟨blk,cs,T,rfl,by rw [hb blk hx,h4],h5,fun o ho hk=>h6 o ho (hok blk o hx hk)⟩

theorem ArrOK.chg {ok ok':Zas} {ℓ ℓ':Loc} {w w':World} {n:Name} {tk:Tok} (hc:Chg ok ok' w w') (hi:ℓ'.i n=ℓ.i n) (hz:ℓ'.z n=ℓ.z n)
  (hb:w'.heap[ℓ.i n]?=w.heap[ℓ.i n]?) (hok:∀ o,ok' (ℓ.i n) o→ok (ℓ.i n) o) (h:ArrOK ok ℓ w n tk):ArrOK ok' ℓ' w' n tk:=by
 obtain ⟨h0,h0',cs,T,h1,h2,h3,h4⟩:=h
 refine ⟨hz.trans h0,h0',cs,T,by rw [hi,hb,h1],h2,fun i x j y hx hy=>?_,fun o ho=>h4 o (hok o (hi ▸ ho))⟩
 obtain ⟨a,u,b,c⟩:=h3 i x j y hx hy
 exact ⟨a,u,b,c.chg hc⟩

theorem Owns.box {ℓ b k n cs} (h:lk b n=some cs):Owns ℓ b k n (ℓ.i n):=.inl ⟨by simp [h],rfl⟩
theorem Owns.arr {ℓ b k n} {tk:Tok} (h:lk k n=some tk) (ha:tk.isArr=true):Owns ℓ b k n (ℓ.i n):=.inr (.inl ⟨tk,h,ha,rfl⟩)
theorem Owns.buf {ℓ b k n x} {tk:Tok} (h:lk k n=some tk) (ha:tk.isArr=false) (hx:Zl2 (ℓ.h n)=some x):Owns ℓ b k n x:=.inr (.inr ⟨tk,h,ha,hx⟩)

theorem MemOK.frame {ok ok':Zas} {ℓ:Loc} {b:Zf} {k:Zr} {w w':World} (h:MemOK ok ℓ b k w) (hc:Chg ok ok' w w')
  (hold:∀ n x,Owns ℓ b k n x→w'.heap[x]?=w.heap[x]?) (hnew:∀ x o,ok' x o→ok x o∨∀ n,¬ Owns ℓ b k n x)
  (halive:∀ x o,ok' x o→x < w'.heap.size):MemOK ok' ℓ b k w' where
 box n cs hn:=(h.box n cs hn).chg hc (fun m _=>.refl ℓ m) rfl (hold n _ (.box hn)) (fun o ho=>(hnew _ o ho).resolve_right (fun hx=>hx n (.box hn)))
 buf n tk hn ha:=(h.buf n tk hn ha).chg hc rfl (fun x hx=>hold n x (.buf hn ha hx)) (fun x o hx ho=>(hnew _ o ho).resolve_right (fun hy=>hy n (.buf hn ha hx)))
 arr n tk hn ha:=(h.arr n tk hn ha).chg hc rfl rfl (hold n _ (.arr hn ha)) (fun o ho=>(hnew _ o ho).resolve_right (fun hx=>hx n (.arr hn ha)))
 apart:=h.apart
 distinct:=h.distinct
 alive:=halive

def Loc.setI (ℓ:Loc) (n:Name) (x:Nat):Loc:={ ℓ with i:=fun m=>if m=n then x else ℓ.i m}
def Loc.setZ (ℓ:Loc) (n:Name) (x:Nat):Loc:={ ℓ with z:=fun m=>if m=n then x else ℓ.z m}
def Loc.setH (ℓ:Loc) (n:Name) (v:Value):Loc:={ ℓ with h:=fun m=>if m=n then v else ℓ.h m}
theorem LocAt.setI {ℓ:Loc} {n m:Name} (x:Nat) (h:m≠n):LocAt ℓ (ℓ.setI n x) m:=⟨by simp [Loc.setI,h],rfl,Nat.le_refl _,fun _=>rfl⟩
theorem LocAt.setZ {ℓ:Loc} {n m:Name} (x:Nat) (h:m≠n):LocAt ℓ (ℓ.setZ n x) m:=⟨rfl,by simp [Loc.setZ,h],Nat.le_refl _,fun _=>rfl⟩
theorem LocAt.setH {ℓ:Loc} {n m:Name} (v:Value) (h:m≠n):LocAt ℓ (ℓ.setH n v) m:=⟨rfl,rfl,by simp [Loc.setH,h],fun _=>by simp [Loc.setH,h]⟩

structure Fresh (b:Zf) (k:Zr) (n:Name):Prop where
 nb:lk b n=none
 nk:lk k n=none
 nc:∀ m cs,lk b m=some cs→∀ c∈cs,¬ c.has n

theorem MemOK.loc {ok:Zas} {ℓ ℓ':Loc} {b:Zf} {k:Zr} {w:World} (h:MemOK ok ℓ b k w) {n:Name} (hf:Fresh b k n) (hl:∀ m,m≠n→ℓ'.i m=ℓ.i m∧ℓ'.z m=ℓ.z m∧ℓ'.h m=ℓ.h m) :
  MemOK ok ℓ' b k w∧∀ m x,Owns ℓ' b k m x→Owns ℓ b k m x:=by
 have hat:∀ m,m≠n→LocAt ℓ ℓ' m:=fun m hm=>⟨(hl m hm).1,(hl m hm).2.1,by rw [(hl m hm).2.2]; exact Nat.le_refl _,fun _=>(hl m hm).2.2⟩
 have hnb:∀ m cs,lk b m=some cs→m≠n:=fun m cs hm e=>by rw [e,hf.nb] at hm; cases hm
 have hnk:∀ m tk,lk k m=some tk→m≠n:=fun m cs hm e=>by rw [e,hf.nk] at hm; cases hm
 have ho:∀ m x,Owns ℓ' b k m x→Owns ℓ b k m x:=by
  intro m x hm
  rcases hm with ⟨h1,rfl⟩ | ⟨tk,h1,h2,rfl⟩ | ⟨tk,h1,h2,h3⟩
  ·obtain ⟨cs,hcs⟩:=Option.isSome_iff_exists.1 h1
   rw [(hl m (hnb m cs hcs)).1]
   exact .inl ⟨h1,rfl⟩
  ·rw [(hl m (hnk m tk h1)).1]; exact .arr h1 h2
  ·rw [(hl m (hnk m tk h1)).2.2] at h3; exact .buf h1 h2 h3
 refine ⟨⟨fun m cs hm=>?_,fun m tk hm ha=>?_,fun m tk hm ha=>?_,h.apart,fun m m' x hm hm'=>h.distinct m m' x (ho _ _ hm) (ho _ _ hm'),h.alive⟩,ho⟩
 ·exact (h.box m cs hm).chg (.refl ok w) (fun m' ⟨c,hc,hh⟩=>hat m' (fun e=>hf.nc m cs hm c hc (e ▸ hh))) (hl m (hnb m cs hm)).1 rfl (fun _ h=>h)
 ·exact (h.buf m tk hm ha).chg (.refl ok w) (hl m (hnk m tk hm)).2.2 (fun _ _=>rfl) (fun _ _ _ h=>h)
 ·exact (h.arr m tk hm ha).chg (.refl ok w) (hl m (hnk m tk hm)).1 (hl m (hnk m tk hm)).2.1 rfl (fun _ h=>h)

theorem Chg.alloc {ok:Zas} {w:World} (hal:∀ x o,ok x o→x < w.heap.size) (ob:Obj):Chg ok ok w (w.alloc ob) :=
 ⟨fun _ _ h=>h,fun x o h=>ZaO (Z2 w ob (hal x o h)) o⟩

theorem MemOK.newBox {ok:Zas} {ℓ:Loc} {b:Zf} {k:Zr} {w:World} (h:MemOK ok ℓ b k w) {n:Name} (hf:Fresh b k n) {vs:Array Value} {cs:List C} (T:TypeId)
  (hr:RCs ok ℓ w vs cs) (hn:∀ c∈cs,¬ c.has n) :
  MemOK ok (ℓ.setI n w.heap.size) ((n,cs)::b) k (w.alloc (.cells vs T))∧
   ∀ m x,Owns (ℓ.setI n w.heap.size) ((n,cs)::b) k m x→x=w.heap.size∨Owns ℓ b k m x:=by
 obtain ⟨h1,ho⟩:=h.loc (ℓ':=ℓ.setI n w.heap.size) hf (fun m hm=>⟨by simp [Loc.setI,hm],rfl,rfl⟩)
 have hc:=Chg.alloc h.alive (.cells vs T)
 have h2:=h1.frame hc (fun m x hx=>Z2 w _ (h.owned_lt (ho m x hx))) (fun x o hx=>.inl hx) (fun x o hx=>by have:=h.alive x o hx; simp; omega)
 have hown:∀ m x,Owns (ℓ.setI n w.heap.size) ((n,cs)::b) k m x→(m=n∧x=w.heap.size)∨Owns (ℓ.setI n w.heap.size) b k m x:=by
  intro m x hm
  rcases hm with ⟨h1,rfl⟩ | ⟨tk,h1,h2,rfl⟩ | ⟨tk,h1,h2,h3⟩
  ·by_cases e:m=n
   ·subst e; exact .inl ⟨rfl,by simp [Loc.setI]⟩
   ·rw [Zh _ _ (Ne.symm e)] at h1
    exact .inr (.inl ⟨h1,rfl⟩)
  ·exact .inr (.arr h1 h2)
  ·exact .inr (.buf h1 h2 h3)
 refine ⟨⟨fun m cs' hm=>?_,h2.buf,h2.arr,fun m hm=>?_,fun m m' x hm hm'=>?_,h2.alive⟩,fun m x hm=>?_⟩
 ·by_cases e:m=n
  ·subst e
   rw [Zl] at hm
   cases hm
   refine ⟨vs,T,?_,hr.chg hc (fun m' ⟨c,hc,hh⟩=>.setI _ (fun e=>hn c hc (e ▸ hh))),fun o ho=>?_⟩
   ·simp only [Loc.setI,if_pos]; exact ZbT w _
   ·simp only [Loc.setI,if_pos] at ho
    exact Nat.lt_irrefl _ (h.alive _ o ho)
  ·rw [Zh _ _ (Ne.symm e)] at hm
   exact h2.box m cs' hm
 ·by_cases e:m=n
  ·subst e; exact hf.nk
  ·rw [Zh _ _ (Ne.symm e)] at hm
   exact h.apart m hm
 ·rcases hown m x hm with ⟨e1,e2⟩ | hm <;> rcases hown m' x hm' with ⟨e1',e2'⟩ | hm'
  ·rw [e1,e1']
  ·exact absurd (h.owned_lt (ho _ _ hm')) (by omega)
  ·exact absurd (h.owned_lt (ho _ _ hm)) (by omega)
  ·exact h2.distinct m m' x hm hm'
 ·rcases hown m x hm with ⟨_,e⟩ | hm
  ·exact .inl e
  ·exact .inr (ho m x hm)

theorem MemOK.setBox {ok:Zas} {ℓ:Loc} {b:Zf} {k:Zr} {w:World} (h:MemOK ok ℓ b k w) {n:Name} {cs cs':List C} (hn:lk b n=some cs) {vs:Array Value} (T:TypeId)
  (hr:RCs ok ℓ w vs cs') :
  MemOK ok ℓ ((n,cs')::b) k (setBlk w (ℓ.i n) (.cells vs T (0,0)))∧Chg ok ok w (setBlk w (ℓ.i n) (.cells vs T (0,0)))∧∀ m x,Owns ℓ ((n,cs')::b) k m x→Owns ℓ b k m x:=by
 have hlt:=h.owned_lt (.box hn)
 have hnok:=h.not_ok_box hn
 have hc:Chg ok ok w (setBlk w (ℓ.i n) (.cells vs T (0,0))):=⟨fun _ _ h=>h,fun x o hx=>ZaO (ZG w _ (fun e=>hnok o (by rw [← e]; exact hx))) o⟩
 have hsome:∀ m,(lk ((n,cs')::b) m).isSome=true→(lk b m).isSome=true:=by
  intro m hm
  by_cases e:m=n
  ·subst e; simp [hn]
  ·rwa [Zh _ _ (Ne.symm e)] at hm
 have hown:∀ m x,Owns ℓ ((n,cs')::b) k m x→Owns ℓ b k m x:=by
  intro m x hm
  rcases hm with ⟨h1,rfl⟩ | ⟨tk,h1,h2,rfl⟩ | ⟨tk,h1,h2,h3⟩
  ·exact .inl ⟨hsome m h1,rfl⟩
  ·exact .arr h1 h2
  ·exact .buf h1 h2 h3
 have hne:∀ m x,m≠n→Owns ℓ b k m x→x≠ℓ.i n:=fun m x hm hx e=>hm (h.distinct m n x hx (e ▸ .box hn))
 refine ⟨⟨fun m cs2 hm=>?_,fun m tk hm ha=>?_,fun m tk hm ha=>?_,fun m hm=>h.apart m (hsome m hm),fun m m' x hm hm'=>h.distinct m m' x (hown _ _ hm) (hown _ _ hm'),?_⟩,hc,hown⟩
 ·by_cases e:m=n
  ·subst e
   rw [Zl] at hm
   cases hm
   exact ⟨vs,T,Zbl w _ hlt,hr.chg hc (fun m' _=>.refl ℓ m'),hnok⟩
  ·rw [Zh _ _ (Ne.symm e)] at hm
   exact (h.box m cs2 hm).chg hc (fun m' _=>.refl ℓ m') rfl (ZG w _ (hne m _ e (.box hm))) (fun _ h=>h)
 ·have e:m≠n:=fun e=>by have:=h.apart n (by simp [hn]); rw [e,this] at hm; cases hm
  exact (h.buf m tk hm ha).chg hc rfl (fun x hx=>ZG w _ (hne m x e (.buf hm ha hx))) (fun _ _ _ h=>h)
 ·have e:m≠n:=fun e=>by have:=h.apart n (by simp [hn]); rw [e,this] at hm; cases hm
  exact (h.arr m tk hm ha).chg hc rfl rfl (ZG w _ (hne m _ e (.arr hm ha))) (fun _ h=>h)
 ·intro x o hx; rw [Za8]; exact h.alive x o hx

end Go.Vam
end
section
set_option linter.unusedVariables false
set_option linter.unusedSimpArgs false
namespace Go.Vam

def Holds (ok:Zas) (w:World) (sz:Nat) (l:List D) (at_:Nat→Option Value):Prop :=
 (∀ x∈l,x.cells.length=sz)∧∀ i x j y,l[i]?=some x→x.cells[j]?=some y→y.sc=true∧∃ u,at_ (i*sz+j)=some u∧Rep ok w u y

theorem Holds.chg {ok ok':Zas} {w w':World} {sz:Nat} {l:List D} {f:Nat→Option Value} (hc:Chg ok ok' w w') (h:Holds ok w sz l f):Holds ok' w' sz l f :=
 ⟨h.1,fun i x j y hx hy=>let ⟨a,u,b,c⟩:=h.2 i x j y hx hy; ⟨a,u,b,c.chg hc⟩⟩

theorem Holds.at_eq {ok:Zas} {w:World} {sz:Nat} {l:List D} {f g:Nat→Option Value} (h:Holds ok w sz l f) (e:∀ i,i < l.length*sz→g i=f i):Holds ok w sz l g:=by
 refine ⟨h.1,fun i x j y hx hy=>?_⟩
 obtain ⟨a,u,b,c⟩:=h.2 i x j y hx hy
 refine ⟨a,u,?_,c⟩
 rw [e _ ?_,b]
 have hi:i < l.length:=(List.getElem?_eq_some_iff.1 hx).1
 have hj:j < sz:=by rw [← h.1 x (List.mem_of_getElem? hx)]; exact (List.getElem?_eq_some_iff.1 hy).1
 calc i*sz+j < i*sz+sz:=by omega
  _=(i+1)*sz:=by rw [Nat.add_mul,Nat.one_mul]
  _≤l.length*sz:=Nat.mul_le_mul_right _ hi

theorem Holds.nil (ok:Zas) (w:World) (sz:Nat) (f:Nat→Option Value):Holds ok w sz [] f:=⟨by simp,by simp⟩

theorem Holds.append {ok:Zas} {w:World} {sz:Nat} {l m:List D} {f g:Nat→Option Value} (h:Holds ok w sz l f) (h':Holds ok w sz m g) {F:Nat→Option Value}
  (e1:∀ i,i < l.length*sz→F i=f i) (e2:∀ i,i < m.length*sz→F (l.length*sz+i)=g i):Holds ok w sz (l++m) F:=by
 have h1:=h.at_eq e1
 refine ⟨fun x hx=>?_,fun i x j y hx hy=>?_⟩
 ·rcases List.mem_append.1 hx with hx | hx
  ·exact h.1 x hx
  ·exact h'.1 x hx
 ·by_cases hi:i < l.length
  ·rw [List.getElem?_append_left hi] at hx
   exact h1.2 i x j y hx hy
  ·rw [List.getElem?_append_right (by omega)] at hx
   obtain ⟨a,u,b,c⟩:=h'.2 (i - l.length) x j y hx hy
   refine ⟨a,u,?_,c⟩
   have hi':i - l.length < m.length:=(List.getElem?_eq_some_iff.1 hx).1
   have hj:j < sz:=by rw [← h'.1 x (List.mem_of_getElem? hx)]; exact (List.getElem?_eq_some_iff.1 hy).1
   have hlt:(i - l.length)*sz+j < m.length*sz:=by
    calc (i - l.length)*sz+j < (i - l.length)*sz+sz:=by omega
     _=(i - l.length+1)*sz:=by rw [Nat.add_mul,Nat.one_mul]
     _≤m.length*sz:=Nat.mul_le_mul_right _ hi'
   have:=e2 _ hlt
   rw [b] at this
   rw [← this]
   congr 1
   have:i*sz=l.length*sz+(i - l.length)*sz:=by rw [← Nat.add_mul]; congr 1; omega
   omega

theorem Rep.of_holds {ok:Zas} {w:World} {sz:Nat} {l:List D} {blk o cap:Nat} (hcap:l.length≤cap) (h:Holds ok w sz l (fun i=>w.cell? ⟨blk,o+i,none⟩))
  (hok:∀ i,i < l.length*sz→ok blk (o+i)):Rep ok w (.slice (some ⟨blk,o,none⟩) l.length cap) (.list l):=by
 refine .list blk o cap sz l (fun i j=>(w.cell? ⟨blk,o+(i*sz+j),none⟩).getD default) hcap h.1 (fun i x j y hx hy=>?_) (fun i x j y hx hy=>?_)
 ·obtain ⟨a,u,b,c⟩:=h.2 i x j y hx hy
  have hi:i < l.length:=(List.getElem?_eq_some_iff.1 hx).1
  have hj:j < sz:=by rw [← h.1 x (List.mem_of_getElem? hx)]; exact (List.getElem?_eq_some_iff.1 hy).1
  have hlt:i*sz+j < l.length*sz:=by
   calc i*sz+j < i*sz+sz:=by omega
    _=(i+1)*sz:=by rw [Nat.add_mul,Nat.one_mul]
    _≤l.length*sz:=Nat.mul_le_mul_right _ hi
  have e:o+i*sz+j=o+(i*sz+j):=by omega
  rw [e]
  refine ⟨a,hok _ hlt,?_⟩
  simp only at b
  rw [b]; rfl
 ·obtain ⟨a,u,b,c⟩:=h.2 i x j y hx hy
  simp only at b
  rw [b]; exact c

theorem Rep.holds {ok:Zas} {w:World} {l:List D} {v:Value} (h:Rep ok w v (.list l)):∃ a cap,v=.slice a l.length cap∧(l=[]∨∃ blk o sz,a=some ⟨blk,o,none⟩∧l.length≤cap∧
  Holds ok w sz l (fun i=>w.cell? ⟨blk,o+i,none⟩)∧∀ i,i < l.length*sz→ok blk (o+i)):=by
 obtain ⟨a,cap,hv,h⟩:=h.list_inv
 refine ⟨a,cap,hv,?_⟩
 rcases h with h | ⟨blk,o,sz,u,ha,hcap,hu,hall⟩
 ·exact .inl h
 ·refine .inr ⟨blk,o,sz,ha,hcap,⟨hu,fun i x j y hx hy=>?_⟩,fun i hi=>?_⟩
  ·obtain ⟨h1,h2,h3,h4⟩:=hall i x j y hx hy
   refine ⟨h1,_,?_,h4⟩
   show w.cell? ⟨blk,o+(i*sz+j),none⟩=_
   rw [← Nat.add_assoc]; exact h3
  ·have hsz:0 < sz:=by
    rcases Nat.eq_zero_or_pos sz with e | e
    ·rw [e,Nat.mul_zero] at hi; omega
    ·exact e
   have hq:i / sz < l.length:=Nat.div_lt_of_lt_mul (by rw [Nat.mul_comm]; exact hi)
   have hx:l[i / sz]?=some l[i / sz]:=List.getElem?_eq_getElem hq
   have hm:i % sz < (l[i / sz]).cells.length:=by rw [hu _ (List.getElem_mem hq)]; exact Nat.mod_lt _ hsz
   have:=(hall (i / sz) _ (i % sz) _ hx (List.getElem?_eq_getElem hm)).2.1
   have e:o+i / sz*sz+i % sz=o+i:=by have:=Nat.div_add_mod i sz; rw [Nat.mul_comm] at this; omega
   rwa [e] at this

def ZkE (ok:Zas) (blk lo hi:Nat):Zas:=fun x o=>ok x o∨(x=blk∧lo≤o∧o < hi)

theorem Chg.row {ok:Zas} {w:World} (hal:∀ x o,ok x o→x < w.heap.size) (blk lo hi:Nat) (ob:Obj):Chg ok (ZkE ok blk lo hi) w (w.alloc ob) :=
 ⟨fun _ _ h=>.inl h,fun x o h=>ZaO (Z2 w ob (hal x o h)) o⟩

theorem MemOK.newRow {ok:Zas} {ℓ:Loc} {b:Zf} {k:Zr} {w:World} (h:MemOK ok ℓ b k w) (ob:Obj) (hi:Nat) :
  MemOK (ZkE ok w.heap.size 0 hi) ℓ b k (w.alloc ob):=by
 refine h.frame (Chg.row h.alive _ _ _ ob) (fun n x hx=>Z2 w ob (h.owned_lt hx)) (fun x o hx=>?_) (fun x o hx=>?_)
 ·rcases hx with hx | ⟨rfl,_⟩
  ·exact .inl hx
  ·exact .inr fun n hn=>Nat.lt_irrefl _ (h.owned_lt hn)
 ·rcases hx with hx | ⟨rfl,_⟩
  ·have:=h.alive x o hx; simp; omega
  ·simp

theorem Rep.newRow {ok:Zas} {w:World} (hal:∀ x o,ok x o→x < w.heap.size) {sz:Nat} {l:List D} {cs:Array Value} (T:TypeId) {cap:Nat} (hcap:l.length≤cap) (h:Holds ok w sz l (fun i=>cs[i]?)) :
  Rep (ZkE ok w.heap.size 0 (l.length*sz)) (w.alloc (.cells cs T)) (.slice (some ⟨w.heap.size,0,none⟩) l.length cap) (.list l):=by
 refine Rep.of_holds (sz:=sz) hcap ?_ (fun i hi=>.inr ⟨rfl,by omega,by omega⟩)
 refine (h.chg (Chg.row hal _ _ _ _)).at_eq (fun i hi=>?_)
 rw [Nat.zero_add]
 exact Zam (ZbT w _) i

theorem MemOK.newBuf {ok:Zas} {ℓ:Loc} {b:Zf} {k:Zr} {w:World} (h:MemOK ok ℓ b k w) {n:Name} {sz:Nat} {l:List D} {cs:Array Value} (T:TypeId) {cap:Nat}
  (hcap:l.length≤cap) (hcs:cs.size=cap*sz) (hh:Holds ok w sz l (fun i=>cs[i]?)) (hnb:lk b n=none) (hnk:∀ tk,lk k n=some tk→tk.isArr=false)
  (hl:∀ m cs,lk b m=some cs→∀ c∈cs,c.has n→LocAt ℓ (ℓ.setH n (.slice (some ⟨w.heap.size,0,none⟩) l.length cap)) n) :
  MemOK (ZkE ok w.heap.size 0 (l.length*sz)) (ℓ.setH n (.slice (some ⟨w.heap.size,0,none⟩) l.length cap)) b ((n,⟨false,sz,l⟩)::k) (w.alloc (.cells cs T))∧
   ∀ m x,Owns (ℓ.setH n (.slice (some ⟨w.heap.size,0,none⟩) l.length cap)) b ((n,⟨false,sz,l⟩)::k) m x→x=w.heap.size∨Owns ℓ b k m x:=by
 have hc:=Chg.row h.alive w.heap.size 0 (l.length*sz) (.cells cs T)
 have hrep:=Rep.newRow h.alive T hcap hh
 generalize hℓ:ℓ.setH n (.slice (some ⟨w.heap.size,0,none⟩) l.length cap)=ℓ' at *
 have hi:∀ m,ℓ'.i m=ℓ.i m:=by subst hℓ; exact fun _=>rfl
 have hz:∀ m,ℓ'.z m=ℓ.z m:=by subst hℓ; exact fun _=>rfl
 have hn:ℓ'.h n=.slice (some ⟨w.heap.size,0,none⟩) l.length cap:=by subst hℓ; simp [Loc.setH]
 have hne:∀ m,m≠n→ℓ'.h m=ℓ.h m:=by subst hℓ; intro m hm; simp [Loc.setH,hm]
 have hat:∀ m,m≠n→LocAt ℓ ℓ' m:=by subst hℓ; exact fun m hm=>.setH _ hm
 have hown:∀ m x,Owns ℓ' b ((n,⟨false,sz,l⟩)::k) m x→(m=n∧x=w.heap.size)∨(m≠n∧Owns ℓ b k m x):=by
  intro m x hm
  rcases hm with ⟨h1,rfl⟩ | ⟨tk,h1,h2,rfl⟩ | ⟨tk,h1,h2,h3⟩
  ·have e:m≠n:=fun e=>by rw [e,hnb] at h1; cases h1
   exact .inr ⟨e,.inl ⟨h1,hi m⟩⟩
  ·by_cases e:m=n
   ·subst e; rw [Zl] at h1; cases h1; cases h2
   ·rw [Zh _ _ (Ne.symm e)] at h1
    exact .inr ⟨e,.inr (.inl ⟨tk,h1,h2,hi m⟩)⟩
  ·by_cases e:m=n
   ·subst e
    rw [hn] at h3
    simp [Zl2] at h3
    exact .inl ⟨rfl,h3.2.symm⟩
   ·rw [Zh _ _ (Ne.symm e)] at h1
    rw [hne m e] at h3
    exact .inr ⟨e,.buf h1 h2 h3⟩
 have hold:∀ m x,Owns ℓ b k m x→(w.alloc (.cells cs T)).heap[x]?=w.heap[x]?:=fun m x hx=>Z2 w _ (h.owned_lt hx)
 have hok:∀ m x o,Owns ℓ b k m x→ZkE ok w.heap.size 0 (l.length*sz) x o→ok x o:=fun m x o hx ho=>by
  rcases ho with ho | ⟨rfl,_⟩
  ·exact ho
  ·exact absurd (h.owned_lt hx) (Nat.lt_irrefl _)
 refine ⟨⟨fun m cs' hm=>?_,fun m tk hm ha=>?_,fun m tk hm ha=>?_,fun m hm=>?_,fun m m' x hm hm'=>?_,fun x o hx=>?_⟩,fun m x hm=>?_⟩
 ·refine (h.box m cs' hm).chg hc (fun m' ⟨c,hc,hh⟩=>?_) (hi m) (hold m _ (.box hm)) (fun o ho=>hok m _ o (.box hm) ho)
  by_cases e:m'=n
  ·rw [e] at hh ⊢; exact hl m cs' hm c hc hh
  ·exact hat m' e
 ·by_cases e:m=n
  ·subst e
   rw [Zl] at hm
   cases hm
   refine ⟨by rw [hn]; exact hrep,hh.1,some ⟨w.heap.size,0,none⟩,cap,hn,?_⟩
   by_cases hc0:cap=0
   ·exact .inl hc0
   ·refine .inr ⟨w.heap.size,cs,T,rfl,ZbT w _,hcs,fun o ho hk=>?_⟩
    rcases hk with hk | ⟨_,_,hk⟩
    ·exact Nat.lt_irrefl _ (h.alive _ o hk)
    ·simp only at ho; omega
  ·rw [Zh _ _ (Ne.symm e)] at hm
   exact (h.buf m tk hm ha).chg hc (hne m e) (fun x hx=>hold m x (.buf hm ha hx)) (fun x o hx ho=>hok m x o (.buf hm ha hx) ho)
 ·have e:m≠n:=fun e=>by subst e; rw [Zl] at hm; cases hm; cases ha
  rw [Zh _ _ (Ne.symm e)] at hm
  exact (h.arr m tk hm ha).chg hc (hi m) (hz m) (hold m _ (.arr hm ha)) (fun o ho=>hok m _ o (.arr hm ha) ho)
 ·have e:m≠n:=fun e=>by rw [e,hnb] at hm; cases hm
  rw [Zh _ _ (Ne.symm e)]
  exact h.apart m hm
 ·rcases hown m x hm with ⟨e1,e2⟩ | ⟨e1,hm⟩ <;> rcases hown m' x hm' with ⟨e1',e2'⟩ | ⟨e1',hm'⟩
  ·rw [e1,e1']
  ·exact absurd (h.owned_lt hm') (by omega)
  ·exact absurd (h.owned_lt hm) (by omega)
  ·exact h.distinct m m' x hm hm'
 ·rcases hx with hx | ⟨rfl,_⟩
  ·have:=h.alive x o hx; simp; omega
  ·simp
 ·rcases hown m x hm with ⟨_,e⟩ | ⟨_,hm⟩
  ·exact .inl e
  ·exact .inr hm

theorem MemOK.grow {ok:Zas} {ℓ:Loc} {b:Zf} {k:Zr} {w:World} (h:MemOK ok ℓ b k w) {n:Name} {tk:Tok} (hn:lk k n=some tk) (ha:tk.isArr=false)
  {blk cap:Nat} {cs:Array Value} {T:TypeId} (hhan:ℓ.h n=.slice (some ⟨blk,0,none⟩) tk.l.length cap) (hc0:cap≠0) (hrow:w.heap[blk]?=some (.cells cs T (0,0)))
  (hcs:cs.size=cap*tk.sz) {m:List D} {us:List Value} (hus:us.length=m.length*tk.sz) (hm:Holds ok w tk.sz m (fun i=>us[i]?)) (hfit:tk.l.length+m.length≤cap) :
  let w':=setBlk w blk (.cells (ZP cs (tk.l.length*tk.sz) us) T (0,0))
  let ℓ':=ℓ.setH n (.slice (some ⟨blk,0,none⟩) (tk.l.length+m.length) cap)
  let ok':=ZkE ok blk (tk.l.length*tk.sz) ((tk.l.length+m.length)*tk.sz)
  MemOK ok' ℓ' b ((n,⟨false,tk.sz,tk.l++m⟩)::k) w'∧Chg ok ok' w w'∧(∀ x y,Owns ℓ' b ((n,⟨false,tk.sz,tk.l++m⟩)::k) x y→Owns ℓ b k x y)∧LocAt ℓ ℓ' n:=by
 intro w' ℓ' ok'
 have hblkn:Zl2 (ℓ.h n)=some blk:=by rw [hhan]; simp [Zl2,hc0]
 have hlt:blk < w.heap.size:=Z8 hrow
 obtain ⟨hrep,huni,a0,cap0,hh0,hspare0⟩:=h.buf n tk hn ha
 rw [hhan] at hh0
 simp only [Value.slice.injEq] at hh0
 obtain ⟨rfl,-,rfl⟩:=hh0
 have hspare:∀ o,tk.l.length*tk.sz≤o→¬ ok blk o:=by
  rcases hspare0 with e | ⟨blk',cs',T',e1,_,_,e4⟩
  ·exact absurd e hc0
  ·simp only [Option.some.injEq,Addr.mk.injEq,and_true] at e1
   exact fun o ho=>e1.symm ▸ e4 o ho
 have hmulle:(tk.l.length+m.length)*tk.sz=tk.l.length*tk.sz+m.length*tk.sz:=Nat.add_mul _ _ _
 have hcap':(tk.l.length+m.length)*tk.sz≤cs.size:=by rw [hcs]; exact Nat.mul_le_mul_right _ hfit
 have hrow':w'.heap[blk]?=some (.cells (ZP cs (tk.l.length*tk.sz) us) T (0,0)):=Zbl w _ hlt
 have hchg:Chg ok ok' w w':=by
  refine ⟨fun _ _ h=>.inl h,fun x o hx=>?_⟩
  by_cases e:x=blk
  ·subst e
   have ho:o < tk.l.length*tk.sz:=by
    rcases Nat.lt_or_ge o (tk.l.length*tk.sz) with h | h
    ·exact h
    ·exact absurd hx (hspare o h)
   rw [Zam hrow',Zam hrow,Za7 _ _ _ _ (.inl ho)]
  ·exact ZaO (ZG w _ e) o
 have hat:LocAt ℓ ℓ' n:=by
  refine ⟨rfl,rfl,by rw [hhan]; simp [ℓ',Loc.setH,hlen],fun e=>?_⟩
  rw [hhan] at e ⊢
  simp only [ℓ',Loc.setH,if_pos,hlen] at e ⊢
  rw [← e]
 have hall:∀ m',LocAt ℓ ℓ' m':=fun m'=>by
  by_cases e:m'=n
  ·rw [e]; exact hat
  ·exact .setH _ e
 have hown:∀ x y,Owns ℓ' b ((n,⟨false,tk.sz,tk.l++m⟩)::k) x y→Owns ℓ b k x y:=by
  intro x y hx
  rcases hx with ⟨h1,rfl⟩ | ⟨t,h1,h2,rfl⟩ | ⟨t,h1,h2,h3⟩
  ·exact .inl ⟨h1,rfl⟩
  ·by_cases e:x=n
   ·subst e; rw [Zl] at h1; cases h1; cases h2
   ·rw [Zh _ _ (Ne.symm e)] at h1
    exact .arr h1 h2
  ·by_cases e:x=n
   ·subst e
    simp only [ℓ',Loc.setH,if_pos,Zl2,hc0,if_false,Option.some.injEq] at h3
    rw [← h3]
    exact .buf hn ha hblkn
   ·rw [Zh _ _ (Ne.symm e)] at h1
    simp only [ℓ',Loc.setH,if_neg e] at h3
    exact .buf h1 h2 h3
 have hne:∀ x y,x≠n→Owns ℓ b k x y→y≠blk:=fun x y hx hy e=>hx (h.distinct x n y hy (e ▸ .buf hn ha hblkn))
 have hkeep:∀ x y,x≠n→Owns ℓ b k x y→w'.heap[y]?=w.heap[y]?:=fun x y hx hy=>ZG w _ (hne x y hx hy)
 have hokk:∀ x y o,x≠n→Owns ℓ b k x y→ok' y o→ok y o:=fun x y o hx hy ho=>by
  rcases ho with ho | ⟨e,_⟩
  ·exact ho
  ·exact absurd e (hne x y hx hy)
 refine ⟨⟨fun x cs' hx=>?_,fun x t hx hat'=>?_,fun x t hx hat'=>?_,fun x hx=>?_,fun x x' y hx hx'=>h.distinct x x' y (hown _ _ hx) (hown _ _ hx'),fun x o hx=>?_⟩,hchg,hown,hat⟩
 ·have e:x≠n:=fun e=>by have:=h.apart x (by simp [hx]); rw [e,hn] at this; cases this
  exact (h.box x cs' hx).chg hchg (fun m' _=>hall m') rfl (hkeep x _ e (.box hx)) (fun o ho=>hokk x _ o e (.box hx) ho)
 ·by_cases e:x=n
  ·subst e
   rw [Zl] at hx
   cases hx
   have hholds:Holds ok' w' tk.sz (tk.l++m) (fun i=>w'.cell? ⟨blk,0+i,none⟩):=by
    obtain ⟨a2,cap2,hv2,h2⟩:=hrep.holds
    rw [hhan] at hv2
    simp only [Value.slice.injEq] at hv2
    obtain ⟨rfl,-,rfl⟩:=hv2
    have hl1:Holds ok' w' tk.sz tk.l (fun i=>w.cell? ⟨blk,0+i,none⟩):=by
     rcases h2 with e | ⟨blk2,o2,sz2,e1,_,h5,_⟩
     ·rw [e]; exact Holds.nil _ _ _ _
     ·simp only [Option.some.injEq,Addr.mk.injEq,and_true] at e1
      obtain ⟨rfl,rfl⟩:=e1
      have:tk.l=[]∨sz2=tk.sz:=by
       cases hll:tk.l with
       | nil=>exact .inl rfl
       | cons y ys=>exact .inr (by rw [← h5.1 y (by simp [hll]),huni y (by simp [hll])])
      rcases this with e | rfl
      ·rw [e]; exact Holds.nil _ _ _ _
      ·exact h5.chg hchg
    refine hl1.append (hm.chg hchg) (fun i hi=>?_) (fun i hi=>?_)
    ·simp only [Nat.zero_add]
     rw [Zam hrow',Zam hrow,Za7 _ _ _ _ (.inl hi)]
    ·simp only [Nat.zero_add]
     rw [Zam hrow',ZdN _ _ _ _ (by omega) (by omega)]
   refine ⟨?_,hholds.1,some ⟨blk,0,none⟩,cap,by simp [ℓ',Loc.setH],.inr ⟨blk,_,T,rfl,hrow',by rw [ZbH,hcs],fun o ho hk=>?_⟩⟩
   ·have:=Rep.of_holds (cap:=cap) (by rw [List.length_append]; exact hfit) hholds (fun i hi=>?_)
    ·simpa [ℓ',Loc.setH] using this
    ·rw [List.length_append] at hi
     rcases Nat.lt_or_ge i (tk.l.length*tk.sz) with h' | h'
     ·left
      obtain ⟨a2,cap2,hv2,h2⟩:=hrep.holds
      rw [hhan] at hv2
      simp only [Value.slice.injEq] at hv2
      obtain ⟨rfl,-,rfl⟩:=hv2
      rcases h2 with e | ⟨blk2,o2,sz2,e1,_,h5,h6⟩
      ·rw [e] at h'; simp at h'
      ·simp only [Option.some.injEq,Addr.mk.injEq,and_true] at e1
       obtain ⟨rfl,rfl⟩:=e1
       have hy:sz2=tk.sz:=by
        cases hll:tk.l with
        | nil=>rw [hll] at h'; simp at h'
        | cons y ys=>rw [← h5.1 y (by simp [hll]),huni y (by simp [hll])]
       rw [← hy] at h'
       exact h6 i h'
     ·right
      refine ⟨rfl,?_,?_⟩ <;> omega
   ·simp only [List.length_append] at ho
    rcases hk with hk | ⟨_,_,hk⟩
    ·exact hspare o (by omega) hk
    ·omega
  ·rw [Zh _ _ (Ne.symm e)] at hx
   exact (h.buf x t hx hat').chg hchg (by simp [ℓ',Loc.setH,e]) (fun y hy=>hkeep x y e (.buf hx hat' hy)) (fun y o hy ho=>hokk x y o e (.buf hx hat' hy) ho)
 ·have e:x≠n:=fun e=>by subst e; rw [Zl] at hx; cases hx; cases hat'
  rw [Zh _ _ (Ne.symm e)] at hx
  exact (h.arr x t hx hat').chg hchg rfl rfl (hkeep x _ e (.arr hx hat')) (fun o ho=>hokk x _ o e (.arr hx hat') ho)
 ·have e:x≠n:=fun e=>by have:=h.apart x hx; rw [e,hn] at this; cases this
  rw [Zh _ _ (Ne.symm e)]
  exact h.apart x hx
 ·show x < (setBlk _ _ _).heap.size
  rw [Za8]
  rcases hx with hx | ⟨rfl,_⟩
  ·exact h.alive x o hx
  ·exact hlt

end Go.Vam
end
section
set_option linter.unusedVariables false
set_option linter.unusedSimpArgs false
namespace Go.Vam

theorem MemOK.newArr {ok:Zas} {ℓ:Loc} {b:Zf} {k:Zr} {w:World} (h:MemOK ok ℓ b k w) {n:Name} (hf:Fresh b k n) {sz:Nat} {l:List D} {cs:Array Value} (T:TypeId)
  (hcs:l.length*sz≤cs.size) (hh:Holds ok w sz l (fun i=>cs[i]?)) :
  MemOK ok ((ℓ.setI n w.heap.size).setZ n sz) b ((n,⟨true,sz,l⟩)::k) (w.alloc (.cells cs T))∧
   ∀ m x,Owns ((ℓ.setI n w.heap.size).setZ n sz) b ((n,⟨true,sz,l⟩)::k) m x→x=w.heap.size∨Owns ℓ b k m x:=by
 have hc:=Chg.alloc h.alive (.cells cs T)
 generalize hℓ:(ℓ.setI n w.heap.size).setZ n sz=ℓ' at *
 have hi:∀ m,m≠n→ℓ'.i m=ℓ.i m:=by subst hℓ; intro m hm; simp [Loc.setI,Loc.setZ,hm]
 have hz:∀ m,m≠n→ℓ'.z m=ℓ.z m:=by subst hℓ; intro m hm; simp [Loc.setI,Loc.setZ,hm]
 have hhh:∀ m,ℓ'.h m=ℓ.h m:=by subst hℓ; exact fun _=>rfl
 have hin:ℓ'.i n=w.heap.size:=by subst hℓ; simp [Loc.setI,Loc.setZ]
 have hzn:ℓ'.z n=sz:=by subst hℓ; simp [Loc.setI,Loc.setZ]
 have hat:∀ m,m≠n→LocAt ℓ ℓ' m:=fun m hm=>⟨hi m hm,hz m hm,by rw [hhh]; exact Nat.le_refl _,fun _=>hhh m⟩
 obtain ⟨h1,ho⟩:=h.loc (ℓ':=ℓ') hf (fun m hm=>⟨hi m hm,hz m hm,hhh m⟩)
 have h2:=h1.frame hc (fun m x hx=>Z2 w _ (h.owned_lt (ho m x hx))) (fun x o hx=>.inl hx) (fun x o hx=>by have:=h.alive x o hx; simp; omega)
 have hown:∀ m x,Owns ℓ' b ((n,⟨true,sz,l⟩)::k) m x→(m=n∧x=w.heap.size)∨Owns ℓ' b k m x:=by
  intro m x hm
  rcases hm with ⟨h1,rfl⟩ | ⟨tk,h1,h2,rfl⟩ | ⟨tk,h1,h2,h3⟩
  ·exact .inr (.inl ⟨h1,rfl⟩)
  ·by_cases e:m=n
   ·subst e; exact .inl ⟨rfl,hin⟩
   ·rw [Zh _ _ (Ne.symm e)] at h1
    exact .inr (.arr h1 h2)
  ·by_cases e:m=n
   ·subst e; rw [Zl] at h1; cases h1; cases h2
   ·rw [Zh _ _ (Ne.symm e)] at h1
    exact .inr (.buf h1 h2 h3)
 refine ⟨⟨h2.box,fun m tk hm ha=>?_,fun m tk hm ha=>?_,fun m hm=>?_,fun m m' x hm hm'=>?_,h2.alive⟩,fun m x hm=>?_⟩
 ·have e:m≠n:=fun e=>by subst e; rw [Zl] at hm; cases hm; cases ha
  rw [Zh _ _ (Ne.symm e)] at hm
  exact h2.buf m tk hm ha
 ·by_cases e:m=n
  ·subst e
   rw [Zl] at hm
   cases hm
   refine ⟨hzn,hh.1,cs,T,by rw [hin]; exact ZbT w _,hcs,(hh.chg hc).2,fun o ho=>?_⟩
   rw [hin] at ho
   exact Nat.lt_irrefl _ (h.alive _ o ho)
  ·rw [Zh _ _ (Ne.symm e)] at hm
   exact h2.arr m tk hm ha
 ·have e:m≠n:=fun e=>by rw [e,hf.nb] at hm; cases hm
  rw [Zh _ _ (Ne.symm e)]
  exact h.apart m hm
 ·rcases hown m x hm with ⟨e1,e2⟩ | hm <;> rcases hown m' x hm' with ⟨e1',e2'⟩ | hm'
  ·rw [e1,e1']
  ·exact absurd (h.owned_lt (ho _ _ hm')) (by omega)
  ·exact absurd (h.owned_lt (ho _ _ hm)) (by omega)
  ·exact h2.distinct m m' x hm hm'
 ·rcases hown m x hm with ⟨_,e⟩ | hm
  ·exact .inl e
  ·exact .inr (ho m x hm)

theorem MemOK.setArr {ok:Zas} {ℓ:Loc} {b:Zf} {k:Zr} {w:World} (h:MemOK ok ℓ b k w) {n:Name} {tk:Tok} (hn:lk k n=some tk) (ha:tk.isArr=true)
  {l':List D} {cs:Array Value} {T:TypeId} (hlen:l'.length=tk.l.length) (hcs:tk.l.length*tk.sz≤cs.size) (hh:Holds ok w tk.sz l' (fun i=>cs[i]?)) :
  MemOK ok ℓ b ((n,⟨true,tk.sz,l'⟩)::k) (setBlk w (ℓ.i n) (.cells cs T (0,0)))∧Chg ok ok w (setBlk w (ℓ.i n) (.cells cs T (0,0)))∧
   ∀ m x,Owns ℓ b ((n,⟨true,tk.sz,l'⟩)::k) m x→Owns ℓ b k m x:=by
 have hlt:=h.owned_lt (.arr hn ha)
 obtain ⟨hz,_,cs0,T0,hr0,hs0,hold0,hnok⟩:=h.arr n tk hn ha
 have hc:Chg ok ok w (setBlk w (ℓ.i n) (.cells cs T (0,0))):=⟨fun _ _ h=>h,fun x o hx=>ZaO (ZG w _ (fun e=>hnok o (by rw [← e]; exact hx))) o⟩
 have hown:∀ m x,Owns ℓ b ((n,⟨true,tk.sz,l'⟩)::k) m x→Owns ℓ b k m x:=by
  intro m x hm
  rcases hm with ⟨h1,rfl⟩ | ⟨t,h1,h2,rfl⟩ | ⟨t,h1,h2,h3⟩
  ·exact .inl ⟨h1,rfl⟩
  ·by_cases e:m=n
   ·subst e; exact .arr hn ha
   ·rw [Zh _ _ (Ne.symm e)] at h1; exact .arr h1 h2
  ·by_cases e:m=n
   ·subst e; rw [Zl] at h1; cases h1; cases h2
   ·rw [Zh _ _ (Ne.symm e)] at h1; exact .buf h1 h2 h3
 have hne:∀ m x,m≠n→Owns ℓ b k m x→x≠ℓ.i n:=fun m x hm hx e=>hm (h.distinct m n x hx (e ▸ .arr hn ha))
 refine ⟨⟨fun m cs2 hm=>?_,fun m t hm ha'=>?_,fun m t hm ha'=>?_,fun m hm=>?_,fun m m' x hm hm'=>h.distinct m m' x (hown _ _ hm) (hown _ _ hm'),?_⟩,hc,hown⟩
 ·have e:m≠n:=fun e=>by have:=h.apart m (by simp [hm]); rw [e,hn] at this; cases this
  exact (h.box m cs2 hm).chg hc (fun m' _=>.refl ℓ m') rfl (ZG w _ (hne m _ e (.box hm))) (fun _ h=>h)
 ·have e:m≠n:=fun e=>by subst e; rw [Zl] at hm; cases hm; cases ha'
  rw [Zh _ _ (Ne.symm e)] at hm
  exact (h.buf m t hm ha').chg hc rfl (fun x hx=>ZG w _ (hne m x e (.buf hm ha' hx))) (fun _ _ _ h=>h)
 ·by_cases e:m=n
  ·subst e
   rw [Zl] at hm
   cases hm
   exact ⟨hz,hh.1,cs,T,Zbl w _ hlt,by rw [hlen]; exact hcs,(hh.chg hc).2,hnok⟩
  ·rw [Zh _ _ (Ne.symm e)] at hm
   exact (h.arr m t hm ha').chg hc rfl rfl (ZG w _ (hne m _ e (.arr hm ha'))) (fun _ h=>h)
 ·have e:m≠n:=fun e=>by have:=h.apart m hm; rw [e,hn] at this; cases this
  rw [Zh _ _ (Ne.symm e)]
  exact h.apart m hm
 ·intro x o hx; rw [Za8]; exact h.alive x o hx

theorem MemOK.freezeArr {ok:Zas} {ℓ:Loc} {b:Zf} {k:Zr} {w:World} (h:MemOK ok ℓ b k w) {n:Name} {tk:Tok} (hn:lk k n=some tk) (ha:tk.isArr=true) :
  MemOK (fun x o=>ok x o∨x=ℓ.i n) ℓ b (rm k n) w∧(∀ capA,tk.l.length≤capA→Rep (fun x o=>ok x o∨x=ℓ.i n) w (.slice (some ⟨ℓ.i n,0,none⟩) tk.l.length capA) (.list tk.l))∧
   ∀ m x,Owns ℓ b (rm k n) m x→Owns ℓ b k m x:=by
 obtain ⟨hz,huni,cs0,T0,hr0,hs0,hold0,hnok⟩:=h.arr n tk hn ha
 have hc:Chg ok (fun x o=>ok x o∨x=ℓ.i n) w w:=⟨fun _ _ h=>.inl h,fun _ _ _=>rfl⟩
 have hk:∀ m t,lk (rm k n) m=some t→m≠n∧lk k m=some t:=by
  intro m t hm
  by_cases e:m=n
  ·subst e; rw [ZhG] at hm; cases hm
  ·rw [Zfp _ e] at hm; exact ⟨e,hm⟩
 have hown:∀ m x,Owns ℓ b (rm k n) m x→Owns ℓ b k m x∧m≠n:=by
  intro m x hm
  rcases hm with ⟨h1,rfl⟩ | ⟨t,h1,h2,rfl⟩ | ⟨t,h1,h2,h3⟩
  ·exact ⟨.inl ⟨h1,rfl⟩,fun e=>by have:=h.apart m h1; rw [e,hn] at this; cases this⟩
  ·exact ⟨.arr (hk m t h1).2 h2,(hk m t h1).1⟩
  ·exact ⟨.buf (hk m t h1).2 h2 h3,(hk m t h1).1⟩
 have hne:∀ m x,m≠n→Owns ℓ b k m x→x≠ℓ.i n:=fun m x hm hx e=>hm (h.distinct m n x hx (e ▸ .arr hn ha))
 refine ⟨⟨fun m cs hm=>?_,fun m t hm ha'=>?_,fun m t hm ha'=>?_,fun m hm=>?_,fun m m' x hm hm'=>h.distinct m m' x (hown _ _ hm).1 (hown _ _ hm').1,?_⟩,?_,fun m x hm=>(hown m x hm).1⟩
 ·have e:m≠n:=fun e=>by have:=h.apart m (by simp [hm]); rw [e,hn] at this; cases this
  exact (h.box m cs hm).chg hc (fun m' _=>.refl ℓ m') rfl rfl (fun o ho=>ho.resolve_right (hne m _ e (.box hm)))
 ·obtain ⟨e,hm⟩:=hk m t hm
  exact (h.buf m t hm ha').chg hc rfl (fun _ _=>rfl) (fun x o hx ho=>ho.resolve_right (hne m x e (.buf hm ha' hx)))
 ·obtain ⟨e,hm⟩:=hk m t hm
  exact (h.arr m t hm ha').chg hc rfl rfl rfl (fun o ho=>ho.resolve_right (hne m _ e (.arr hm ha')))
 ·by_cases e:m=n
  ·rw [e]; exact ZhG _ _
  ·rw [Zfp _ e]; exact h.apart m hm
 ·intro x o hx
  rcases hx with hx | rfl
  ·exact h.alive x o hx
  ·exact Z8 hr0
 ·intro capA hcA
  refine Rep.of_holds (sz:=tk.sz) hcA ?_ (fun i hi=>.inr rfl)
  refine (Holds.chg hc ⟨huni,hold0⟩).at_eq (fun i hi=>?_)
  rw [Nat.zero_add]
  exact Zam hr0 i

theorem ZbU {κ α:Type} [DecidableEq κ] (l m:List (κ×α)) (x:κ):lk (l++m) x=(lk l x).or (lk m x):=by
 induction l with
 | nil=>rfl
 | cons p l ih =>
  obtain ⟨k,v⟩:=p
  by_cases h:k=x
  ·simp [lk,h]
  ·simp only [List.cons_append,Zh _ _ h,ih]

theorem MemOK.part {ok:Zas} {ℓ:Loc} {b b0:Zf} {k k0:Zr} {w:World} (h:MemOK ok ℓ b k w) (hb:∀ n cs,lk b0 n=some cs→lk b n=some cs) (hk:∀ n t,lk k0 n=some t→lk k n=some t) :
  MemOK ok ℓ b0 k0 w∧∀ n x,Owns ℓ b0 k0 n x→Owns ℓ b k n x:=by
 have hown:∀ n x,Owns ℓ b0 k0 n x→Owns ℓ b k n x:=by
  intro n x hn
  rcases hn with ⟨h1,rfl⟩ | ⟨t,h1,h2,rfl⟩ | ⟨t,h1,h2,h3⟩
  ·obtain ⟨cs,hcs⟩:=Option.isSome_iff_exists.1 h1
   exact .box (hb n cs hcs)
  ·exact .arr (hk n t h1) h2
  ·exact .buf (hk n t h1) h2 h3
 refine ⟨⟨fun n cs hn=>h.box n cs (hb n cs hn),fun n t hn=>h.buf n t (hk n t hn),fun n t hn=>h.arr n t (hk n t hn),fun n hn=>?_,fun n m x hn hm=>h.distinct n m x (hown _ _ hn) (hown _ _ hm),h.alive⟩,hown⟩
 obtain ⟨cs,hcs⟩:=Option.isSome_iff_exists.1 hn
 have:=h.apart n (by simp [hb n cs hcs])
 cases hk0:lk k0 n with
 | none=>rfl
 | some t=>rw [hk n t hk0] at this; cases this

def Zj5 (b b':Zf) (k k':Zr) (n:Name):Prop:=lk b n=none∧lk k n=none∧((lk b' n).isSome=true∨(lk k' n).isSome=true)

theorem MemOK.merge {ok ok':Zas} {ℓ ℓ':Loc} {b b0 b':Zf} {k k0 k':Zr} {w w':World} (h:MemOK ok ℓ b k w)
  (hb:∀ n cs,lk b0 n=some cs→lk b n=some cs) (hk:∀ n t,lk k0 n=some t→lk k n=some t) (h':MemOK ok' ℓ' b' k' w')
  (hbp:∀ n,(lk b0 n).isSome=true→(lk b' n).isSome=true) (hkp:∀ n,(lk k0 n).isSome=true→(lk k' n).isSome=true)
  (hext:Ext (fun x=>∃ n,Owns ℓ b0 k0 n x) w w') (hc:Chg ok ok' w w')
  (hsup:∀ x o,ok' x o→ok x o∨w.heap.size≤x∨∃ n,Owns ℓ b0 k0 n x)
  (hown:∀ n x,Owns ℓ' b' k' n x→w.heap.size≤x∨∃ m,Owns ℓ b0 k0 m x)
  (hnew:∀ n,(lk b' n).isSome=true∨(lk k' n).isSome=true→((lk b0 n).isSome=true∧(lk b' n).isSome=true∧lk k' n=none)∨((lk k0 n).isSome=true∧(lk k' n).isSome=true∧lk b' n=none)∨Fresh b k n)
  (hl:∀ n,lk b' n=none→lk k' n=none→(lk b n).isSome=true∨(lk k n).isSome=true→ℓ'.i n=ℓ.i n∧ℓ'.z n=ℓ.z n∧ℓ'.h n=ℓ.h n)
  (hlc:∀ m cs,lk b m=some cs→∀ c∈cs,∀ n,c.has n→LocAt ℓ ℓ' n∨Fresh b k n) :
  MemOK ok' ℓ' (b'++b) (k'++k) w'∧∀ n x,Owns ℓ' (b'++b) (k'++k) n x→Owns ℓ b k n x∨Owns ℓ' b' k' n x:=by
 obtain ⟨h0,ho0⟩:=h.part hb hk
 -- what lies outside of the call's memory
 have hbn:∀ n cs,lk (b'++b) n=some cs→lk b' n=some cs∨(lk b' n=none∧lk b n=some cs):=by
  intro n cs hn
  rw [ZbU] at hn
  cases hb':lk b' n with
  | some x=>rw [hb'] at hn; simp at hn; exact .inl (by rw [hn])
  | none=>rw [hb'] at hn; simp at hn; exact .inr ⟨rfl,hn⟩
 have hkn:∀ n t,lk (k'++k) n=some t→lk k' n=some t∨(lk k' n=none∧lk k n=some t):=by
  intro n cs hn
  rw [ZbU] at hn
  cases hk':lk k' n with
  | some x=>rw [hk'] at hn; simp at hn; exact .inl (by rw [hn])
  | none=>rw [hk'] at hn; simp at hn; exact .inr ⟨rfl,hn⟩
 -- a name of the rest is none of the call's
 have hrb:∀ n cs,lk b' n=none→lk b n=some cs→lk k' n=none:=by
  intro n cs h1 h2
  cases hk':lk k' n with
  | none=>rfl
  | some t =>
   rcases hnew n (.inr (by simp [hk'])) with ⟨_,e,_⟩ | ⟨e,_,_⟩ | e
   ·rw [h1] at e; cases e
   ·have:=h.apart n (by simp [h2])
    obtain ⟨t0,ht0⟩:=Option.isSome_iff_exists.1 e
    rw [hk n t0 ht0] at this; cases this
   ·rw [e.nb] at h2; cases h2
 have hrk:∀ n t,lk k' n=none→lk k n=some t→lk b' n=none:=by
  intro n t h1 h2
  cases hb':lk b' n with
  | none=>rfl
  | some cs =>
   rcases hnew n (.inl (by simp [hb'])) with ⟨e,_,_⟩ | ⟨_,e,_⟩ | e
   ·obtain ⟨c0,hc0⟩:=Option.isSome_iff_exists.1 e
    have:=h.apart n (by simp [hb n c0 hc0])
    rw [h2] at this; cases this
   ·rw [h1] at e; cases e
   ·rw [e.nk] at h2; cases h2
 have hout:∀ n x,lk b' n=none→lk k' n=none→Owns ℓ b k n x→¬ ∃ m,Owns ℓ b0 k0 m x:=by
  rintro n x h1 h2 hx ⟨m,hm⟩
  have e:=h.distinct n m x hx (ho0 m x hm)
  subst e
  rcases hm with ⟨h3,_⟩ | ⟨t,h3,_,_⟩ | ⟨t,h3,_,_⟩
  ·have:=hbp n h3; rw [h1] at this; cases this
  ·have:=hkp n (by simp [h3]); rw [h2] at this; cases this
  ·have:=hkp n (by simp [h3]); rw [h2] at this; cases this
 have hkeep:∀ n x,lk b' n=none→lk k' n=none→Owns ℓ b k n x→w'.heap[x]?=w.heap[x]?:=fun n x h1 h2 hx=>hext.block x (h.owned_lt hx) (hout n x h1 h2 hx)
 have hokk:∀ n x o,lk b' n=none→lk k' n=none→Owns ℓ b k n x→ok' x o→ok x o:=fun n x o h1 h2 hx ho=>by
  rcases hsup x o ho with h3 | h3 | h3
  ·exact h3
  ·exact absurd (h.owned_lt hx) (by omega)
  ·exact absurd h3 (hout n x h1 h2 hx)
 have hcc:∀ m cs,lk b' m=none→lk b m=some cs→∀ n,(∃ c∈cs,c.has n)→LocAt ℓ ℓ' n:=by
  rintro m cs h1 h2 n ⟨c,hc,hh⟩
  rcases hlc m cs h2 c hc n hh with h3 | h3
  ·exact h3
  ·exact absurd hh (h3.nc m cs h2 c hc)
 have howns:∀ n x,Owns ℓ' (b'++b) (k'++k) n x→(lk b' n=none∧lk k' n=none∧Owns ℓ b k n x)∨Owns ℓ' b' k' n x:=by
  intro n x hn
  rcases hn with ⟨h1,rfl⟩ | ⟨t,h1,h2,rfl⟩ | ⟨t,h1,h2,h3⟩
  ·obtain ⟨cs,hcs⟩:=Option.isSome_iff_exists.1 h1
   rcases hbn n cs hcs with e | ⟨e1,e2⟩
   ·exact .inr (.box e)
   ·have e3:=hrb n cs e1 e2
    rw [(hl n e1 e3 (.inl (by simp [e2]))).1]
    exact .inl ⟨e1,e3,.box e2⟩
  ·rcases hkn n t h1 with e | ⟨e1,e2⟩
   ·exact .inr (.arr e h2)
   ·have e3:=hrk n t e1 e2
    rw [(hl n e3 e1 (.inr (by simp [e2]))).1]
    exact .inl ⟨e3,e1,.arr e2 h2⟩
  ·rcases hkn n t h1 with e | ⟨e1,e2⟩
   ·exact .inr (.buf e h2 h3)
   ·have e3:=hrk n t e1 e2
    rw [(hl n e3 e1 (.inr (by simp [e2]))).2.2] at h3
    exact .inl ⟨e3,e1,.buf e2 h2 h3⟩
 refine ⟨⟨fun n cs hn=>?_,fun n t hn ha=>?_,fun n t hn ha=>?_,fun n hn=>?_,fun n m x hn hm=>?_,h'.alive⟩,fun n x hx=>(howns n x hx).imp (·.2.2) id⟩
 ·rcases hbn n cs hn with e | ⟨e1,e2⟩
  ·exact h'.box n cs e
  ·have e3:=hrb n cs e1 e2
   exact (h.box n cs e2).chg hc (hcc n cs e1 e2) (hl n e1 e3 (.inl (by simp [e2]))).1 (hkeep n _ e1 e3 (.box e2)) (fun o ho=>hokk n _ o e1 e3 (.box e2) ho)
 ·rcases hkn n t hn with e | ⟨e1,e2⟩
  ·exact h'.buf n t e ha
  ·have e3:=hrk n t e1 e2
   exact (h.buf n t e2 ha).chg hc (hl n e3 e1 (.inr (by simp [e2]))).2.2 (fun x hx=>hkeep n x e3 e1 (.buf e2 ha hx)) (fun x o hx ho=>hokk n x o e3 e1 (.buf e2 ha hx) ho)
 ·rcases hkn n t hn with e | ⟨e1,e2⟩
  ·exact h'.arr n t e ha
  ·have e3:=hrk n t e1 e2
   exact (h.arr n t e2 ha).chg hc (hl n e3 e1 (.inr (by simp [e2]))).1 (hl n e3 e1 (.inr (by simp [e2]))).2.1 (hkeep n _ e3 e1 (.arr e2 ha)) (fun o ho=>hokk n _ o e3 e1 (.arr e2 ha) ho)
 ·obtain ⟨cs,hcs⟩:=Option.isSome_iff_exists.1 hn
  cases hk1:lk (k'++k) n with
  | none=>rfl
  | some t =>
   rcases hbn n cs hcs with e | ⟨e1,e2⟩ <;> rcases hkn n t hk1 with f | ⟨f1,f2⟩
   ·have:=h'.apart n (by simp [e]); rw [f] at this; cases this
   ·have:=hrk n t f1 f2; rw [e] at this; cases this
   ·have:=hrb n cs e1 e2; rw [f] at this; cases this
   ·have:=h.apart n (by simp [e2]); rw [f2] at this; cases this
 ·rcases howns n x hn with ⟨e1,e2,e3⟩ | e <;> rcases howns m x hm with ⟨f1,f2,f3⟩ | f
  ·exact h.distinct n m x e3 f3
  ·rcases hown m x f with g | g
   ·exact absurd (h.owned_lt e3) (by omega)
   ·exact absurd g (hout n x e1 e2 e3)
  ·rcases hown n x e with g | g
   ·exact absurd (h.owned_lt f3) (by omega)
   ·exact absurd g (hout m x f1 f2 f3)
  ·exact h'.distinct n m x e f

end Go.Vam
end
