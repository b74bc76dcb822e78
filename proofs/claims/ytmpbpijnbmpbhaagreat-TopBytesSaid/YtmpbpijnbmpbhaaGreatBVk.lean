/- A part of the proof. Conditions: none. -/
import Derived.Test.YtmpbpijnbmpbhaaGreatBVj
import Derived.Below
import Derived.ChangeArms
import Derived.ChangeSlices
import Derived.OpenShut
import Derived.ChangeOld
section
set_option linter.unusedVariables false
set_option linter.unusedSimpArgs false
namespace Go.Vam

def ZdL {α:Type}:Rd α→St→List Key→Option (List (List Key×α))
 | .ret a,_,R=>some [(R,a)]
 | .fail,_,_=>none
 | .getT n f,st,R=>match lk st.t n with
  | some v=>ZdL (f v) st (.t n::R)
  | none=>none
 | .getB n f,st,R=>match lk st.b n with
  | some v=>ZdL (f v) st (.b n::R)
  | none=>none
 | .getK n f,st,R=>match lk st.k n with
  | some v=>ZdL (f v) st (.k n::R)
  | none=>none
 | .need _ r,st,R=>ZdL r st R
 | .exD _,_,_=>none
 | .exM _,_,_=>none
 | .case _ r s,st,R=>match ZdL r st R,ZdL s st R with
  | some a,some b=>some (a++b)
  | _,_=>none

theorem ZCQ {α:Type} {Q:α→Prop}:∀ {r:Rd α} {st:St} {R:List Key} {rs:List (List Key×α)},wp r st Q→ZdL r st R=some rs→wpL r st R (fun R' a=>(R',a)∈rs∧Q a):=by
 intro r
 induction r with
 | ret a=>intro st R rs h hr; simp only [ZdL,Option.some.injEq] at hr; subst hr; exact ⟨by simp,h⟩
 | fail=>intro st R rs h hr; exact h
 | getT n f ih=>intro st R rs h hr; simp only [wp,ZdL,wpL] at h hr ⊢; split at h <;> simp_all
 | getB n f ih=>intro st R rs h hr; simp only [wp,ZdL,wpL] at h hr ⊢; split at h <;> simp_all
 | getK n f ih=>intro st R rs h hr; simp only [wp,ZdL,wpL] at h hr ⊢; split at h <;> simp_all
 | need p r ih=>intro st R rs h hr; exact ⟨h.1,ih h.2 hr⟩
 | exD f ih=>intro st R rs h hr; cases hr
 | exM f ih=>intro st R rs h hr; cases hr
 | case γ r s ih ih' =>
  intro st R rs h hr
  simp only [ZdL] at hr
  split at hr
  ·rename_i x y hx hy
   simp only [Option.some.injEq] at hr
   subst hr
   exact ⟨fun e=>ZiO (fun R' a hh=>⟨List.mem_append_left _ hh.1,hh.2⟩) (ih (h.1 e) hx),fun e=>ZiO (fun R' a hh=>⟨List.mem_append_right _ hh.1,hh.2⟩) (ih' (h.2 e) hy)⟩
  ·cases hr

def ZLS (X:Ctx) (o:Oper):Bool:=match o.dst with
 | some d=>decide (d < X.n)
 | none=>true
theorem ZGf {X:Ctx} {o:Oper} (h:ZLS X o=true):dstOk X o:=by
 unfold ZLS at h
 unfold dstOk
 split <;> rename_i hd <;> rw [hd] at h
 ·simpa using h
 ·trivial

def Zkp (X:Ctx) (ops:Array Oper) (st0:St):List Oper→St→List Rec→Bool
 | [],_,cs=>Zm2 st0 ops cs
 | o::l,st,cs=>ZLS X o && match ZdL (ZeW X ops o) st [] with
  | some rs=>rs.all fun p=>Zkp X ops st0 l (st.apply o.dst p.2.1 p.2.2) (cs++[⟨o.dst,p.1,p.2.1,p.2.2⟩])
  | none=>false

structure Le (st' st:St):Prop where
 t:∀ n v,lk st'.t n=some v→lk st.t n=some v
 b:∀ n v,lk st'.b n=some v→lk st.b n=some v
 k:∀ n v,lk st'.k n=some v→lk st.k n=some v

theorem Le.refl (st:St):Le st st:=⟨fun _ _ h=>h,fun _ _ h=>h,fun _ _ h=>h⟩
theorem Le.trans {a b c:St} (h:Le a b) (k:Le b c):Le a c:=⟨fun n v e=>k.t n v (h.t n v e),fun n v e=>k.b n v (h.b n v e),fun n v e=>k.k n v (h.k n v e)⟩

theorem Zkw {κ α:Type} [DecidableEq κ] {x l m:List (κ×α)} (h:∀ n v,lk l n=some v→lk m n=some v):∀ n v,lk (x++l) n=some v→lk (x++m) n=some v:=by
 intro n v e
 rw [ZbU] at e ⊢
 cases hx:lk x n with
 | some y=>rw [hx] at e; exact e
 | none=>rw [hx] at e; simp at e ⊢; exact h n v e

theorem Le.apply {st' st:St} (h:Le st' st) (d:Option Nat) (g:Option Bool) (r:Out):Le (st'.apply d g r) (st.apply d g r):=by
 refine ⟨fun n v e=>?_,Zkw h.b,Zkw h.k⟩
 simp only [St.apply,ZGn] at e ⊢
 cases d with
 | none=>cases g <;> exact h.t n v e
 | some d=>cases g <;> exact Zkw (x:=[(d,_)]) h.t n v e

theorem ZNq {α:Type} {Q:α→Prop}:∀ {r:Rd α} {st' st:St},Le st' st→wp r st' Q→wp r st Q:=by
 intro r
 induction r with
 | ret a=>intro st' st hl h; exact h
 | fail=>intro st' st hl h; exact h
 | getT n f ih =>
  intro st' st hl h
  simp only [wp] at h ⊢
  split at h
  ·rename_i v hv; rw [hl.t n v hv]; exact ih v hl h
  ·exact h.elim
 | getB n f ih =>
  intro st' st hl h
  simp only [wp] at h ⊢
  split at h
  ·rename_i v hv; rw [hl.b n v hv]; exact ih v hl h
  ·exact h.elim
 | getK n f ih =>
  intro st' st hl h
  simp only [wp] at h ⊢
  split at h
  ·rename_i v hv; rw [hl.k n v hv]; exact ih v hl h
  ·exact h.elim
 | need p r ih=>intro st' st hl h; exact ⟨h.1,ih hl h.2⟩
 | exD f ih=>intro st' st hl h; obtain ⟨x,h⟩:=h; exact ⟨x,ih x hl h⟩
 | exM f ih=>intro st' st hl h; obtain ⟨x,b,k,h⟩:=h; exact ⟨x,b,k,ih x b k hl h⟩
 | case γ r s ih ih'=>intro st' st hl h; exact ⟨fun e=>ih hl (h.1 e),fun e=>ih' hl (h.2 e)⟩

def ZkQ (m:Nat) (l:List (Nat×V)):List (Nat×V):=l.filter fun p=>(m >>> p.1) % 2==1
def ZkP (m:Nat) (st:St):St:=⟨keep [] (ZkQ m st.t),keep [] st.b,keep [] st.k⟩

theorem Zkx {α:Type} (f:Nat→Bool):∀ (l:List (Nat×α)) (t:Nat) (v:α),lk (l.filter fun p=>f p.1) t=some v→lk l t=some v
 | [],_,_,h=>by cases h
 | (k,w)::l,t,v,h=>by
  by_cases e:k=t
  ·subst e
   cases hf:f k with
   | true =>
    rw [List.filter_cons_of_pos (by simpa using hf),Zl] at h
    rw [Zl]; exact h
   | false =>
    rw [List.filter_cons_of_neg (by simp [hf])] at h
    have:=Zbj _ _ _ h
    rw [List.mem_filter] at this
    rw [hf] at this; cases this.2
  ·rw [Zh _ _ e]
   refine Zkx f l t v ?_
   cases hf:f k with
   | true=>rw [List.filter_cons_of_pos (by simpa using hf),Zh _ _ e] at h; exact h
   | false=>rw [List.filter_cons_of_neg (by simp [hf])] at h; exact h

theorem Zqc {X:Ctx} (m:Nat) (st:St):Sub X (ZkP m st) st :=
 .of (subT_of (fun t v h=>⟨v,Zkx (fun t=>(m >>> t) % 2==1) _ _ _ (Zd7 _ _ _ _ h).2,Zm9 v⟩) (ZcE _ _)) (Zrg _ _) (Zrh _ _)

theorem ZDP (m:Nat) (st:St):Le (ZkP m st) st :=
 ⟨fun t v h=>Zkx (fun t=>(m >>> t) % 2==1) _ _ _ (Zd7 _ _ _ _ h).2,fun t v h=>(Zd7 _ _ _ _ h).2,fun t v h=>(Zd7 _ _ _ _ h).2⟩

theorem Le.sub {X:Ctx} {st' st:St} (h:Le st' st):Sub X st' st:=by
 rintro S a w ⟨ok,ℓ,hs⟩
 obtain ⟨hm,ho⟩:=hs.mem.le (b':=st'.b) (k':=st'.k) (fun n cs hn=>⟨cs,h.b n cs hn,Zcq cs⟩) (fun n t hn=>h.k n t hn)
 refine ⟨ok,ℓ,hs.defers,hs.size,fun t v hv=>hs.tmps t v (h.t t v hv),hm,hs.ext,hs.sub,hs.sup,fun n x hx=>hs.own n x (ho n x hx),hs.names,fun n hl hh=>hs.inH n hl ?_⟩
 rcases hh with hh | hh
 ·obtain ⟨cs,hcs⟩:=Option.isSome_iff_exists.1 hh
  exact .inl (by simp [h.b n cs hcs])
 ·obtain ⟨t,ht⟩:=Option.isSome_iff_exists.1 hh
  exact .inr (by simp [h.k n t ht])

def pr (ms:List Nat) (st:St):St:=match ms with
 | 0::_=>st
 | m::_=>ZkP m st
 | []=>st
theorem ZHV (ms:List Nat) (st:St):Le (pr ms st) st:=by
 unfold pr
 split
 ·exact .refl _
 ·exact ZDP _ _
 ·exact .refl _
def Zyo (X:Ctx) (ops:Array Oper):List Nat→List Oper→St→(St→Prop)→Prop
 | _,[],st,Q=>Q st
 | ms,o::l,st,Q=>wp (ZeW X ops o) st fun p=>Zyo X ops ms.tail l (pr ms (st.apply o.dst p.1 p.2)) Q

theorem Zqn {X:Ctx} {ops:Array Oper} {Q Q':St→Prop} (hq:∀ st,Q st→Q' st):∀ (l:List Oper) (ms:List Nat) (st:St),Zyo X ops ms l st Q→Zyo X ops ms l st Q'
 | [],_,st,h=>hq st h
 | o::l,ms,st,h=>ZvK (fun p hp=>Zqn hq l _ _ hp) h

def Zvr (X:Ctx) (ops:Array Oper):List Nat→List Oper→St→(St→Prop)→Prop
 | _,[],st,Q=>Q st
 | ms,o::l,st,Q=>dstOk X o∧wp (ZeW X ops o) st fun p=>ZkC st p.2.new∧Zvr X ops ms.tail l (pr ms (st.apply o.dst p.1 p.2)) Q

theorem Zqk {X:Ctx} {ops:Array Oper} {Q Q':St→Prop} (hq:∀ st,Q st→Q' st):∀ (l:List Oper) (ms:List Nat) (st:St),Zvr X ops ms l st Q→Zvr X ops ms l st Q'
 | [],_,st,h=>hq st h
 | o::l,ms,st,h=>⟨h.1,ZvK (fun p hp=>⟨hp.1,Zqk hq l _ _ hp.2⟩) h.2⟩

theorem Zed {X:Ctx} (hT:TOk X) {ops:Array Oper} {S:Start} {Q:Exit→Act→World→Prop} {Q':St→Prop} (hQ:∀ st a w,Q' st→Sim X S st a w→Q .normal a w) :
  ∀ (l:List Oper) (ms:List Nat) (i:Nat) (st:St),ops.toList.drop i=l→Zvr X ops ms l st Q'→∀ a w,Sim X S st a w→wpOps X.P ops Q (List.range' i l.length) a w
 | [],ms,i,st,_,h,a,w,hs=>hQ st a w h hs
 | o::l,ms,i,st,hl,h,a,w,hs=>by
  obtain ⟨hd,h⟩:=h
  obtain ⟨R,p,h1,h2,h3⟩:=Zee h
  have hi:ops[i]?=some o:=by
   have:=congrArg (fun l=>l[0]?) hl
   simpa using this
  simp only [List.length_cons,List.range'_succ]
  rw [wpOps_cons]
  refine ZkF hT hd h1 (fun n hn=>(h2 n hn).free) hs hi (fun a' w' hs'=>?_)
  refine Zed hT hQ l ms.tail (i+1) _ ?_ h3 a' w' ((ZHV ms _).sub S a' w' hs')
  have:=congrArg List.tail hl
  simpa [List.tail_drop] using this

theorem Znk {X:Ctx} (hT:TOk X) {ops:Array Oper} {id:Nat} {ms:List Nat} {S:Start} {Q:Exit→Act→World→Prop} {Q':St→Prop} (hQ:∀ st a w,Q' st→Sim X S st a w→Q .normal a w) {st:St} (h:Zvr X ops ms ops.toList st Q') {a:Act} {w:World} (hs:Sim X S st a w) :
  (Code.region id ops false).wp X.P Q a w:=by
 refine wp_region ?_
 rw [List.range_eq_range',← Array.length_toList]
 exact Zed hT hQ ops.toList ms 0 st (by simp) h a w hs

theorem Zmg {X:Ctx} {ops:Array Oper} {st0:St} {Q:St→Prop}:∀ (l:List Oper) (ms:List Nat) (st' st:St) (cs:List Rec),Le st' st→Zyo X ops ms l st' Q→Zkp X ops st0 l st cs=true→
  ZfY X ops l st cs (fun s cs'=>Zm2 st0 ops cs'=true∧∃ s',Le s' s∧Q s')
 | [],_,st',st,cs,hl,h,hc=>⟨hc,st',hl,h⟩
 | o::l,ms,st',st,cs,hl,h,hc=>by
  simp only [Zkp,Bool.and_eq_true] at hc
  obtain ⟨hc1,hc⟩:=hc
  refine ⟨ZGf hc1,?_⟩
  split at hc
  ·rename_i rs hrs
   refine ZiO (fun R p hp=>?_) (ZCQ (ZNq hl h) hrs)
   exact Zmg l _ _ _ _ ((ZHV _ _).trans (hl.apply _ _ _)) hp.2 (List.all_eq_true.1 hc _ hp.1)
  ·cases hc

def ZLB (st:St) (n:Name) (len:Nat) (f:List D→St) (Q:St→Prop):Prop:=oel (lk st.k n) fun tk=>(tk.isArr=true∧len=tk.l.length)∧Q (f tk.l)
def ZGF (k:Name) (wd n:Nat):List C:=(List.range n).map fun i=>C.vw k (i*wd) wd
def ZGW (st:St) (h:Nat) (v:V) (Q:St→Prop):Prop:=match v with
 | .c (.bs m n)=>oel (lk st.b m) fun cs=>∃ k wd,cs=ZGF k wd n∧Q ⟨(h,.c (.rws k wd n))::st.t,rm st.b m,st.k⟩
 | .c (.arr n len)=>ZLB st n len (fun l=>⟨(h,.c (.d (.list l)))::st.t,st.b,rm st.k n⟩) Q
 | _=>False
def ZHz (st:St) (m:Name) (cs:List C) (j:Nat) (c:C) (Q:St→Prop):Prop:=match c with
 | .arr n len=>ZLB st n len (fun l=>⟨st.t,(m,cs.set j (.d (.list l)))::st.b,rm st.k n⟩) Q
 | _=>False
def frz (h:Nat) (st:St) (Q:St→Prop):Prop :=
 if h < 1000 then oel (lk st.t h) fun v=>ZGW st h v Q
 else oel (lk st.b ⟨1,h / 1000 - 1⟩) fun cs=>oel (cs[h % 1000]?) fun c=>ZHz st ⟨1,h / 1000 - 1⟩ cs (h % 1000) c Q
def Zyl:List Nat→St→(St→Prop)→Prop
 | [],st,Q=>Q st
 | h::hs,st,Q=>frz h st fun st=>Zyl hs st Q

theorem Sub.freezeB {X:Ctx} {st:St} {m n:Name} {cs:List C} {j len:Nat} {tk:Tok} (hm:lk st.b m=some cs) (hj:cs[j]?=some (.arr n len)) (hk:lk st.k n=some tk) (ha:tk.isArr=true) (hl:len=tk.l.length) :
  Sub X ⟨st.t,(m,cs.set j (.d (.list tk.l)))::st.b,rm st.k n⟩ st:=by
 rintro S a w ⟨ok,ℓ,hs⟩
 obtain ⟨hmem,hrep,hown⟩:=hs.mem.freezeArr hk ha
 have hc:Chg ok (fun x o=>ok x o∨x=ℓ.i n) w w:=⟨fun _ _ h=>.inl h,fun _ _ _=>rfl⟩
 have howner:=hs.own n _ (.arr hk ha)
 have hs':=hs.move (b':=st.b) (k':=rm st.k n) hc (fun _ _ _ n _=>.refl ℓ n) hmem ⟨rfl,rfl,rfl,Nat.le_refl _⟩ (fun _ _ _=>rfl) (fun x o hx=>hx.elim .inl (fun e=>.inr (e ▸ howner))) (fun m x hx=>hs.own m x (hown m x hx)) (fun m _=>⟨.refl ℓ m,fun _=>⟨rfl,rfl,rfl⟩⟩)
  (fun m hlt hh=>hs.inH m hlt (hh.imp id (fun h=>by
   by_cases e:m=n
   ·subst e; simp [hk]
   ·rwa [Zfp _ e] at h)))
 obtain ⟨vs,T,h1,h2,h3⟩:=hs'.mem.box m cs hm
 have hrow:RCs (fun x o=>ok x o∨x=ℓ.i n) ℓ w vs (cs.set j (.d (.list tk.l))):=by
  refine ⟨by rw [h2.1]; simp,fun i u c hu hc'=>?_⟩
  by_cases e:i=j
  ·subst e
   rw [List.getElem?_set_self (by rw [← h2.1]; exact (Array.getElem?_eq_some_iff.1 hu).1)] at hc'
   cases hc'
   have hrv:=h2.2 i u _ hu hj
   simp only [RC] at hrv
   obtain ⟨capA,hcA,hrv⟩:=hrv
   exact ⟨by rw [hrv,hl]; exact hrep capA (by omega),rfl⟩
  ·rw [List.getElem?_set_ne (Ne.symm e)] at hc'
   exact h2.2 i u c hu hc'
 have hsome:∀ k,(lk ((m,cs.set j (.d (.list tk.l)))::st.b) k).isSome=true→(lk st.b k).isSome=true:=by
  intro k h
  by_cases e:k=m
  ·subst e; simp [hm]
  ·rwa [Zh _ _ (Ne.symm e)] at h
 have hown':∀ k x,Owns ℓ ((m,cs.set j (.d (.list tk.l)))::st.b) (rm st.k n) k x→Owns ℓ st.b (rm st.k n) k x:=by
  intro k x h
  rcases h with ⟨h1,rfl⟩ | ⟨t,h1,h2,rfl⟩ | ⟨t,h1,h2,h3⟩
  ·exact .inl ⟨hsome k h1,rfl⟩
  ·exact .arr h1 h2
  ·exact .buf h1 h2 h3
 refine ⟨_,ℓ,hs'.defers,hs'.size,hs'.tmps,⟨fun k cs' hk'=>?_,hs'.mem.buf,hs'.mem.arr,fun k hk'=>hs'.mem.apart k (hsome k hk'),fun k k' x h h'=>hs'.mem.distinct k k' x (hown' _ _ h) (hown' _ _ h'),hs'.mem.alive⟩,
  hs'.ext,hs'.sub,hs'.sup,fun k x h=>hs'.own k x (hown' k x h),hs'.names,fun k hl hh=>hs'.inH k hl (hh.imp (hsome k) id)⟩
 by_cases e:k=m
 ·subst e
  rw [Zl] at hk'
  cases hk'
  exact ⟨vs,T,h1,hrow,h3⟩
 ·rw [Zh _ _ (Ne.symm e)] at hk'
  exact hs'.mem.box k cs' hk'

theorem MemOK.freezeBox {ok:Zas} {ℓ:Loc} {b:Zf} {k:Zr} {w:World} (h:MemOK ok ℓ b k w) {n:Name} {cs:List C} (hn:lk b n=some cs) :
  MemOK (fun x o=>ok x o∨x=ℓ.i n) ℓ (rm b n) k w∧∀ m x,Owns ℓ (rm b n) k m x→Owns ℓ b k m x:=by
 obtain ⟨vs0,T0,hr0,_,_⟩:=h.box n cs hn
 have hc:Chg ok (fun x o=>ok x o∨x=ℓ.i n) w w:=⟨fun _ _ h=>.inl h,fun _ _ _=>rfl⟩
 have hk:∀ m t,lk (rm b n) m=some t→m≠n∧lk b m=some t:=by
  intro m t hm
  by_cases e:m=n
  ·subst e; rw [ZhG] at hm; cases hm
  ·rw [Zfp _ e] at hm; exact ⟨e,hm⟩
 have hkn:lk k n=none:=h.apart n (by simp [hn])
 have hown:∀ m x,Owns ℓ (rm b n) k m x→Owns ℓ b k m x∧m≠n:=by
  intro m x hm
  rcases hm with ⟨h1,rfl⟩ | ⟨t,h1,h2,rfl⟩ | ⟨t,h1,h2,h3⟩
  ·obtain ⟨cs',hcs'⟩:=Option.isSome_iff_exists.1 h1
   obtain ⟨e,h4⟩:=hk m cs' hcs'
   exact ⟨.box h4,e⟩
  ·exact ⟨.arr h1 h2,fun e=>by rw [e,hkn] at h1; cases h1⟩
  ·exact ⟨.buf h1 h2 h3,fun e=>by rw [e,hkn] at h1; cases h1⟩
 have hne:∀ m x,m≠n→Owns ℓ b k m x→x≠ℓ.i n:=fun m x hm hx e=>hm (h.distinct m n x hx (e ▸ .box hn))
 refine ⟨⟨fun m cs' hm=>?_,fun m t hm ha'=>?_,fun m t hm ha'=>?_,fun m hm=>?_,fun m m' x hm hm'=>h.distinct m m' x (hown _ _ hm).1 (hown _ _ hm').1,?_⟩,fun m x hm=>(hown m x hm).1⟩
 ·obtain ⟨e,hm⟩:=hk m cs' hm
  exact (h.box m cs' hm).chg hc (fun m' _=>.refl ℓ m') rfl rfl (fun o ho=>ho.resolve_right (hne m _ e (.box hm)))
 ·have e:m≠n:=fun e=>by rw [e,hkn] at hm; cases hm
  exact (h.buf m t hm ha').chg hc rfl (fun _ _=>rfl) (fun x o hx ho=>ho.resolve_right (hne m x e (.buf hm ha' hx)))
 ·have e:m≠n:=fun e=>by rw [e,hkn] at hm; cases hm
  exact (h.arr m t hm ha').chg hc rfl rfl rfl (fun o ho=>ho.resolve_right (hne m _ e (.arr hm ha')))
 ·obtain ⟨cs',hcs'⟩:=Option.isSome_iff_exists.1 hm
  exact h.apart m (by simp [(hk m cs' hcs').2])
 ·intro x o hx
  rcases hx with hx | rfl
  ·exact h.alive x o hx
  ·exact Z8 hr0

theorem ZEn {k:Name} {wd n i:Nat} (h:i < n):(ZGF k wd n)[i]?=some (.vw k (i*wd) wd):=by
 unfold ZGF
 rw [List.getElem?_map,List.getElem?_range h]
 rfl

theorem Sub.freezeS {X:Ctx} {st:St} {t n:Nat} {m k:Name} {wd:Nat} (ht:lk st.t t=some (.c (.bs m n))) (hm:lk st.b m=some (ZGF k wd n)) :
  Sub X ⟨(t,.c (.rws k wd n))::st.t,rm st.b m,st.k⟩ st:=by
 rintro S a w ⟨ok,ℓ,hs⟩
 obtain ⟨hmem,hown⟩:=hs.mem.freezeBox hm
 have hc:Chg ok (fun x o=>ok x o∨x=ℓ.i m) w w:=⟨fun _ _ h=>.inl h,fun _ _ _=>rfl⟩
 have howner:=hs.own m _ (.box hm)
 have hs':=hs.move (b':=rm st.b m) (k':=st.k) hc (fun _ _ _ n _=>.refl ℓ n) hmem ⟨rfl,rfl,rfl,Nat.le_refl _⟩ (fun _ _ _=>rfl) (fun x o hx=>hx.elim .inl (fun e=>.inr (e ▸ howner))) (fun m x hx=>hs.own m x (hown m x hx)) (fun m _=>⟨.refl ℓ m,fun _=>⟨rfl,rfl,rfl⟩⟩)
  (fun m' hlt hh=>hs.inH m' hlt (hh.imp (fun h=>by
   by_cases e:m'=m
   ·subst e; simp [hm]
   ·rwa [Zfp _ e] at h) id))
 obtain ⟨u,hu,hrv⟩:=hs.tmps t _ ht
 simp only [RV,RC] at hrv
 obtain ⟨vs,T,h1,h2,_⟩:=hs.mem.box m _ hm
 have hlen:vs.size=n:=by rw [h2.1]; simp [ZGF]
 refine ⟨_,ℓ,hs'.defers,hs'.size,fun t' v hv=>?_,hs'.mem,hs'.ext,hs'.sub,hs'.sup,hs'.own,hs'.names,hs'.inH⟩
 by_cases e:t=t'
 ·subst e; rw [Zl] at hv; cases hv
  refine ⟨u,hu,ℓ.i m,0,hrv,fun i hi=>⟨.inr rfl,?_⟩⟩
  have hvi:vs[i]?=some vs[i]:=Array.getElem?_eq_getElem (by omega)
  have hr:=h2.2 i vs[i] _ hvi (ZEn hi)
  simp only [RC] at hr
  rw [Nat.zero_add,Zam h1,hvi,hr]
 ·rw [Zh _ _ e] at hv; exact hs'.tmps t' v hv

theorem ZFY {X:Ctx} {h:Nat} {st:St} {Q:St→Prop} (hf:frz h st Q):∃ st',Q st'∧Sub X st' st:=by
 unfold frz at hf
 split at hf
 ·cases ht:lk st.t h with
  | none=>rw [ht] at hf; exact hf.elim
  | some v =>
   rw [ht] at hf
   simp only [oel] at hf
   unfold ZGW at hf
   split at hf
   ·rename_i m n
    cases hb:lk st.b m with
    | none=>rw [hb] at hf; exact hf.elim
    | some cs =>
     rw [hb] at hf
     obtain ⟨k,wd,rfl,hq⟩:=hf
     exact ⟨_,hq,Sub.freezeS ht hb⟩
   ·rename_i n len
    unfold ZLB at hf
    cases hk:lk st.k n with
    | none=>rw [hk] at hf; exact hf.elim
    | some tk=>rw [hk] at hf; exact ⟨_,hf.2,Sub.freezeT ht hk hf.1.1 hf.1.2⟩
   ·exact hf.elim
 ·cases hb:lk st.b ⟨1,h / 1000 - 1⟩ with
  | none=>rw [hb] at hf; exact hf.elim
  | some cs =>
   rw [hb] at hf
   simp only [oel] at hf
   cases hj:cs[h % 1000]? with
   | none=>rw [hj] at hf; exact hf.elim
   | some c =>
    rw [hj] at hf
    simp only [oel] at hf
    unfold ZHz at hf
    split at hf
    ·rename_i n len
     unfold ZLB at hf
     cases hk:lk st.k n with
     | none=>rw [hk] at hf; exact hf.elim
     | some tk=>rw [hk] at hf; exact ⟨_,hf.2,Sub.freezeB hb hj hk hf.1.1 hf.1.2⟩
    ·exact hf.elim
theorem Zm4 {X:Ctx}:∀ {hs:List Nat} {st:St} {Q:St→Prop},Zyl hs st Q→∃ st',Q st'∧Sub X st' st
 | [],st,Q,h=>⟨st,h,.refl _ _⟩
 | h::hs,st,Q,hf=>by
  obtain ⟨st1,h1,h2⟩:=ZFY (X:=X) hf
  obtain ⟨st2,h3,h4⟩:=Zm4 (X:=X) h1
  exact ⟨st2,h3,h4.trans h2⟩
theorem Zfr {α:Type} {x:Option α} {f g:α→Prop} (h:∀ a,f a→g a) (hx:oel x f):oel x g:=by
 cases x with
 | none=>exact hx
 | some a=>exact h a hx
theorem ZDu {h:Nat} {st:St} {Q Q':St→Prop} (hq:∀ st,Q st→Q' st) (hf:frz h st Q):frz h st Q':=by
 unfold frz at hf ⊢
 split at hf
 ·rename_i hh
  rw [if_pos hh]
  refine Zfr (fun v hv=>?_) hf
  unfold ZGW at hv ⊢
  split at hv
  ·exact Zfr (fun cs ⟨k,wd,h1,h2⟩=>⟨k,wd,h1,hq _ h2⟩) hv
  ·exact Zfr (fun tk ht=>⟨ht.1,hq _ ht.2⟩) hv
  ·exact hv
 ·rename_i hh
  rw [if_neg hh]
  refine Zfr (fun cs hcs=>Zfr (fun c hc=>?_) hcs) hf
  unfold ZHz at hc ⊢
  split at hc
  ·exact Zfr (fun tk ht=>⟨ht.1,hq _ ht.2⟩) hc
  ·exact hc
theorem Zkv {Q Q':St→Prop} (hq:∀ st,Q st→Q' st):∀ (hs:List Nat) (st:St),Zyl hs st Q→Zyl hs st Q'
 | [],st,h=>hq st h
 | h::hs,st,hf=>ZDu (fun st h'=>Zkv hq hs st h') hf
def msk:List (Nat×List Nat)→Nat→List Nat
 | [],_=>[]
 | p::l,i=>if p.1=i then p.2 else msk l i

def E (X:Ctx) (M:List (Nat×List Nat)) (m:Nat):Code→(Exit→St→Prop)→St→Prop
 | .skip,Q,st=>Q .normal st
 | .region id ops true,Q,st=>Zkp X ops st ops.toList st []=true∧Zyo X ops (msk M id) ops.toList st (fun st'=>Zyl (msk M (id+1000000)) (ZkP m st') (Q .normal))
 | .region id ops false,Q,st=>Zvr X ops (msk M id) ops.toList st (fun st'=>Zyl (msk M (id+1000000)) (ZkP m st') (Q .normal))
 | .seq a b,Q,st=>E X M m a (Zk1 (E X M m b Q) Q) st
 | .cond c x y,Q,st=>oel (ZmX c st) fun p=>p.1=true∧(p.2=true→E X M m x Q st)∧(p.2=false→E X M m y Q st)
 | .block id c,Q,st=>E X M m c (Zdb id Q) st
 | .loop c,Q,st=>∃ (G:Type) (T:G→St) (J:G→Prop) (μ:G→Nat),(∃ g,J g∧Sub X (T g) st)∧∀ g,J g→E X M m c (Zk1 (fun st'=>∃ g',J g'∧Sub X (T g') st'∧μ g' < μ g) Q) (T g)
 | .exit id,Q,st=>Q (.exit id) st
 | .ret,Q,st=>Q .ret st
 | .label _,Q,st=>Q .normal st
 | _,_,_=>False

theorem Sub.trans' {X:Ctx} {a b c:St} (h:Sub X b c) (k:Sub X a b):Sub X a c:=fun S x w hs=>k S x w (h S x w hs)

theorem ZmM {X:Ctx} (hT:TOk X) (hm:X.P.follows .mixedOrders=true) {M:List (Nat×List Nat)} {m:Nat}:∀ (c:Code) (Q:Exit→St→Prop) (st:St),E X M m c Q st→∀ S a w,Sim X S st a w→c.wp X.P (fun e a' w'=>∃ st',Q e st'∧Sim X S st' a' w') a w:=by
 intro c
 induction c with
 | skip=>intro Q st h S a w hs; exact Go.wp_skip ⟨st,h,hs⟩
 | region id ops d =>
  intro Q st h S a w hs
  cases d with
  | false =>
   refine Znk hT (fun st' a' w' h' hs'=>?_) h hs
   obtain ⟨st2,h2,h3⟩:=Zm4 (X:=X) h'
   exact ⟨st2,h2,h3 S a' w' (Zqc m st' S a' w' hs')⟩
  | true =>
   refine ZhK hT hm (Q':=fun s=>∃ s',Le s' s∧Zyl (msk M (id+1000000)) (ZkP m s') (Q .normal)) (fun st' a' w' ⟨s',hle,h'⟩ hs'=>let ⟨st2,h2,h3⟩:=Zm4 (X:=X) h'; ⟨st2,h2,h3 S a' w' ((hle.sub (X:=X)).trans' (Zqc m s') S a' w' hs')⟩) (Zij (fun st' cs h'=>?_) _ _ _ (Zmg _ _ _ _ _ (.refl _) h.2 h.1)) hs
   rw [← and_assoc,← ZsD]
   exact h'
 | seq x y ihx ihy =>
  intro Q st h S a w hs
  refine wp_seq (wp_mono (ihx _ st h S a w hs) ?_)
  rintro e a' w' ⟨st',h',hs'⟩
  cases e with
  | normal=>exact ihy Q st' h' S a' w' hs'
  | _=>exact ⟨st',h',hs'⟩
 | cond c x y ihx ihy =>
  intro Q st h S a w hs
  simp only [E] at h
  cases hp:ZmX c st with
  | none=>rw [hp] at h; exact h.elim
  | some p =>
  rw [hp] at h
  obtain ⟨h1,h2,h3⟩:=h
  have hc:a.eval c=.bool p.2:=by
   obtain ⟨ok,ℓ,hsw⟩:=hs
   unfold ZmX at hp
   split at hp
   ·split at hp
    ·rename_i v hv
     exact Zkd hp (hsw.eval hv) h1
    ·cases hp
   ·simp only [Option.some.injEq] at hp; subst hp; rfl
   ·cases hp
  exact wp_cond_split hc (fun e=>ihx Q st (h2 e) S a w hs) (fun e=>ihy Q st (h3 e) S a w hs)
 | block id c ih =>
  intro Q st h S a w hs
  refine wp_block (wp_mono (ih _ st h S a w hs) ?_)
  rintro e a' w' ⟨st',h',hs'⟩
  cases e with
  | exit i =>
   simp only [Zdb] at h'
   simp only [Exit.inBlock]
   split <;> rename_i he
   ·rw [if_pos he] at h'; exact ⟨st',h',hs'⟩
   ·rw [if_neg he] at h'; exact ⟨st',h',hs'⟩
  | _=>exact ⟨st',h',hs'⟩
 | loop c ih =>
  intro Q st h S a w hs
  obtain ⟨G,T,J,μ,⟨g,hg,hsub⟩,hround⟩:=h
  refine wp_loop_ghost (fun n a w=>∃ g,J g∧μ g=n∧Sim X S (T g) a w) (μ g) ⟨g,hg,rfl,hsub S a w hs⟩ ?_
  rintro n a w ⟨g,hg,rfl,hs⟩
  refine wp_mono (ih _ _ (hround g hg) S a w hs) ?_
  rintro e a' w' ⟨st',h',hs'⟩
  cases e with
  | normal =>
   obtain ⟨g',h1,h2,h3⟩:=h'
   exact ⟨μ g',h3,g',h1,rfl,h2 S a' w' hs'⟩
  | _=>exact ⟨st',h',hs'⟩
 | exit id=>intro Q st h S a w hs; exact Go.wp_exit ⟨st,h,hs⟩
 | ret=>intro Q st h S a w hs; exact Go.wp_ret ⟨st,h,hs⟩
 | label l=>intro Q st h S a w hs; exact wp_label ⟨st,h,hs⟩
 | _=>intro Q st h; exact h.elim

theorem ZEG {X:Ctx} {M:List (Nat×List Nat)} {m:Nat}:∀ (c:Code) {Q Q':Exit→St→Prop} (hq:∀ e st,Q e st→Q' e st) (st:St),E X M m c Q st→E X M m c Q' st:=by
 intro c
 induction c with
 | skip=>intro Q Q' hq st h; exact hq _ _ h
 | region id ops d =>
  intro Q Q' hq st h
  cases d with
  | true=>exact ⟨h.1,Zqn (fun st'=>Zkv (fun st=>hq _ _) _ _) _ _ _ h.2⟩
  | false=>exact Zqk (fun st'=>Zkv (fun st=>hq _ _) _ _) _ _ _ h
 | seq x y ihx ihy =>
  intro Q Q' hq st h
  refine ihx (fun e st' he=>?_) st h
  cases e with
  | normal=>exact ihy hq st' he
  | _=>exact hq _ _ he
 | cond c x y ihx ihy =>
  intro Q Q' hq st h
  simp only [E] at h ⊢
  cases hp:ZmX c st with
  | none=>rw [hp] at h; exact h.elim
  | some p=>rw [hp] at h; exact ⟨h.1,fun e=>ihx hq st (h.2.1 e),fun e=>ihy hq st (h.2.2 e)⟩
 | block id c ih =>
  intro Q Q' hq st h
  refine ih (fun e st' he=>?_) st h
  cases e with
  | exit i =>
   simp only [Zdb] at he ⊢
   split <;> rename_i hi
   ·rw [if_pos hi] at he; exact hq _ _ he
   ·rw [if_neg hi] at he; exact hq _ _ he
  | _=>exact hq _ _ he
 | loop c ih =>
  intro Q Q' hq st h
  obtain ⟨G,T,J,μ,h0,hr⟩:=h
  refine ⟨G,T,J,μ,h0,fun g hg=>ih (fun e st' he=>?_) _ (hr g hg)⟩
  cases e with
  | normal=>exact he
  | _=>exact hq _ _ he
 | exit id=>intro Q Q' hq st h; exact hq _ _ h
 | ret=>intro Q Q' hq st h; exact hq _ _ h
 | label l=>intro Q Q' hq st h; exact hq _ _ h
 | _=>intro Q Q' hq st h; exact h.elim

def evS (st:St) (f:St→Prop):Prop:=f st
theorem ZHr {t:List (Nat×V)} {b:Zf} {k:Zr} {f:St→Prop}:evS ⟨t,b,k⟩ f=f ⟨t,b,k⟩:=Eq.trans rfl rfl
def Zms (X:Ctx) (M:List (Nat×List Nat)) (m:Nat) (c:Code) (Q:Exit→St→Prop) (st:St):Prop:=E X M m (.loop c) Q st
def prM (a:Nat) (st:St):St:=match a with
 | 0=>st
 | a=>ZkP a st
section
variable {X:Ctx} {M:List (Nat×List Nat)} {m:Nat} {st:St} {Q:Exit→St→Prop}
theorem ZEH:E X M m .skip Q st=Q .normal st:=Eq.trans rfl rfl
theorem Zt7 {id:Nat} {l:List Oper}:E X M m (.region id (List.toArray l) false) Q st=Zvr X (List.toArray l) (msk M id) l st (fun st'=>evS (ZkP m st') fun s=>Zyl (msk M (id+1000000)) s (Q .normal)):=Eq.trans rfl rfl
theorem Zyx {id:Nat} {l:List Oper}:E X M m (.region id (List.toArray l) true) Q st=(Zkp X (List.toArray l) st l st []=true∧Zyo X (List.toArray l) (msk M id) l st (fun st'=>evS (ZkP m st') fun s=>Zyl (msk M (id+1000000)) s (Q .normal))):=Eq.trans rfl rfl
theorem Zvt {ops:Array Oper} {ms:List Nat} {R:St→Prop}:Zyo X ops ms [] st R=R st:=Eq.trans rfl rfl
theorem Zmf {ops:Array Oper} {o:Oper} {l:List Oper} {R:St→Prop}:Zyo X ops [] (o::l) st R=wp (ZeW X ops o) st fun p=>evS (st.apply o.dst p.1 p.2) fun s=>Zyo X ops [] l s R:=Eq.trans rfl rfl
theorem Zqm {ops:Array Oper} {a:Nat} {ms:List Nat} {o:Oper} {l:List Oper} {R:St→Prop}:Zyo X ops (a::ms) (o::l) st R=wp (ZeW X ops o) st fun p=>evS (prM a (st.apply o.dst p.1 p.2)) fun s=>Zyo X ops ms l s R:=by
 simp only [Zyo,List.tail_cons,evS]
 congr 1; funext p
 congr 1
 unfold pr prM
 split <;> simp_all
theorem Zvs {ops:Array Oper} {ms:List Nat} {R:St→Prop}:Zvr X ops ms [] st R=R st:=Eq.trans rfl rfl
theorem Zme {ops:Array Oper} {o:Oper} {l:List Oper} {R:St→Prop}:Zvr X ops [] (o::l) st R=(dstOk X o∧wp (ZeW X ops o) st fun p=>ZkC st p.2.new∧evS (st.apply o.dst p.1 p.2) fun s=>Zvr X ops [] l s R):=Eq.trans rfl rfl
theorem Zqj {ops:Array Oper} {a:Nat} {ms:List Nat} {o:Oper} {l:List Oper} {R:St→Prop}:Zvr X ops (a::ms) (o::l) st R=(dstOk X o∧wp (ZeW X ops o) st fun p=>ZkC st p.2.new∧evS (prM a (st.apply o.dst p.1 p.2)) fun s=>Zvr X ops ms l s R):=by
 simp only [Zvr,List.tail_cons,evS]
 congr 2; funext p
 congr 2
 unfold pr prM
 split <;> simp_all
theorem ZuX {Q:St→Prop}:Zyl [] st Q=Q st:=Eq.trans rfl rfl
theorem ZpJ {h:Nat} {hs:List Nat} {Q:St→Prop}:Zyl (h::hs) st Q=frz h st fun s=>Zyl hs s Q:=Eq.trans rfl rfl
theorem ZE2 {h:Nat} {t:List (Nat×V)} {b:Zf} {k:Zr} {Q:St→Prop}:frz h ⟨t,b,k⟩ Q=if h < 1000 then (oel (lk t h) fun v=>ZGW ⟨t,b,k⟩ h v Q) else oel (lk b ⟨1,h / 1000 - 1⟩) fun cs=>oel (cs[h % 1000]?) fun c=>ZHz ⟨t,b,k⟩ ⟨1,h / 1000 - 1⟩ cs (h % 1000) c Q:=Eq.trans rfl rfl
theorem ZAI {h:Nat} {t:List (Nat×V)} {b:Zf} {k:Zr} {m:Name} {n:Nat} {Q:St→Prop}:ZGW ⟨t,b,k⟩ h (.c (.bs m n)) Q=oel (lk b m) fun cs=>∃ k' wd,cs=ZGF k' wd n∧evS ⟨(h,.c (.rws k' wd n))::t,rm b m,k⟩ Q:=Eq.trans rfl rfl
theorem ZuW {h:Nat} {t:List (Nat×V)} {b:Zf} {k:Zr} {n:Name} {len:Nat} {Q:St→Prop}:ZGW ⟨t,b,k⟩ h (.c (.arr n len)) Q=oel (lk k n) fun tk=>(tk.isArr=true∧len=tk.l.length)∧evS ⟨(h,.c (.d (.list tk.l)))::t,b,rm k n⟩ Q:=Eq.trans rfl rfl
theorem ZuV {m:Name} {cs:List C} {j:Nat} {t:List (Nat×V)} {b:Zf} {k:Zr} {n:Name} {len:Nat} {Q:St→Prop}:ZHz ⟨t,b,k⟩ m cs j (.arr n len) Q=oel (lk k n) fun tk=>(tk.isArr=true∧len=tk.l.length)∧evS ⟨t,(m,cs.set j (.d (.list tk.l)))::b,rm k n⟩ Q:=Eq.trans rfl rfl
theorem ZFd {κ α:Type} [DecidableEq κ] {x:κ}:rm ([]:List (κ×α)) x=[]:=Eq.trans rfl rfl
theorem ZBp {κ α:Type} [DecidableEq κ] {x y:κ} {v:α} {l:List (κ×α)}:rm ((y,v)::l) x=if y=x then rm l x else (y,v)::rm l x:=by
 by_cases h:y=x <;> simp [rm,h]
theorem ZF8 {id:Nat}:msk [] id=[]:=Eq.trans rfl rfl
theorem ZDD {i id:Nat} {x:List Nat}:msk ((i,x)::M) id=if i=id then x else msk M id:=Eq.trans rfl rfl
theorem ZLU:prM 0 st=st:=Eq.trans rfl rfl
theorem ZLV {t:List (Nat×V)} {b:Zf} {k:Zr} {a:Nat}:prM (a+1) ⟨t,b,k⟩=ZkP (a+1) ⟨t,b,k⟩:=Eq.trans rfl rfl
theorem ZG3 {a b:Code}:E X M m (.seq a b) Q st=E X M m a (Zk1 (E X M m b Q) Q) st:=Eq.trans rfl rfl
theorem ZED {c:Operand} {x y:Code}:E X M m (.cond c x y) Q st=oel (ZmX c st) fun p=>p.1=true∧(p.2=true→E X M m x Q st)∧(p.2=false→E X M m y Q st):=Eq.trans rfl rfl
theorem Zyq {id:Nat} {c:Code}:E X M m (.block id c) Q st=E X M m c (Zdb id Q) st:=Eq.trans rfl rfl
theorem ZEE {id:Nat}:E X M m (.exit id) Q st=Q (.exit id) st:=Eq.trans rfl rfl
theorem ZG2:E X M m .ret Q st=Q .ret st:=Eq.trans rfl rfl
theorem ZyG {t:Nat}:E X M m (.label t) Q st=Q .normal st:=Eq.trans rfl rfl
theorem ZEF {c:Code}:E X M m (.loop c) Q st=Zms X M m c Q st:=Eq.trans rfl rfl
theorem Zxd:ZkQ m []=[]:=Eq.trans rfl rfl
theorem ZsU {t:Nat} {v:V} {l:List (Nat×V)}:ZkQ m ((t,v)::l)=if (m >>> t) % 2=1 then (t,v)::ZkQ m l else ZkQ m l:=by
 simp only [ZkQ,List.filter_cons,beq_iff_eq]
theorem ZDQ {t:List (Nat×V)} {b:Zf} {k:Zr}:ZkP m ⟨t,b,k⟩=⟨keep [] (ZkQ m t),keep [] b,keep [] k⟩:=Eq.trans rfl rfl
end

def Zhc (X:Ctx) (M:List (Nat×List Nat)) (m:Nat) (c:Code) (Q:Exit→St→Prop):Nat→St→Prop
 | 0,_=>False
 | n+1,st=>E X M m c (Zk1 (Zhc X M m c Q n) Q) st
theorem ZaU {X:Ctx} {M:List (Nat×List Nat)} {m n:Nat} {c:Code} {Q:Exit→St→Prop} {st:St}:Zhc X M m c Q (n+1) st=E X M m c (Zk1 (Zhc X M m c Q n) Q) st:=Eq.trans rfl rfl
theorem ZaV {X:Ctx} {M:List (Nat×List Nat)} {m:Nat} {c:Code} {Q:Exit→St→Prop} {st:St}:Zhc X M m c Q 0 st=False:=Eq.trans rfl rfl

theorem Zem {X:Ctx} {M:List (Nat×List Nat)} {m:Nat} {c:Code} {Q:Exit→St→Prop} {st:St} (n:Nat) (h:Zhc X M m c Q n st):Zms X M m c Q st:=by
 refine ⟨Nat×St,(·.2),fun g=>Zhc X M m c Q g.1 g.2,(·.1),⟨(n,st),h,.refl _ _⟩,?_⟩
 rintro ⟨n,st⟩ h
 cases n with
 | zero=>exact h.elim
 | succ n =>
  refine ZEG c (fun e st' he=>?_) st h
  cases e with
  | normal=>exact ⟨(n,st'),he,.refl _ _,Nat.lt_succ_self n⟩
  | _=>exact he

theorem Zk {X:Ctx} {M:List (Nat×List Nat)} {m:Nat} {c:Code} {Q:Exit→St→Prop} {st:St} {G:Type} (T:G→St) (J:G→Prop) (μ:G→Nat) (nx:G→G) (g0:G) (h0:J g0)
  (hs:Zri (T g0).t st.t∧Zll (T g0).b st.b∧Zlm (T g0).k st.k)
  (hr:∀ g,J g→evS ⟨(T g).t++keep (Zkq c) st.t,(T g).b++keep ((T g0).b.map (·.1)) st.b,(T g).k++keep ((T g0).k.map (·.1)) st.k⟩ (E X M m c (Zk1 (fun st'=>(Zri ((T (nx g)).t++keep (Zkq c) st.t) st'.t∧Zll ((T (nx g)).b++keep ((T g0).b.map (·.1)) st.b) st'.b∧Zlm ((T (nx g)).k++keep ((T g0).k.map (·.1)) st.k) st'.k)∧J (nx g)∧μ (nx g) < μ g) Q))):Zms X M m c Q st:=by
 refine ⟨G,fun g=>⟨(T g).t++keep (Zkq c) st.t,(T g).b++keep ((T g0).b.map (·.1)) st.b,(T g).k++keep ((T g0).k.map (·.1)) st.k⟩,J,μ,
  ⟨g0,h0,.of (ZtZ hs.1 (ZCx _ _)) (ZtX hs.2.1 (Zrg _ _)) (ZtY hs.2.2 (Zrh _ _))⟩,fun g hg=>ZEG c (fun e st' he=>?_) _ (hr g hg)⟩
 cases e with
 | normal=>exact ⟨nx g,he.2.1,.of he.1.1 he.1.2.1 he.1.2.2,he.2.2⟩
 | _=>exact he

theorem spec_of_E {X:Ctx} {lv:Nat} {f:FuncId} {fn:Func} {c:Code} {args:List V} {b b':Zf} {k k':Zr} {r:V} (M:List (Nat×List Nat)) (m:Nat) (hL:X.L=lv+1) (hn:X.n=fn.ntmps) (hT:TOk X) (hm:X.P.follows .mixedOrders=true)
  (hf:X.P.funcs[f]?=some fn) (hb:fn.body=some c) (hname:(fn.name == "runtime.NumGoroutine")=false) (ha:args.length≤fn.ntmps) (hlv:ZC2 lv r b' k')
  (h:evS ⟨Zuf 0 args,b,k⟩ (E X M m c (ZES X fn.results.toList r b' k'))):Spec X.P lv f args b k r b' k' :=
 ZkZ hL hn hT hm hf hb hname ha hlv ZsF (ZmM hT hm c _ _ h)

theorem ZbW {X:Ctx} {lv:Nat} {f:FuncId} {fn:Func} {c:Code} {args:List V} {b b0 b':Zf} {k k0 k':Zr} {r0 r:V} (M:List (Nat×List Nat)) (m:Nat) (s F:Name) (hL:X.L=lv+1) (hn:X.n=fn.ntmps) (hT:TOk X) (hm:X.P.follows .mixedOrders=true)
  (hf:X.P.funcs[f]?=some fn) (hb:fn.body=some c) (hname:(fn.name == "runtime.NumGoroutine")=false) (ha:args.length≤fn.ntmps)
  (hr:r=r0.ren (ZkN s F)) (hb':b'=Zih (ZkN s F) b0) (hk':k'=Zii (ZkN s F) k0) (hlv:ZC2 lv r b' k') (hsl:¬ s.lv≤lv)
  (hF:(s::r0.names++ZJ b0++ZK k0).all (fun n=>decide (n≠F))=true) (hFb:lk b F=none) (hFk:lk k F=none) (hsn:(lk b0 s).isSome=true∨(lk k0 s).isSome=true)
  (h:evS ⟨Zuf 0 args,b,k⟩ (E X M m c (ZES X fn.results.toList r0 b0 k0))):Spec X.P lv f args b k r b' k' :=
 Zk0 s F hL hn hT hm hf hb hname ha hr hb' hk' hlv hsl hF hFb hFk hsn ZsF (ZmM hT hm c _ _ h)

end Go.Vam
end
section
set_option linter.unusedVariables false
set_option linter.unusedSimpArgs false
namespace Go.Vam

theorem below_of_ext {w w':World} (h:Ext (fun _=>False) w w'):Go.RowKit.Below w.heap.size w w' :=
 ⟨h.os,h.tape,h.output,h.size,fun k hk=>h.block k hk (fun h=>h)⟩

theorem ZCt {w:World} {x:Addr} {v:Value} (h:w.cell? x=some v):x.spot=none:=by
 unfold World.cell? at h
 split at h
 ·split at h
  ·cases h
  ·rename_i hs; simpa using hs
 ·cases h

end Go.Vam
end
section
set_option linter.unusedVariables false
set_option linter.unusedSimpArgs false
namespace Go.Vam

inductive Sh where
 | int (k:IntKind)
 | bool
 | str
 | sl (agg:Bool) (fs:List Sh)

mutual
def ZCS:Sh→D→Prop
 | .int k,d=>∃ n,d=.int k n∧(Lit.int k n).wf=true
 | .bool,d=>∃ b,d=.bool b
 | .str,d=>∃ s,d=.str s
 | .sl agg fs,d=>∃ l,d=.list l∧∀ x∈l,∃ cs,FitsL fs cs∧x=bif agg then .agg cs else cs.headD (.agg [])
def FitsL:List Sh→List D→Prop
 | [],ds=>ds=[]
 | s::ss,ds=>∃ e es,ds=e::es∧ZCS s e∧FitsL ss es
end

theorem FitsL.len:∀ (ss:List Sh) (ds:List D),FitsL ss ds→ds.length=ss.length
 | [],ds,h=>by simp only [FitsL] at h; subst h; rfl
 | s::ss,ds,h=>by
  simp only [FitsL] at h
  obtain ⟨e,es,rfl,_,h⟩:=h
  simp [FitsL.len ss es h]

theorem FitsL.append:∀ (ss tt:List Sh) (ds es:List D),FitsL ss ds→FitsL tt es→FitsL (ss++tt) (ds++es)
 | [],tt,ds,es,h,h'=>by simp only [FitsL] at h; subst h; exact h'
 | s::ss,tt,ds,es,h,h'=>by
  simp only [FitsL] at h
  obtain ⟨e,es',rfl,h1,h2⟩:=h
  simp only [List.cons_append,FitsL]
  exact ⟨e,_,rfl,h1,FitsL.append ss tt es' es h2 h'⟩

def cat (P:Program) (g:TypeId→Option (List Sh)):List Field→Nat→Option (List Sh)
 | [],_=>some []
 | f::fs,off=>if f.offset=off then (g f.type).bind fun a=>if a.length=P.cellsOf f.type then (cat P g fs (off+a.length)).map (a++·) else none else none

def ZAN (P:Program) (t:TypeId):Bool:=match P.underlying t with
 | some (.struct _)=>true
 | _=>false

def shT (P:Program):Nat→TypeId→Option (List Sh)
 | 0,_=>none
 | n+1,t=>match P.underlying t with
  | some .bool=>some [.bool]
  | some (.int k)=>some [.int k]
  | some .string=>some [.str]
  | some (.slice e)=>(shT P n e).bind fun fs=>if fs.length=P.cellsOf e∧0 < fs.length∧(ZAN P e=true∨fs.length=1) then some [.sl (ZAN P e) fs] else none
  | some (.struct fs)=>(cat P (shT P n) fs.toList 0).bind fun ss=>if ss.length=P.cellsOf t then some ss else none
  | _=>none

theorem Zif {α:Type} {R:Nat→α→Prop}:∀ n:Nat,(∀ i,i < n→∃ p,R i p)→∃ l:List α,l.length=n∧∀ i p,l[i]?=some p→R i p
 | 0,_=>⟨[],rfl,by simp⟩
 | n+1,h=>by
  obtain ⟨l,h1,h2⟩:=Zif n (fun i hi=>h i (by omega))
  obtain ⟨p,hp⟩:=h n (by omega)
  refine ⟨l++[p],by simp [h1],fun i q hq=>?_⟩
  by_cases hi:i < n
  ·rw [List.getElem?_append_left (by omega)] at hq; exact h2 i q hq
  ·have hl:=(List.getElem?_eq_some_iff.1 hq).1
   simp [h1] at hl
   have:i=n:=by omega
   subst this
   rw [List.getElem?_append_right (by omega)] at hq
   simp [h1] at hq
   subst hq; exact hp

def Zzw (w:World) (cs:List Value) (ds:List D):Prop :=
 ds.length=cs.length∧∀ (i:Nat) u y,cs[i]?=some u→ds[i]?=some y→y.sc=true∧Rep (fun x _=>x < w.heap.size) w u y

theorem Ze0 {w:World} {u:Value} {y:D} (hs:y.sc=true) (h:Rep (fun x _=>x < w.heap.size) w u y):Zzw w [u] [y]:=by
 refine ⟨rfl,fun i u' y' hu hy=>?_⟩
 cases i with
 | zero=>simp at hu hy; subst hu; subst hy; exact ⟨hs,h⟩
 | succ i=>simp at hu

section
variable {H:Type} {enc:TypeId×Value→H} {P:Program} {w:World} {base:Nat} {spare:Nat→Bool} {held:Bool}

theorem Zpo {fuel n:Nat} {cs:List Value}
  (ih:∀ (t:TypeId) (cs:List Value) (x:DataW H×List MemPlace) (ss:List Sh),DataW.trod enc P w base spare held fuel t cs=some x→shT P n t=some ss→∃ ds,FitsL ss ds∧Zzw w cs ds) :
  ∀ (l:List Field) (off:Nat) (ss:List Sh),cat P (shT P n) l off=some ss→(∀ f∈l,∃ y,DataW.trod enc P w base spare held fuel f.type ((cs.drop f.offset).take (P.cellsOf f.type))=some y)→
   ∃ ds,FitsL ss ds∧∀ (i:Nat) u y,cs[off+i]?=some u→ds[i]?=some y→y.sc=true∧Rep (fun x _=>x < w.heap.size) w u y
 | [],off,ss,h,_=>by
  simp only [cat,Option.some.injEq] at h
  subst h
  exact ⟨[],by simp only [FitsL],by simp⟩
 | f::l,off,ss,h,hf=>by
  simp only [cat] at h
  split at h
  case isFalse=>cases h
  rename_i hoff
  simp only [Option.bind_eq_some_iff] at h
  obtain ⟨a,ha,h⟩:=h
  split at h
  case isFalse=>cases h
  rename_i hlen
  simp only [Option.map_eq_some_iff] at h
  obtain ⟨b,hb,rfl⟩:=h
  obtain ⟨y,hy⟩:=hf f (by simp)
  obtain ⟨ds,h1,h2⟩:=ih _ _ _ _ hy ha
  obtain ⟨es,h3,h4⟩:=Zpo ih l _ b hb (fun g hg=>hf g (by simp [hg]))
  have hdl:=FitsL.len _ _ h1
  refine ⟨ds++es,FitsL.append _ _ _ _ h1 h3,fun i u z hu hz=>?_⟩
  by_cases hi:i < ds.length
  ·rw [List.getElem?_append_left hi] at hz
   refine h2.2 i u z ?_ hz
   rw [List.getElem?_take_of_lt (by omega),List.getElem?_drop,hoff]
   exact hu
  ·rw [List.getElem?_append_right (by omega)] at hz
   refine h4 (i - ds.length) u z ?_ hz
   rw [show off+a.length+(i - ds.length)=off+i by omega]
   exact hu

theorem Zyj:∀ (fuel n:Nat) (t:TypeId) (cs:List Value) (x:DataW H×List MemPlace) (ss:List Sh),DataW.trod enc P w base spare held fuel t cs=some x→shT P n t=some ss→∃ ds,FitsL ss ds∧Zzw w cs ds:=by
 intro fuel
 induction fuel with
 | zero=>intro n t cs x ss h; simp [DataW.trod] at h
 | succ fuel ih =>
  intro n t cs x ss h hs
  cases n with
  | zero=>cases hs
  | succ n =>
  simp only [shT] at hs
  split at hs
  ·rename_i ht
   simp only [Option.some.injEq] at hs
   subst hs
   obtain ⟨b,rfl,_⟩:=DataW.trod_bool ht h
   exact ⟨[.bool b],by simp [FitsL,ZCS],Ze0 rfl (.bool b)⟩
  ·rename_i k ht
   simp only [Option.some.injEq] at hs
   subst hs
   obtain ⟨m,rfl,_,hw⟩:=DataW.trod_int ht h
   exact ⟨[.int k m],by simp only [FitsL,ZCS]; exact ⟨_,_,rfl,⟨m,rfl,hw⟩,rfl⟩,Ze0 rfl (.int k m)⟩
  ·rename_i ht
   simp only [Option.some.injEq] at hs
   subst hs
   obtain ⟨s,rfl,_,_⟩:=DataW.trod_string ht h
   exact ⟨[.str s],by simp [FitsL,ZCS],Ze0 rfl (.str s)⟩
  ·rename_i e ht
   simp only [Option.bind_eq_some_iff] at hs
   obtain ⟨fs,hfs,hs⟩:=hs
   split at hs
   case isFalse=>cases hs
   rename_i hc
   obtain ⟨hc1,hc2,hc3⟩:=hc
   simp only [Option.some.injEq] at hs
   subst hs
   have hnil:∃ ds,FitsL [Sh.sl (ZAN P e) fs] ds∧∀ a cap,Zzw w [.slice a 0 cap] ds:=by
    refine ⟨[.list []],?_,fun a cap=>Ze0 rfl (.nil a cap)⟩
    simp only [FitsL,ZCS]
    exact ⟨_,_,rfl,⟨[],rfl,by simp⟩,rfl⟩
   rcases DataW.trod_slice ht h with ⟨rfl,_⟩ | ⟨a,len,cap,elems,rest,n',hn',rfl,rfl,hb,hl,hm,hlen,hel,hsp,hns⟩
   ·obtain ⟨ds,h1,h2⟩:=hnil; exact ⟨ds,h1,h2 _ _⟩
   ·by_cases h0:len=0
    ·subst h0; obtain ⟨ds,h1,h2⟩:=hnil; exact ⟨ds,h1,h2 _ _⟩
    ·have hnn:n'=fuel:=by omega
     subst hnn
     have each:∀ i,i < len→∃ p:List Value×List D,w.cells? base (a.add (i*P.cellsOf e)) (P.cellsOf e)=some p.1∧FitsL fs p.2∧Zzw w p.1 p.2:=by
      intro i hi
      have h1:=hel i hi
      rw [List.getElem?_eq_getElem (by omega)] at h1
      simp only [Option.bind_eq_some_iff] at h1
      obtain ⟨us,h2,h3⟩:=h1
      obtain ⟨ds,h4,h5⟩:=ih _ _ _ _ _ h3 hfs
      exact ⟨(us,ds),h2,h4,h5⟩
     obtain ⟨l,hll,hle⟩:=Zif len each
     -- the first cell tells that the address is plain
     have hsp0:a.spot=none:=by
      have hp:l[0]?=some l[0]:=List.getElem?_eq_getElem (by omega)
      obtain ⟨h1,_,_⟩:=hle 0 _ hp
      obtain ⟨_,h2,h3⟩:=World.cells?_some h1
      have h4:=h3 0 (by omega)
      rw [List.getElem?_eq_getElem (by omega)] at h4
      have:=ZCt h4
      simpa [Addr.add] using this
     obtain ⟨blk,o,sp⟩:=a
     simp only at hsp0
     subst hsp0
     have hcell:∀ (i:Nat) (p:List Value×List D) (j:Nat) (u:Value),l[i]?=some p→p.1[j]?=some u→w.cell? ⟨blk,o+i*P.cellsOf e+j,none⟩=some u:=by
      intro i p j u hp hu
      obtain ⟨h1,_,_⟩:=hle i p hp
      obtain ⟨_,h2,h3⟩:=World.cells?_some h1
      have hj:j < P.cellsOf e:=by rw [← h2]; exact (List.getElem?_eq_some_iff.1 hu).1
      have h4:=h3 j hj
      rw [hu] at h4
      rw [← h4]
      congr 1
      unfold Addr.add
      split <;> split <;> simp_all <;> omega
     let f:List Value×List D→D:=fun p=>bif ZAN P e then .agg p.2 else p.2.headD (.agg [])
     have hcells:∀ (i:Nat) (p:List Value×List D),l[i]?=some p→(f p).cells=p.2:=by
      intro i p hp
      obtain ⟨_,h1,h2⟩:=hle i p hp
      simp only [f]
      cases hstr:ZAN P e with
      | true=>rfl
      | false =>
       have h3:fs.length=1:=by
        rcases hc3 with h | h
        ·rw [hstr] at h; cases h
        ·exact h
       have h4:=FitsL.len _ _ h1
       obtain ⟨us,ds⟩:=p
       match ds,h4 with
       | [d],_ =>
        have h5:us.length=1:=by have:=h2.1; simpa using this.symm
        match us,h5 with
        | [u],_ =>
         have:=(h2.2 0 u d (by simp) (by simp)).1
         simp only [cond_false,List.headD_cons]
         cases d <;> simp_all [D.sc,D.cells]
       | [],h4=>simp at h4; omega
       | _::_::_,h4=>simp at h4; omega
     refine ⟨[.list (l.map f)],?_,Ze0 rfl ?_⟩
     ·simp only [FitsL,ZCS]
      refine ⟨_,_,rfl,⟨_,rfl,fun x hx=>?_⟩,rfl⟩
      obtain ⟨p,hp,rfl⟩:=List.mem_map.1 hx
      obtain ⟨i,hi⟩:=List.getElem?_of_mem hp
      exact ⟨p.2,(hle i p hi).2.1,rfl⟩
     ·have:=Rep.list (ok:=fun x _=>x < w.heap.size) (w:=w) blk o cap (P.cellsOf e) (l.map f) (fun i j=>((l[i]?).bind fun p=>p.1[j]?).getD undef) (by simp [hll]; exact hl) (fun x hx=>?_) (fun i x j y hx hy=>?_) (fun i x j y hx hy=>?_)
      ·rw [List.length_map,hll] at this; exact this
      ·obtain ⟨p,hp,rfl⟩:=List.mem_map.1 hx
       obtain ⟨i,hi⟩:=List.getElem?_of_mem hp
       rw [hcells i p hi,FitsL.len _ _ (hle i p hi).2.1,hc1]
      all_goals
       simp only [List.getElem?_map,Option.map_eq_some_iff] at hx
       obtain ⟨p,hp,rfl⟩:=hx
       rw [hcells i p hp] at hy
       obtain ⟨h1,h2,h3⟩:=hle i p hp
       have hjl:j < p.1.length:=by rw [← h3.1]; exact (List.getElem?_eq_some_iff.1 hy).1
       have hu:p.1[j]?=some p.1[j]:=List.getElem?_eq_getElem hjl
       have hval:((l[i]?).bind fun p=>p.1[j]?).getD undef=p.1[j]:=by rw [hp]; simp [hu]
       obtain ⟨h4,h5⟩:=h3.2 j _ y hu hy
      ·have hc:=hcell i p j _ hp hu
       refine ⟨h4,?_,?_⟩
       ·unfold World.cell? at hc
        split at hc
        ·rename_i hh; exact Z8 hh
        ·cases hc
       ·rw [hc]; exact congrArg some hval.symm
      ·rw [hval]; exact h5
  ·rename_i fs ht
   simp only [Option.bind_eq_some_iff] at hs
   obtain ⟨ss',hss,hs⟩:=hs
   split at hs
   case isFalse=>cases hs
   rename_i hlen
   simp only [Option.some.injEq] at hs
   subst hs
   obtain ⟨xs,n',hn',_,hcs,hxl,hf⟩:=DataW.trod_struct ht h
   have hnn:n'=fuel:=by omega
   subst hnn
   obtain ⟨ds,h1,h2⟩:=Zpo (cs:=cs) (ih n) fs.toList 0 ss' hss (fun f hf'=>by
    obtain ⟨i,hi⟩:=List.getElem?_of_mem hf'
    have hi':fs[i]?=some f:=by simpa using hi
    have:=hf i f hi'
    have hil:i < xs.length:=by rw [hxl]; exact (Array.getElem?_eq_some_iff.1 hi').1
    rw [List.getElem?_eq_getElem hil] at this
    exact ⟨_,this⟩)
   refine ⟨ds,h1,?_,fun i u y hu hy=>h2 i u y (by rw [Nat.zero_add]; exact hu) hy⟩
   rw [FitsL.len _ _ h1,hlen,hcs]
  ·cases hs

theorem rv_cell {ℓ:Loc} {t:TypeId} {v:Value} {d:DataW H} {ps:List MemPlace} (n:Nat) {s:Sh} (h:DataW.Trod enc P w base spare held t v d ps) (hv:v.cells=#[v]) (hs:shT P n t=some [s]) :
  ∃ x,ZCS s x∧RV (fun x _=>x < w.heap.size) ℓ w v (.c (.d x)):=by
 obtain ⟨fuel,h⟩:=h
 rw [hv] at h
 obtain ⟨ds,h1,h2⟩:=Zyj fuel n t _ _ _ h hs
 simp only [FitsL] at h1
 obtain ⟨e,es,rfl,h3,rfl⟩:=h1
 have:=h2.2 0 v e (by simp) (by simp)
 exact ⟨e,h3,this.2,this.1⟩
end

theorem fits_ints {k:IntKind} {x:D} (h:ZCS (.sl false [.int k]) x):∃ l:List Int,x=.list (LI k l)∧∀ n∈l,(Lit.int k n).wf=true:=by
 simp only [ZCS] at h
 obtain ⟨l,rfl,h⟩:=h
 have h':∀ x∈l,∃ n,x=.int k n∧(Lit.int k n).wf=true:=by
  intro x hx
  obtain ⟨cs,h1,h2⟩:=h x hx
  simp only [FitsL,ZCS] at h1
  obtain ⟨e,es,rfl,⟨n,rfl,hw⟩,rfl⟩:=h1
  exact ⟨n,by simpa using h2,hw⟩
 clear h
 refine ⟨Zc l,?_,fun n hn=>?_⟩
 ·congr 1
  simp only [LI,Zc,List.map_map]
  conv=>lhs; rw [← List.map_id l]
  apply List.map_congr_left
  intro x hx
  obtain ⟨n,rfl,_⟩:=h' x hx
  rfl
 ·simp only [Zc,List.mem_map] at hn
  obtain ⟨x,hx,rfl⟩:=hn
  obtain ⟨n,rfl,hw⟩:=h' x hx
  exact hw

end Go.Vam
end
