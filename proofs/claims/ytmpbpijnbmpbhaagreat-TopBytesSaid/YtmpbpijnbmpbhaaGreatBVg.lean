/- A part of the proof. Conditions: none. -/
import Derived.Test.YtmpbpijnbmpbhaaGreatBVf
import Derived.Deep.LoopGhost
section
set_option linter.unusedVariables false
set_option linter.unusedSimpArgs false
namespace Go.Vam

structure Rec where
 dst:Option Nat
 R:List Key
 gd:Option Bool
 r:Out

def Rec.W (c:Rec):List Key:=(c.dst.map Key.t).toList++c.r.b.map (fun p=>Key.b p.1)++c.r.k.map (fun p=>Key.k p.1)
def Rec.nms (c:Rec):List Name:=c.r.v.nms++c.r.b.flatMap (fun p=>p.1::p.2.flatMap C.nms)++c.r.k.map (·.1)

def Rec.app (c:Rec) (st:St):St:=st.apply c.dst c.gd c.r

inductive KV where
 | t (v:Option V)
 | b (v:Option (List C))
 | k (v:Option Tok)
def St.at (st:St):Key→KV
 | .t n=>.t (lk st.t n)
 | .b n=>.b (lk st.b n)
 | .k n=>.k (lk st.k n)

theorem Zky {α:Type} (l:List (Name×α)) (n:Name) (f:Name→Key) (hf:∀ a b,f a=f b→a=b) (h:f n∉l.map fun p=>f p.1):lk l n=none:=by
 refine ZsL l n (fun p hp e=>h (List.mem_map.2 ⟨p,hp,by rw [e]⟩))

theorem ZfT {α:Type} (l:List (Name×α)) (n:Name) (f:Name→Key) (hf:∀ a b,f a=f b→a=b) (h:f n∈l.map fun p=>f p.1):(lk l n).isSome=true:=by
 induction l with
 | nil=>simp at h
 | cons p l ih =>
  obtain ⟨k,v⟩:=p
  by_cases e:k=n
  ·subst e; simp [lk]
  ·rw [Zh _ _ e]
   simp only [List.map_cons,List.mem_cons] at h
   rcases h with h | h
   ·exact absurd (hf _ _ h).symm e
   ·exact ih h

theorem Rec.app_out (c:Rec) (st:St) {x:Key} (h:x∉c.W):(c.app st).at x=st.at x:=by
 unfold Rec.W at h
 simp only [List.mem_append,not_or] at h
 cases x with
 | t n =>
  simp only [St.at,Rec.app,St.apply]
  congr 1
  unfold ZGn
  have h1:=h.1.1
  cases hd:c.dst with
  | none=>cases c.gd <;> rfl
  | some d =>
   rw [hd] at h1
   have hne:d≠n:=fun e=>by simp [e] at h1
   cases c.gd <;> simp only [Zh _ _ hne]
 | b n =>
  simp only [St.at,Rec.app,St.apply,ZbU]
  rw [Zky c.r.b n Key.b (fun a b e=>by cases e; rfl) h.1.2]; rfl
 | k n =>
  simp only [St.at,Rec.app,St.apply,ZbU]
  rw [Zky c.r.k n Key.k (fun a b e=>by cases e; rfl) h.2]; rfl

theorem Rec.app_in (c:Rec) (st st':St) {x:Key} (h:x∈c.W):(c.app st).at x=(c.app st').at x:=by
 unfold Rec.W at h
 simp only [List.mem_append] at h
 cases x with
 | t n =>
  simp only [St.at,Rec.app,St.apply]
  have h1:Key.t n∈(c.dst.map Key.t).toList:=by
   rcases h with (h | h) | h
   ·exact h
   ·simp at h
   ·simp at h
  cases hd:c.dst with
  | none=>rw [hd] at h1; simp at h1
  | some d =>
   rw [hd] at h1
   simp at h1
   subst h1
   cases c.gd <;> simp [ZGn,Zl]
 | b n =>
  have h1:Key.b n∈c.r.b.map fun p=>Key.b p.1:=by
   rcases h with (h | h) | h
   ·cases hd:c.dst <;> rw [hd] at h <;> simp at h
   ·exact h
   ·simp at h
  have:=ZfT c.r.b n Key.b (fun a b e=>by cases e; rfl) h1
  obtain ⟨v,hv⟩:=Option.isSome_iff_exists.1 this
  simp only [St.at,Rec.app,St.apply,ZbU,hv]; rfl
 | k n =>
  have h1:Key.k n∈c.r.k.map fun p=>Key.k p.1:=by
   rcases h with (h | h) | h
   ·cases hd:c.dst <;> rw [hd] at h <;> simp at h
   ·simp at h
   ·exact h
  have:=ZfT c.r.k n Key.k (fun a b e=>by cases e; rfl) h1
  obtain ⟨v,hv⟩:=Option.isSome_iff_exists.1 this
  simp only [St.at,Rec.app,St.apply,ZbU,hv]; rfl

theorem St.at_eqv {st st':St} (h:∀ x,st'.at x=st.at x):st.Eqv st' where
 t n:=by have:=h (.t n); simpa [St.at] using this
 b n:=by have:=h (.b n); simpa [St.at] using this
 k n:=by have:=h (.k n); simpa [St.at] using this

def ZaM (S:Nat→Bool):List Rec→Nat→St→St
 | [],_,st=>st
 | c::cs,i,st=>ZaM S cs (i+1) (if S i=true then c.app st else st)

theorem ZcN (S T:Nat→Bool) (x:Key):∀ (cs:List Rec) (i:Nat) (st st':St),(∀ j c,cs[j]?=some c→x∈c.W→S (i+j)=T (i+j))→st.at x=st'.at x→(ZaM S cs i st).at x=(ZaM T cs i st').at x
 | [],_,_,_,_,h=>h
 | c::cs,i,st,st',hall,h=>by
  simp only [ZaM]
  refine ZcN S T x cs (i+1) _ _ (fun j c' hj hx=>?_) ?_
  ·have:=hall (j+1) c' (by simpa using hj) hx
   rwa [show i+(j+1)=i+1+j by omega] at this
  ·by_cases hx:x∈c.W
   ·have e:=hall 0 c (by simp) hx
    simp only [Nat.add_zero] at e
    rw [e]
    cases T i with
    | true=>simp only [if_true]; exact c.app_in _ _ hx
    | false=>simpa using h
   ·have e1:(if S i=true then c.app st else st).at x=st.at x:=by
     split
     ·exact c.app_out st hx
     ·rfl
    have e2:(if T i=true then c.app st' else st').at x=st'.at x:=by
     split
     ·exact c.app_out st' hx
     ·rfl
    rw [e1,e2,h]

theorem Zl1 (S:Nat→Bool) (x:Key) (stx:St):∀ (cs:List Rec) (i:Nat) (st:St) (p:Nat) (c:Rec),cs[p]?=some c→x∈c.W→S (i+p)=true→(∀ j c',cs[j]?=some c'→p < j→x∈c'.W→S (i+j)=false)→
  (ZaM S cs i st).at x=(c.app stx).at x
 | [],_,_,p,c,h,_,_,_=>by simp at h
 | c'::cs,i,st,0,c,h,hx,hS,hall=>by
  simp only [List.getElem?_cons_zero,Option.some.injEq] at h
  subst h
  simp only [ZaM]
  simp only [Nat.add_zero] at hS
  rw [if_pos hS]
  have:(ZaM S cs (i+1) (c'.app st)).at x=(ZaM (fun _=>false) cs (i+1) (c'.app st)).at x:=by
   refine ZcN _ _ x cs (i+1) _ _ (fun j c'' hj hx'=>?_) rfl
   have:=hall (j+1) c'' (by simpa using hj) (by omega) hx'
   rwa [show i+(j+1)=i+1+j by omega] at this
  rw [this]
  have hz:∀ (cs:List Rec) (i:Nat) (st:St),ZaM (fun _=>false) cs i st=st:=by
   intro cs
   induction cs with
   | nil=>intro i st; rfl
   | cons c cs ih=>intro i st; simp only [ZaM]; rw [ih]; simp
  rw [hz]
  exact c'.app_in _ _ hx
 | c'::cs,i,st,p+1,c,h,hx,hS,hall=>by
  simp only [List.getElem?_cons_succ] at h
  simp only [ZaM]
  refine Zl1 S x stx cs (i+1) _ p c h hx (by rwa [show i+(p+1)=i+1+p by omega] at hS) (fun j c'' hj hp hx'=>?_)
  have:=hall (j+1) c'' (by simpa using hj) (by omega) hx'
  rwa [show i+(j+1)=i+1+j by omega] at this

theorem ZeT (S:Nat→Bool) (x:Key):∀ (cs:List Rec) (i:Nat) (st:St),(ZaM S cs i st).at x=st.at x∨∃ j c st',cs[j]?=some c∧S (i+j)=true∧x∈c.W∧(ZaM S cs i st).at x=(c.app st').at x
 | [],_,st=>.inl rfl
 | c::cs,i,st=>by
  simp only [ZaM]
  rcases ZeT S x cs (i+1) (if S i=true then c.app st else st) with h | ⟨j,c',st',h1,h2,h3,h4⟩
  ·rw [h]
   by_cases hS:S i=true
   ·rw [if_pos hS]
    by_cases hx:x∈c.W
    ·exact .inr ⟨0,c,st,by simp,by simpa using hS,hx,rfl⟩
    ·exact .inl (c.app_out st hx)
   ·rw [if_neg hS]; exact .inl rfl
  ·exact .inr ⟨j+1,c',st',by simpa using h1,by rwa [show i+(j+1)=i+1+j by omega],h3,h4⟩

def Zlh (o:Oper):List Nat:=(o.after.toList.filter (Region.binds .any)).map (·.on)

def ZGU:List Oper→List (List Nat)→List (List Nat)
 | [],acc=>acc
 | o::l,acc=>ZGU l (acc++[((Zlh o)++(Zlh o).flatMap fun p=>acc.getD p []).eraseDups])

inductive Prec (ops:Array Oper):Nat→Nat→Prop
 | edge {i j o}:ops[i]?=some o→j∈Zlh o→Prec ops j i
 | trans {i j k}:Prec ops j k→Prec ops k i→Prec ops j i

theorem Zz6 (ops:Array Oper):∀ (l:List Oper) (acc:List (List Nat)),ops.toList=ops.toList.take acc.length++l→acc.length≤ops.size→(∀ i c,acc[i]?=some c→∀ j∈c,Prec ops j i)→
  ∀ i c,(ZGU l acc)[i]?=some c→∀ j∈c,Prec ops j i
 | [],acc,_,_,h=>h
 | o::l,acc,hl,hle,h=>by
  simp only [ZGU]
  have hlen:acc.length < ops.size:=by
   have:=congrArg List.length hl
   simp at this; omega
  have ho:ops[acc.length]?=some o:=by
   have:=congrArg (fun x=>x[acc.length]?) hl
   simp only [Array.getElem?_toList] at this
   have h2:(ops.toList.take acc.length).length=acc.length:=by simp; omega
   rw [this,List.getElem?_append_right (by omega),h2]
   simp
  refine Zz6 ops l _ ?_ (by simp; omega) (fun i c hc j hj=>?_)
  ·simp only [List.length_append,List.length_singleton]
   rw [List.take_add_one,Array.getElem?_toList,ho]
   simp only [Option.toList_some,List.append_assoc,List.singleton_append]
   exact hl
  ·by_cases hi:i < acc.length
   ·rw [List.getElem?_append_left hi] at hc
    exact h i c hc j hj
   ·rw [List.getElem?_append_right (by omega)] at hc
    have hi0:i - acc.length=0:=by
     rcases Nat.eq_zero_or_pos (i - acc.length) with e | e
     ·exact e
     ·rw [List.getElem?_eq_none (by simp; omega)] at hc; cases hc
    have hie:i=acc.length:=by omega
    rw [hi0] at hc
    simp only [List.getElem?_cons_zero,Option.some.injEq] at hc
    subst hc
    rw [List.mem_eraseDups,List.mem_append] at hj
    subst hie
    rcases hj with hj | hj
    ·exact .edge ho hj
    ·obtain ⟨p,hp,hj⟩:=List.mem_flatMap.1 hj
     rw [List.getD_eq_getElem?_getD] at hj
     cases hpa:acc[p]? with
     | none=>rw [hpa] at hj; simp at hj
     | some cp =>
      rw [hpa] at hj
      exact .trans (h p cp hpa j hj) (.edge ho hp)

def ZHq (a b:List Key):Bool:=a.all fun x=>!b.contains x

def Zvk (cl:List (List Nat)) (cs:List Rec):Bool :=
 (List.range cs.length).all fun j=>(List.range j).all fun i =>
  (cl.getD j []).contains i ||
   (match cs[i]?,cs[j]? with
    | some a,some b=>ZHq a.W b.W && ZHq a.W b.R && ZHq b.W a.R && a.r.new.all fun n=>!b.nms.contains n
    | _,_=>true)

def ZA1 (st:St) (cs:List Rec):Prop :=
 (∀ c∈cs,∀ n∈c.r.new,FreeB st n)∧
 (List.range cs.length).all (fun j=>(List.range j).all fun i=>match cs[i]?,cs[j]? with
  | some a,some b=>b.r.new.all fun n=>!a.nms.contains n
  | _,_=>true)=true

def ZzJ (ops:Array Oper):Bool:=ops.toList.zipIdx.all fun p=>(Zlh p.1).all fun e=>e < p.2

def ZNw (cs:List Rec):Bool:=cs.all fun c=>c.r.new.all fun n=>c.W.contains (Key.b n) || c.W.contains (Key.k n)


def Zrr (f:Nat→Bool):Nat→Nat
 | 0=>0
 | n+1=>Zrr f n+(if f n=true then 0 else 1)

theorem ZlW {f g:Nat→Bool}:∀ n,(∀ i,i < n→f i=g i)→Zrr f n=Zrr g n
 | 0,_=>rfl
 | n+1,h=>by simp only [Zrr]; rw [ZlW n (fun i hi=>h i (by omega)),h n (by omega)]

theorem ZuI {f g:Nat→Bool} {i:Nat} (hf:f i=false) (hg:g i=true) (he:∀ j,j≠i→g j=f j):∀ n,i < n→Zrr f n=Zrr g n+1
 | 0,h=>by omega
 | n+1,h=>by
  simp only [Zrr]
  by_cases e:i=n
  ·subst e
   rw [hf,hg,ZlW i (fun j hj=>(he j (by omega)).symm)]; simp
  ·rw [ZuI hf hg he n (by omega),he n (Ne.symm e)]; omega

theorem Zkl {f:Nat→Bool}:∀ n,Zrr f n=0→∀ i,i < n→f i=true
 | 0,_,i,hi=>by omega
 | n+1,h,i,hi=>by
  simp only [Zrr] at h
  have h1:f n=true:=by
   cases hfn:f n with
   | true=>rfl
   | false=>rw [hfn] at h; simp at h
  by_cases e:i=n
  ·rw [e]; exact h1
  ·exact Zkl n (by omega) i (by omega)

theorem Zkt {f:Nat→Bool}:∀ n,Zrr f n≠0→∃ i,i < n∧f i=false∧∀ j,j < i→f j=true
 | 0,h=>by simp [Zrr] at h
 | n+1,h=>by
  by_cases e:Zrr f n=0
  ·refine ⟨n,by omega,?_,fun j hj=>Zkl n e j hj⟩
   simp only [Zrr,e] at h
   cases hfn:f n with
   | true=>rw [hfn] at h; simp at h
   | false=>rfl
  ·obtain ⟨i,h1,h2,h3⟩:=Zkt n e
   exact ⟨i,by omega,h2,h3⟩

theorem Zkn {a b:List Key} (h:ZHq a b=true) {x:Key} (hx:x∈a):x∉b:=by
 unfold ZHq at h
 have:=List.all_eq_true.1 h x hx
 simpa using this

section
variable {X:Ctx}

theorem Zw0 (hT:TOk X) (hm:X.P.follows .mixedOrders=true) {ops:Array Oper} {id:Nat} {S0:Start} {Q:Exit→Act→World→Prop} {cs:List Rec} {st:St}
  (hlen:cs.length=ops.size)
  (hrun:∀ i c o,cs[i]?=some c→ops[i]?=some o→dstOk X o∧c.dst=o.dst∧∃ R',Runs (ZeW X ops o) (ZaM (fun j=>decide (j < i)) cs 0 st) R' (c.gd,c.r)∧∀ x∈R',x∈c.R)
  (hrace:Zvk (ZGU ops.toList []) cs=true) (hnew:ZA1 st cs) (hback:ZzJ ops=true) (hnw:ZNw cs=true)
  (hQ:∀ a w,Sim X S0 (ZaM (fun _=>true) cs 0 st) a w→Q .normal a w) {a:Act} {w:World} (hs:Sim X S0 st a w):(Code.region id ops true).wp X.P Q a w:=by
 refine wp_region_any hm ?_
 have hedge:∀ i j o,ops[i]?=some o→j∈Zlh o→j < i:=by
  intro i j o ho hj
  unfold ZzJ at hback
  have h1:(o,i)∈ops.toList.zipIdx:=by
   rw [List.mem_iff_getElem?]
   exact ⟨i,by simp [ho]⟩
  have:=List.all_eq_true.1 hback _ h1
  simpa using List.all_eq_true.1 this j hj
 have hprec:∀ i j,Prec ops j i→j < i:=by
  intro i j h
  induction h with
  | edge ho hj=>exact hedge _ _ _ ho hj
  | trans _ _ h1 h2=>omega
 have hcmp:∀ i j a b,i < j→cs[i]?=some a→cs[j]?=some b→Prec ops i j∨
   ((∀ x,x∈a.W→x∉b.W)∧(∀ x,x∈a.W→x∉b.R)∧(∀ n,n∈a.r.new→n∉b.nms)∧(∀ x,x∈b.W→x∉a.R)):=by
  intro i j a b hij ha hb
  have hj:j < cs.length:=(List.getElem?_eq_some_iff.1 hb).1
  have h1:=List.all_eq_true.1 hrace j (List.mem_range.2 hj)
  have h2:=List.all_eq_true.1 h1 i (List.mem_range.2 hij)
  simp only [ha,hb,Bool.or_eq_true,Bool.and_eq_true] at h2
  rcases h2 with h2 | ⟨⟨⟨h2,h3⟩,h4⟩,h5⟩
  ·left
   rw [List.contains_iff_mem,List.getD_eq_getElem?_getD] at h2
   cases hc:(ZGU ops.toList [])[j]? with
   | none=>rw [hc] at h2; simp at h2
   | some c =>
    rw [hc] at h2
    exact Zz6 ops ops.toList [] (by simp) (by simp) (by simp) j c hc i h2
  ·right
   refine ⟨fun x hx=>Zkn h2 hx,fun x hx=>Zkn h3 hx,fun n hn hm=>?_,fun x hx=>Zkn h4 hx⟩
   have:=List.all_eq_true.1 h5 n hn
   simp at this
   exact this hm
 have key:∀ (fuel:Nat) (listed:Array Bool) (a:Act) (w:World),listed.size=ops.size→(∀ i o,ops[i]?=some o→listed.getD i true=true→∀ j∈Zlh o,listed.getD j true=true)→
   Zrr (fun i=>listed.getD i true) ops.size=fuel→Sim X S0 (ZaM (fun i=>listed.getD i true) cs 0 st) a w→wpAny X.P .any ops Q fuel listed a w:=by
  intro fuel
  induction fuel with
  | zero =>
   intro listed a w hsz hcl hcnt hs
   have hall:=Zkl _ hcnt
   refine ⟨?_,hQ a w (hs.eqv (St.at_eqv fun x=>ZcN _ _ x cs 0 _ _ (fun j c hj _=>?_) rfl))⟩
   ·rw [List.eq_nil_iff_forall_not_mem]
    intro i hi
    rw [mem_ready] at hi
    obtain ⟨h0,o,ho,_⟩:=hi
    have:=hall i (Array.getElem?_eq_some_iff.1 ho).1
    rw [h0] at this; cases this
   ·have hj':j < ops.size:=by rw [← hlen]; exact (List.getElem?_eq_some_iff.1 hj).1
    simp only [Nat.zero_add]
    exact (hall j hj').symm
  | succ fuel ih =>
   intro listed a w hsz hcl hcnt hs
   refine ⟨fun hr=>?_,fun i hi=>?_⟩
   ·exfalso
    obtain ⟨i,h1,h2,h3⟩:=Zkt (f:=fun i=>listed.getD i true) ops.size (by omega)
    have:i∈Region.ready .any ops listed:=by
     rw [mem_ready]
     refine ⟨h2,ops[i],Array.getElem?_eq_getElem h1,fun e he hb=>?_⟩
     have hp:e.on∈Zlh ops[i]:=by
      unfold Zlh
      rw [List.mem_map]
      exact ⟨e,List.mem_filter.2 ⟨by simpa using he,hb⟩,rfl⟩
     have hlt:=hedge i e.on ops[i] (Array.getElem?_eq_getElem h1) hp
     have h4:=h3 e.on hlt
     have h5:e.on < listed.size:=by omega
     simp only [Array.getD_eq_getD_getElem?] at h4 ⊢
     rw [Array.getElem?_eq_getElem h5] at h4 ⊢
     exact h4
    rw [hr] at this; cases this
   ·rw [mem_ready] at hi
    obtain ⟨hi0,o,ho,hpre⟩:=hi
    have hio:i < ops.size:=(Array.getElem?_eq_some_iff.1 ho).1
    have hic:i < cs.length:=by omega
    have hc:cs[i]?=some cs[i]:=List.getElem?_eq_getElem hic
    generalize cs[i]=c at hc
    obtain ⟨hd,hdst,R',hruns,hsubR⟩:=hrun i c o hc ho
    have hready:∀ j∈Zlh o,listed.getD j true=true:=by
     intro j hj
     unfold Zlh at hj
     obtain ⟨e,he,rfl⟩:=List.mem_map.1 hj
     obtain ⟨he1,he2⟩:=List.mem_filter.1 he
     have:=hpre e (by simpa using he1) he2
     simp only [Array.getD_eq_getD_getElem?] at this ⊢
     cases hg:listed[e.on]? with
     | none=>rw [hg] at this; cases this
     | some b=>rw [hg] at this; exact this
    have hclos:∀ j k,Prec ops j k→listed.getD k true=true→listed.getD j true=true:=by
     intro j k h
     induction h with
     | edge ho hj=>exact fun hk=>hcl _ _ ho hk _ hj
     | trans _ _ h1 h2=>exact fun hk=>h1 (h2 hk)
    have hbefore:∀ j k,Prec ops j k→k=i→listed.getD j true=true:=by
     intro j k h
     induction h with
     | edge ho' hj=>intro e; subst e; rw [ho] at ho'; cases ho'; exact hready _ hj
     | trans h1 _ _ h2=>intro e; exact hclos _ _ h1 (h2 e)
    have hafter:∀ j,Prec ops i j→listed.getD j true=false:=by
     intro j h
     cases hj:listed.getD j true with
     | false=>rfl
     | true=>have:=hclos i j h hj; rw [hi0] at this; cases this
    -- the state agrees on what the operation reads
    have hagree:∀ x,x∈c.R→(ZaM (fun j=>listed.getD j true) cs 0 st).at x=(ZaM (fun j=>decide (j < i)) cs 0 st).at x:=by
     intro x hx
     refine ZcN _ _ x cs 0 _ _ (fun j c' hj hxw=>?_) rfl
     simp only [Nat.zero_add]
     rcases Nat.lt_trichotomy j i with h | h | h
     ·rw [decide_eq_true h]
      rcases hcmp j i c' c h hj hc with h1 | h1
      ·exact hbefore j i h1 rfl
      ·exact absurd hx (h1.2.1 x hxw)
     ·subst h; rw [hi0]; simp
     ·rw [decide_eq_false (by omega)]
      rcases hcmp i j c c' h hc hj with h1 | h1
      ·exact hafter j h1
      ·exact absurd hx (h1.2.2.2 x hxw)
    have hruns':Runs (ZeW X ops o) (ZaM (fun j=>listed.getD j true) cs 0 st) R' (c.gd,c.r) :=
     hruns.agree (fun n hn=>by have:=hagree (.t n) (hsubR _ hn); simpa [St.at] using this) (fun n hn=>by have:=hagree (.b n) (hsubR _ hn); simpa [St.at] using this) (fun n hn=>by have:=hagree (.k n) (hsubR _ hn); simpa [St.at] using this)
    -- what is made is new
    have hnm:∀ n∈c.r.new,∀ j c',cs[j]?=some c'→listed.getD j true=true→n∉c'.nms:=by
     intro n hn j c' hj hS hm
     rcases Nat.lt_trichotomy j i with h | h | h
     ·have h1:=List.all_eq_true.1 hnew.2 i (List.mem_range.2 hic)
      have h2:=List.all_eq_true.1 h1 j (List.mem_range.2 h)
      simp only [hc,hj] at h2
      have h3:=List.all_eq_true.1 h2 n hn
      simp at h3
      exact h3 hm
     ·subst h; rw [hi0] at hS; cases hS
     ·rcases hcmp i j c c' h hc hj with h1 | h1
      ·have:=hafter j h1; rw [hS] at this; cases this
      ·exact h1.2.2.1 n hn hm
    have hfree:∀ n∈c.r.new,(ZaM (fun j=>listed.getD j true) cs 0 st).Free n:=by
     intro n hn
     have hst:=(hnew.1 c (List.mem_of_getElem? hc) n hn).free
     refine ⟨fun t v hv hh=>?_,?_,?_,fun m ccs hm cc hcc hh=>?_⟩
     ·rcases ZeT (fun j=>listed.getD j true) (.t t) cs 0 st with h | ⟨j,c',st',h1,h2,h3,h4⟩
      ·simp only [St.at,KV.t.injEq] at h
       rw [h] at hv
       exact hst.t t v hv hh
      ·rw [Nat.zero_add] at h2
       simp only [St.at,KV.t.injEq] at h4
       rw [h4] at hv
       have hdd:c'.dst=some t:=by
        unfold Rec.W at h3
        simp at h3
        exact h3
       have hvv:v.nms=c'.r.v.nms:=by
        simp only [Rec.app,St.apply,ZGn,hdd] at hv
        cases hgd:c'.gd <;> rw [hgd] at hv <;> simp only [Zl,Option.some.injEq] at hv <;> subst hv <;> rfl
       refine hnm n hn j c' h1 h2 ?_
       unfold Rec.nms
       rw [V.has_iff,hvv] at hh
       simp [hh]
     ·rcases ZeT (fun j=>listed.getD j true) (.b n) cs 0 st with h | ⟨j,c',st',h1,h2,h3,h4⟩
      ·simp only [St.at,KV.b.injEq] at h
       rw [h]; exact hst.m.nb
      ·rw [Nat.zero_add] at h2
       exfalso
       refine hnm n hn j c' h1 h2 ?_
       unfold Rec.W at h3
       unfold Rec.nms
       simp at h3 ⊢
       obtain ⟨cc,hcc⟩:=h3
       exact .inr (.inl ⟨n,cc,hcc,.inl rfl⟩)
     ·rcases ZeT (fun j=>listed.getD j true) (.k n) cs 0 st with h | ⟨j,c',st',h1,h2,h3,h4⟩
      ·simp only [St.at,KV.k.injEq] at h
       rw [h]; exact hst.m.nk
      ·rw [Nat.zero_add] at h2
       exfalso
       refine hnm n hn j c' h1 h2 ?_
       unfold Rec.W at h3
       unfold Rec.nms
       simp at h3 ⊢
       obtain ⟨cc,hcc⟩:=h3
       exact .inr (.inr ⟨cc,hcc⟩)
     ·rcases ZeT (fun j=>listed.getD j true) (.b m) cs 0 st with h | ⟨j,c',st',h1,h2,h3,h4⟩
      ·simp only [St.at,KV.b.injEq] at h
       rw [h] at hm
       exact hst.m.nc m ccs hm cc hcc hh
      ·rw [Nat.zero_add] at h2
       simp only [St.at,KV.b.injEq] at h4
       rw [h4] at hm
       refine hnm n hn j c' h1 h2 ?_
       unfold Rec.W at h3
       simp at h3
       obtain ⟨cc0,hcc0⟩:=h3
       have hsome:=ZfT c'.r.b m Key.b (fun a b e=>by cases e; rfl) (List.mem_map.2 ⟨(m,cc0),hcc0,rfl⟩)
       obtain ⟨cc1,hcc1⟩:=Option.isSome_iff_exists.1 hsome
       simp only [Rec.app,St.apply,ZbU,hcc1,Option.some_or,Option.some.injEq] at hm
       subst hm
       unfold Rec.nms
       simp
       exact .inr (.inl ⟨m,cc1,Zbj _ _ _ hcc1,.inr ⟨cc,hcc,(C.has_iff cc n).1 hh⟩⟩)
    refine ZkF hT hd hruns' hfree hs ho (fun a' w' hs'=>?_)
    have hset:∀ j,j≠i→(listed.setIfInBounds i true).getD j true=listed.getD j true:=fun j hj=>by
     simp [Array.getElem?_setIfInBounds_ne (Ne.symm hj)]
    have hseti:(listed.setIfInBounds i true).getD i true=true:=by
     have:i < listed.size:=by omega
     simp [this]
    refine ih (listed.setIfInBounds i true) a' w' (by simp [hsz]) (fun k o' hk hlk j hj=>?_) ?_ ?_
    ·by_cases ej:j=i
     ·rw [ej]; exact hseti
     ·rw [hset j ej]
      by_cases ek:k=i
      ·subst ek
       rw [ho] at hk; cases hk
       exact hready j hj
      ·rw [hset k ek] at hlk
       exact hcl k o' hk hlk j hj
    ·have:=ZuI (f:=fun j=>listed.getD j true) (g:=fun j=>(listed.setIfInBounds i true).getD j true) hi0 hseti hset ops.size hio
     omega
    ·rw [← hdst] at hs'
     refine hs'.eqv (St.at_eqv fun x=>?_)
     show _=(c.app (ZaM (fun j=>listed.getD j true) cs 0 st)).at x
     by_cases hx:x∈c.W
     ·refine Zl1 _ x _ cs 0 st i c hc hx (by rw [Nat.zero_add]; exact hseti) (fun j c' hj hij hxw=>?_)
      rw [Nat.zero_add]
      show (listed.setIfInBounds i true).getD j true=false
      rw [hset j (by omega)]
      rcases hcmp i j c c' hij hc hj with h1 | h1
      ·exact hafter j h1
      ·exact absurd hxw (h1.1 x hx)
     ·rw [c.app_out _ hx]
      refine ZcN _ _ x cs 0 _ _ (fun j c' hj hxw=>?_) rfl
      rw [Nat.zero_add]
      refine hset j (fun e=>?_)
      subst e
      rw [hc] at hj; cases hj
      exact hx hxw
 refine key ops.size (Array.replicate ops.size false) a _ (by simp) (fun i o ho hi=>?_) ?_ ?_
 ·have:i < ops.size:=(Array.getElem?_eq_some_iff.1 ho).1
  simp [this] at hi
 ·have:∀ n m,n≤m→Zrr (fun i=>(Array.replicate m false).getD i true) n=n:=by
   intro n m
   induction n with
   | zero=>intro _; rfl
   | succ n ih =>
    intro h
    simp only [Zrr]
    rw [ih (by omega)]
    have:n < m:=by omega
    simp [this]
  exact this _ _ (Nat.le_refl _)
 ·refine Sim.drew (hs.eqv (St.at_eqv fun x=>?_))
  have:∀ (cs:List Rec) (i:Nat) (st:St),i+cs.length≤ops.size→ZaM (fun i=>(Array.replicate ops.size false).getD i true) cs i st=st:=by
   intro cs
   induction cs with
   | nil=>intro i st _; rfl
   | cons c cs ih =>
    intro i st h
    simp only [List.length_cons] at h
    simp only [ZaM]
    rw [ih (i+1) _ (by omega)]
    have:i < ops.size:=by omega
    simp [this]
  rw [this cs 0 st (by omega)]
end

end Go.Vam
end
section
set_option linter.unusedVariables false
set_option linter.unusedSimpArgs false
namespace Go.Vam

def leC:C→C→Prop
 | .d (.list l),.own _ l'=>l=l'
 | .d (.list l),.nil=>l=[]
 | c,c'=>c=c'

def Zl5:List C→List C→Prop
 | [],[]=>True
 | c::cs,d::ds=>leC c d∧Zl5 cs ds
 | _,_=>False

def leV:V→V→Prop
 | .g γ v,.g γ' v'=>γ=γ'∧v=v'
 | v,.g γ v'=>γ=true∧leV v v'
 | .c x,.c y=>leC x y
 | .agg xs,.agg ys=>Zl5 xs ys
 | .tup ds,.tup es=>ds=es
 | .ts sh xs,.ts sh' ys=>sh=sh'∧Zl5 xs ys
 | _,_=>False

section
variable {ok:Zas} {ℓ:Loc} {w:World}
theorem RC.le {u:Value} {c c':C} (h:RC ok ℓ w u c') (hl:leC c c'):RC ok ℓ w u c:=by
 unfold leC at hl
 split at hl
 ·subst hl; exact ⟨h.1,rfl⟩
 ·subst hl; obtain ⟨a,rfl⟩:=h; exact ⟨.nil _ _,rfl⟩
 ·subst hl; exact h

theorem Zie:∀ (cs ds:List C),Zl5 cs ds→cs.length=ds.length∧∀ (i:Nat) c d,cs[i]?=some c→ds[i]?=some d→leC c d
 | [],[],_=>⟨rfl,by simp⟩
 | [],_::_,h=>by simp [Zl5] at h
 | _::_,[],h=>by simp [Zl5] at h
 | c::cs,d::ds,h=>by
  simp only [Zl5] at h
  obtain ⟨h1,h2⟩:=Zie cs ds h.2
  refine ⟨by simp [h1],fun i c' d' hc hd=>?_⟩
  cases i with
  | zero=>simp at hc hd; subst hc; subst hd; exact h.1
  | succ i=>simp at hc hd; exact h2 i c' d' hc hd

theorem RCs.le {vs:Array Value} {cs ds:List C} (h:RCs ok ℓ w vs ds) (hl:Zl5 cs ds):RCs ok ℓ w vs cs:=by
 obtain ⟨h1,h2⟩:=Zie cs ds hl
 refine ⟨by rw [h.1,h1],fun i u c hu hc=>?_⟩
 have hi:i < ds.length:=by rw [← h1]; exact (List.getElem?_eq_some_iff.1 hc).1
 exact (h.2 i u ds[i] hu (List.getElem?_eq_getElem hi)).le (h2 i c ds[i] hc (List.getElem?_eq_getElem hi))

theorem RV.le {u:Value}:∀ {v v':V},RV ok ℓ w u v'→leV v v'→RV ok ℓ w u v:=by
 intro v v' h hl
 induction v' with
 | g γ v' ih =>
  cases v with
  | g γ' v=>simp only [leV] at hl; obtain ⟨rfl,rfl⟩:=hl; exact h
  | c x=>simp only [leV] at hl; exact ih (h.1 hl.1) hl.2
  | agg x=>simp only [leV] at hl; exact ih (h.1 hl.1) hl.2
  | tup x=>simp only [leV] at hl; exact ih (h.1 hl.1) hl.2
  | ts sh x=>simp only [leV] at hl; exact ih (h.1 hl.1) hl.2
 | c y =>
  cases v with
  | c x=>exact RC.le h hl
  | _=>simp [leV] at hl
 | agg ys =>
  cases v with
  | agg xs=>obtain ⟨vs,h1,h2⟩:=h; exact ⟨vs,h1,h2.le hl⟩
  | _=>simp [leV] at hl
 | tup ds =>
  cases v with
  | tup es=>simp only [leV] at hl; subst hl; exact h
  | _=>simp [leV] at hl
 | ts sh ys =>
  cases v with
  | ts sh' xs=>simp only [leV] at hl; obtain ⟨rfl,hl⟩:=hl; obtain ⟨vs,h1,h2⟩:=h; exact ⟨vs,h1,h2.le hl⟩
  | _=>simp [leV] at hl

theorem MemOK.le {b b':Zf} {k k':Zr} (h:MemOK ok ℓ b k w) (hb:∀ n cs',lk b' n=some cs'→∃ cs,lk b n=some cs∧Zl5 cs' cs) (hk:∀ n t,lk k' n=some t→lk k n=some t) :
  MemOK ok ℓ b' k' w∧∀ n x,Owns ℓ b' k' n x→Owns ℓ b k n x:=by
 have hown:∀ n x,Owns ℓ b' k' n x→Owns ℓ b k n x:=by
  intro n x hn
  rcases hn with ⟨h1,rfl⟩ | ⟨t,h1,h2,rfl⟩ | ⟨t,h1,h2,h3⟩
  ·obtain ⟨cs,hcs⟩:=Option.isSome_iff_exists.1 h1
   obtain ⟨cs',h2,_⟩:=hb n cs hcs
   exact .box h2
  ·exact .arr (hk n t h1) h2
  ·exact .buf (hk n t h1) h2 h3
 refine ⟨⟨fun n cs hn=>?_,fun n t hn=>h.buf n t (hk n t hn),fun n t hn=>h.arr n t (hk n t hn),fun n hn=>?_,fun n m x hn hm=>h.distinct n m x (hown _ _ hn) (hown _ _ hm),h.alive⟩,hown⟩
 ·obtain ⟨ds,hd,hl⟩:=hb n cs hn
  obtain ⟨vs,T,h1,h2,h3⟩:=h.box n ds hd
  exact ⟨vs,T,h1,h2.le hl,h3⟩
 ·obtain ⟨cs,hcs⟩:=Option.isSome_iff_exists.1 hn
  obtain ⟨cs',h2,_⟩:=hb n cs hcs
  have:=h.apart n (by simp [h2])
  cases hk0:lk k' n with
  | none=>rfl
  | some t=>rw [hk n t hk0] at this; cases this
end

def Sub (X:Ctx) (st' st:St):Prop:=∀ S a w,Sim X S st a w→Sim X S st' a w

theorem Sub.refl (X:Ctx) (st:St):Sub X st st:=fun _ _ _ h=>h
theorem Sub.trans {X:Ctx} {a b c:St} (h:Sub X a b) (k:Sub X b c):Sub X a c:=fun S x w hs=>h S x w (k S x w hs)

def Zri:List (Nat×V)→List (Nat×V)→Prop
 | [],_=>True
 | (t,v)::l,m=>(match lk m t with
  | some v'=>leV v v'
  | none=>False)∧Zri l m
def Zll:Zf→Zf→Prop
 | [],_=>True
 | (n,cs)::l,m=>(match lk m n with
  | some cs'=>Zl5 cs cs'
  | none=>False)∧Zll l m
def Zlm:Zr→Zr→Prop
 | [],_=>True
 | (n,t)::l,m=>(match lk m n with
  | some t'=>t=t'
  | none=>False)∧Zlm l m

theorem ZvD:∀ (l m:List (Nat×V)),Zri l m→∀ t v,lk l t=some v→∃ v',lk m t=some v'∧leV v v'
 | [],_,_,_,_,h=>by simp [lk] at h
 | (t',v')::l,m,hs,t,v,h=>by
  simp only [Zri] at hs
  by_cases e:t'=t
  ·subst e; rw [Zl] at h; cases h
   split at hs
   ·rename_i v'' hv; exact ⟨v'',hv,hs.1⟩
   ·exact hs.1.elim
  ·rw [Zh _ _ e] at h; exact ZvD l m hs.2 t v h
theorem Zg3:∀ (l m:Zf),Zll l m→∀ t v,lk l t=some v→∃ v',lk m t=some v'∧Zl5 v v'
 | [],_,_,_,_,h=>by simp [lk] at h
 | (t',v')::l,m,hs,t,v,h=>by
  simp only [Zll] at hs
  by_cases e:t'=t
  ·subst e; rw [Zl] at h; cases h
   split at hs
   ·rename_i v'' hv; exact ⟨v'',hv,hs.1⟩
   ·exact hs.1.elim
  ·rw [Zh _ _ e] at h; exact Zg3 l m hs.2 t v h
theorem Zg4:∀ (l m:Zr),Zlm l m→∀ t v,lk l t=some v→lk m t=some v
 | [],_,_,_,_,h=>by simp [lk] at h
 | (t',v')::l,m,hs,t,v,h=>by
  simp only [Zlm] at hs
  by_cases e:t'=t
  ·subst e; rw [Zl] at h; cases h
   split at hs
   ·rename_i v'' hv; rw [hv,hs.1]
   ·exact hs.1.elim
  ·rw [Zh _ _ e] at h; exact Zg4 l m hs.2 t v h

theorem Sub.of {X:Ctx} {st' st:St} (ht:Zri st'.t st.t) (hb:Zll st'.b st.b) (hk:Zlm st'.k st.k):Sub X st' st:=by
 rintro S a w ⟨ok,ℓ,hs⟩
 obtain ⟨hm,ho⟩:=hs.mem.le (Zg3 _ _ hb) (Zg4 _ _ hk)
 refine ⟨ok,ℓ,hs.defers,hs.size,fun t v hv=>?_,hm,hs.ext,hs.sub,hs.sup,fun n x hx=>hs.own n x (ho n x hx),hs.names,fun n hl hh=>hs.inH n hl ?_⟩
 ·obtain ⟨v',h1,h2⟩:=ZvD _ _ ht t v hv
  obtain ⟨u,h3,h4⟩:=hs.tmps t v' h1
  exact ⟨u,h3,h4.le h2⟩
 ·rcases hh with hh | hh
  ·obtain ⟨cs,hcs⟩:=Option.isSome_iff_exists.1 hh
   obtain ⟨cs',h1,_⟩:=Zg3 _ _ hb n cs hcs
   exact .inl (by simp [h1])
  ·obtain ⟨t,ht'⟩:=Option.isSome_iff_exists.1 hh
   exact .inr (by simp [Zg4 _ _ hk n t ht'])

theorem Sub.nilT {X:Ctx} {st:St} {t:Nat} {n:Name} (sz:Nat) (ht:lk st.t t=some (.c .nil)) (hf:FreeB st n) (hn:X.L≤n.lv) :
  Sub X ⟨(t,.c (.own n []))::st.t,st.b,(n,⟨false,sz,[]⟩)::st.k⟩ st:=by
 rintro S a w ⟨ok,ℓ,hs⟩
 obtain ⟨u,hu,ad,rfl⟩:=hs.tmps t _ ht
 obtain ⟨hs',hrv⟩:=hs.nilBuf (by omega) hf.free (u:=ad) sz
 refine ⟨ok,_,hs'.defers,hs'.size,fun t' v hv=>?_,hs'.mem,hs'.ext,hs'.sub,hs'.sup,hs'.own,hs'.names,hs'.inH⟩
 by_cases e:t=t'
 ·subst e; rw [Zl] at hv; cases hv; exact ⟨_,hu,hrv⟩
 ·rw [Zh _ _ e] at hv; exact hs'.tmps t' v hv

theorem Sub.nilB {X:Ctx} {st:St} {m:Name} {cs:List C} {j:Nat} {n:Name} (sz:Nat) (hm:lk st.b m=some cs) (hj:cs[j]?=some .nil) (hf:FreeB st n) (hn:X.L≤n.lv) :
  Sub X ⟨st.t,(m,cs.set j (.own n []))::st.b,(n,⟨false,sz,[]⟩)::st.k⟩ st:=by
 rintro S a w ⟨ok,ℓ,hs⟩
 obtain ⟨vs,T,h1,h2,h3⟩:=hs.mem.box m cs hm
 have hjl:j < vs.size:=by rw [h2.1]; exact (List.getElem?_eq_some_iff.1 hj).1
 obtain ⟨ad,had⟩:=h2.2 j vs[j] _ (Array.getElem?_eq_getElem hjl) hj
 obtain ⟨hs',hrv⟩:=hs.nilBuf (by omega) hf.free (u:=ad) sz
 obtain ⟨vs',T',h1',h2',h3'⟩:=hs'.mem.box m cs hm
 have hvv:vs'=vs:=by
  rw [show (ℓ.setH n (.slice ad 0 0)).i m=ℓ.i m from rfl,h1] at h1'
  cases h1'; rfl
 subst hvv
 have hrow:RCs ok (ℓ.setH n (.slice ad 0 0)) w vs' (cs.set j (.own n [])):=by
  refine ⟨by rw [h2'.1]; simp,fun i u c hu hc=>?_⟩
  by_cases e:i=j
  ·subst e
   rw [List.getElem?_set_self (by rw [← h2'.1]; exact (Array.getElem?_eq_some_iff.1 hu).1)] at hc
   cases hc
   rw [Array.getElem?_eq_getElem hjl] at hu
   cases hu
   rw [had]
   exact hrv
  ·rw [List.getElem?_set_ne (Ne.symm e)] at hc
   exact h2'.2 i u c hu hc
 have hown:∀ k x,Owns (ℓ.setH n (.slice ad 0 0)) ((m,cs.set j (.own n []))::st.b) ((n,⟨false,sz,[]⟩)::st.k) k x→Owns (ℓ.setH n (.slice ad 0 0)) st.b ((n,⟨false,sz,[]⟩)::st.k) k x:=by
  intro k x h
  rcases h with ⟨h1,rfl⟩ | ⟨t,h1,h2,rfl⟩ | ⟨t,h1,h2,h3⟩
  ·by_cases e:k=m
   ·subst e; exact .box hm
   ·rw [Zh _ _ (Ne.symm e)] at h1; exact .inl ⟨h1,rfl⟩
  ·exact .arr h1 h2
  ·exact .buf h1 h2 h3
 have hsome:∀ k,(lk ((m,cs.set j (.own n []))::st.b) k).isSome=true→(lk st.b k).isSome=true:=by
  intro k h
  by_cases e:k=m
  ·subst e; simp [hm]
  ·rwa [Zh _ _ (Ne.symm e)] at h
 refine ⟨ok,_,hs'.defers,hs'.size,hs'.tmps,⟨fun k cs' hk=>?_,hs'.mem.buf,hs'.mem.arr,fun k hk=>hs'.mem.apart k (hsome k hk),fun k k' x h h'=>hs'.mem.distinct k k' x (hown _ _ h) (hown _ _ h'),hs'.mem.alive⟩,
  hs'.ext,hs'.sub,hs'.sup,fun k x h=>hs'.own k x (hown k x h),hs'.names,fun k hl hh=>hs'.inH k hl (hh.imp (hsome k) id)⟩
 by_cases e:k=m
 ·subst e
  rw [Zl] at hk
  cases hk
  exact ⟨vs',T',h1',hrow,h3'⟩
 ·rw [Zh _ _ (Ne.symm e)] at hk
  exact hs'.mem.box k cs' hk

theorem Sub.freezeT {X:Ctx} {st:St} {t:Nat} {n:Name} {len:Nat} {tk:Tok} (ht:lk st.t t=some (.c (.arr n len))) (hk:lk st.k n=some tk) (ha:tk.isArr=true) (hl:len=tk.l.length) :
  Sub X ⟨(t,.c (.d (.list tk.l)))::st.t,st.b,rm st.k n⟩ st:=by
 rintro S a w ⟨ok,ℓ,hs⟩
 obtain ⟨hm,hrep,hown⟩:=hs.mem.freezeArr hk ha
 have hc:Chg ok (fun x o=>ok x o∨x=ℓ.i n) w w:=⟨fun _ _ h=>.inl h,fun _ _ _=>rfl⟩
 have howner:=hs.own n _ (.arr hk ha)
 have hs':=hs.move (b':=st.b) (k':=rm st.k n) hc (fun _ _ _ n _=>.refl ℓ n) hm ⟨rfl,rfl,rfl,Nat.le_refl _⟩ (fun _ _ _=>rfl) (fun x o hx=>hx.elim .inl (fun e=>.inr (e ▸ howner))) (fun m x hx=>hs.own m x (hown m x hx)) (fun m _=>⟨.refl ℓ m,fun _=>⟨rfl,rfl,rfl⟩⟩)
  (fun m hlt hh=>hs.inH m hlt (hh.imp id (fun h=>by
   by_cases e:m=n
   ·subst e; simp [hk]
   ·rwa [Zfp _ e] at h)))
 obtain ⟨u,hu,hrv⟩:=hs.tmps t _ ht
 simp only [RV,RC] at hrv
 obtain ⟨capA,hcA,hrv⟩:=hrv
 refine ⟨_,ℓ,hs'.defers,hs'.size,fun t' v hv=>?_,hs'.mem,hs'.ext,hs'.sub,hs'.sup,hs'.own,hs'.names,hs'.inH⟩
 by_cases e:t=t'
 ·subst e; rw [Zl] at hv; cases hv; exact ⟨u,hu,by rw [hrv,hl]; exact hrep capA (by omega),rfl⟩
 ·rw [Zh _ _ e] at hv; exact hs'.tmps t' v hv

def wpL {α:Type}:Rd α→St→List Key→(List Key→α→Prop)→Prop
 | .ret a,_,R,Q=>Q R a
 | .fail,_,_,_=>False
 | .getT n f,st,R,Q=>match lk st.t n with
  | some v=>wpL (f v) st (.t n::R) Q
  | none=>False
 | .getB n f,st,R,Q=>match lk st.b n with
  | some v=>wpL (f v) st (.b n::R) Q
  | none=>False
 | .getK n f,st,R,Q=>match lk st.k n with
  | some v=>wpL (f v) st (.k n::R) Q
  | none=>False
 | .need p r,st,R,Q=>p∧wpL r st R Q
 | .exD f,st,R,Q=>∃ x,wpL (f x) st R Q
 | .exM f,st,R,Q=>∃ x b k,wpL (f x b k) st R Q
 | .case γ r s,st,R,Q=>(γ=true→wpL r st R Q)∧(γ=false→wpL s st R Q)

theorem ZEC {α:Type}:∀ {r:Rd α} {st:St} {R:List Key} {Q:List Key→α→Prop},wpL r st R Q→∃ R1 R' a,Runs r st R1 a∧Q R' a∧(∀ x∈R1,x∈R')∧(∀ x∈R,x∈R'):=by
 intro r
 induction r with
 | ret a=>intro st R Q h; exact ⟨[],R,a,.ret a st,h,by simp,fun x h=>h⟩
 | fail=>intro st R Q h; exact h.elim
 | getT n f ih =>
  intro st R Q h
  simp only [wpL] at h
  split at h
  ·rename_i v hv
   obtain ⟨R1,R',a,h1,h2,h3,h4⟩:=ih v h
   exact ⟨_::R1,R',a,.getT hv h1,h2,fun x hx=>(List.mem_cons.1 hx).elim (fun e=>h4 x (by simp [e])) (h3 x),fun x hx=>h4 x (by simp [hx])⟩
  ·exact h.elim
 | getB n f ih =>
  intro st R Q h
  simp only [wpL] at h
  split at h
  ·rename_i v hv
   obtain ⟨R1,R',a,h1,h2,h3,h4⟩:=ih v h
   exact ⟨_::R1,R',a,.getB hv h1,h2,fun x hx=>(List.mem_cons.1 hx).elim (fun e=>h4 x (by simp [e])) (h3 x),fun x hx=>h4 x (by simp [hx])⟩
  ·exact h.elim
 | getK n f ih =>
  intro st R Q h
  simp only [wpL] at h
  split at h
  ·rename_i v hv
   obtain ⟨R1,R',a,h1,h2,h3,h4⟩:=ih v h
   exact ⟨_::R1,R',a,.getK hv h1,h2,fun x hx=>(List.mem_cons.1 hx).elim (fun e=>h4 x (by simp [e])) (h3 x),fun x hx=>h4 x (by simp [hx])⟩
  ·exact h.elim
 | need p r ih=>intro st R Q h; obtain ⟨R1,R',a,h1,h2⟩:=ih h.2; exact ⟨R1,R',a,.need h.1 h1,h2⟩
 | exD f ih=>intro st R Q h; obtain ⟨x,h⟩:=h; obtain ⟨R1,R',a,h1,h2⟩:=ih x h; exact ⟨R1,R',a,.exD x h1,h2⟩
 | exM f ih=>intro st R Q h; obtain ⟨x,b,k,h⟩:=h; obtain ⟨R1,R',a,h1,h2⟩:=ih x b k h; exact ⟨R1,R',a,.exM x b k h1,h2⟩
 | case γ r s ih ih' =>
  intro st R Q h
  cases γ with
  | true=>obtain ⟨R1,R',a,h1,h2⟩:=ih (h.1 rfl); exact ⟨R1,R',a,.caseT rfl h1,h2⟩
  | false=>obtain ⟨R1,R',a,h1,h2⟩:=ih' (h.2 rfl); exact ⟨R1,R',a,.caseF rfl h1,h2⟩

def ZfY (X:Ctx) (ops:Array Oper):List Oper→St→List Rec→(St→List Rec→Prop)→Prop
 | [],st,cs,Q=>Q st cs
 | o::l,st,cs,Q=>dstOk X o∧wpL (ZeW X ops o) st [] fun R p=>ZfY X ops l (st.apply o.dst p.1 p.2) (cs++[⟨o.dst,R,p.1,p.2⟩]) Q

def ZpA (ops:Array Oper) (cs:List Rec):Bool:=Zvk (ZGU ops.toList []) cs && ZzJ ops && ZNw cs

theorem Zc9 (S:Nat→Bool):∀ (cs ds:List Rec) (i:Nat) (st:St),ZaM S (cs++ds) i st=ZaM S ds (i+cs.length) (ZaM S cs i st)
 | [],ds,i,st=>rfl
 | c::cs,ds,i,st=>by
  simp only [List.cons_append,ZaM,List.length_cons]
  rw [Zc9 S cs ds (i+1)]
  congr 1; omega

theorem Zku {S T:Nat→Bool}:∀ (cs:List Rec) (i:Nat) (st:St),(∀ j,j < cs.length→S (i+j)=T (i+j))→ZaM S cs i st=ZaM T cs i st
 | [],_,_,_=>rfl
 | c::cs,i,st,h=>by
  simp only [ZaM]
  have h0:=h 0 (by simp)
  simp only [Nat.add_zero] at h0
  rw [h0]
  exact Zku cs (i+1) _ (fun j hj=>by
   have:=h (j+1) (by simp; omega)
   rwa [show i+(j+1)=i+1+j by omega] at this)

theorem ZhE {S:Nat→Bool}:∀ (cs:List Rec) (i:Nat) (st:St),(∀ j,j < cs.length→S (i+j)=false)→ZaM S cs i st=st
 | [],_,_,_=>rfl
 | c::cs,i,st,h=>by
  simp only [ZaM]
  have h0:=h 0 (by simp)
  simp only [Nat.add_zero] at h0
  rw [h0]
  simp only [Bool.false_eq_true,if_false]
  exact ZhE cs (i+1) _ (fun j hj=>by
   have:=h (j+1) (by simp; omega)
   rwa [show i+(j+1)=i+1+j by omega] at this)

theorem Zik {X:Ctx} {ops:Array Oper} {Q:St→List Rec→Prop} {st0:St}:∀ (l:List Oper) (st:St) (cs:List Rec),ops.toList=ops.toList.take cs.length++l→cs.length≤ops.size→st=ZaM (fun _=>true) cs 0 st0→
  (∀ i c o,cs[i]?=some c→ops[i]?=some o→dstOk X o∧c.dst=o.dst∧∃ R',Runs (ZeW X ops o) (ZaM (fun j=>decide (j < i)) cs 0 st0) R' (c.gd,c.r)∧∀ x∈R',x∈c.R)→
  ZfY X ops l st cs Q→∃ ds,ds.length=ops.size∧(∀ i c o,ds[i]?=some c→ops[i]?=some o→dstOk X o∧c.dst=o.dst∧∃ R',Runs (ZeW X ops o) (ZaM (fun j=>decide (j < i)) ds 0 st0) R' (c.gd,c.r)∧∀ x∈R',x∈c.R)∧
   Q (ZaM (fun _=>true) ds 0 st0) ds
 | [],st,cs,hl,hle,hst,hall,h=>by
  refine ⟨cs,?_,hall,by rw [← hst]; exact h⟩
  have:=congrArg List.length hl
  simp at this; omega
 | o::l,st,cs,hl,hle,hst,hall,h=>by
  obtain ⟨hd,h⟩:=h
  obtain ⟨R1,R',p,h1,h2,h3,_⟩:=ZEC h
  have hlen:cs.length < ops.size:=by
   have:=congrArg List.length hl
   simp at this; omega
  have ho:ops[cs.length]?=some o:=by
   have:=congrArg (fun x=>x[cs.length]?) hl
   simp only [Array.getElem?_toList] at this
   have h2:(ops.toList.take cs.length).length=cs.length:=by simp; omega
   rw [this,List.getElem?_append_right (by omega),h2]
   simp
  refine Zik l _ (cs++[⟨o.dst,R',p.1,p.2⟩]) ?_ (by simp; omega) ?_ (fun i c o' hc ho'=>?_) h2
  ·simp only [List.length_append,List.length_singleton]
   rw [List.take_add_one,Array.getElem?_toList,ho]
   simp only [Option.toList_some,List.append_assoc,List.singleton_append]
   exact hl
  ·rw [Zc9,← hst]; rfl
  ·by_cases hi:i < cs.length
   ·rw [List.getElem?_append_left hi] at hc
    obtain ⟨g1,g2,R2,g3,g4⟩:=hall i c o' hc ho'
    refine ⟨g1,g2,R2,?_,g4⟩
    rw [Zc9,ZhE [_] _ _ (fun j hj=>by simp at hj; subst hj; simp; omega)]
    exact g3
   ·rw [List.getElem?_append_right (by omega)] at hc
    have hi0:i - cs.length=0:=by
     rcases Nat.eq_zero_or_pos (i - cs.length) with e | e
     ·exact e
     ·rw [List.getElem?_eq_none (by simp; omega)] at hc; cases hc
    have hie:i=cs.length:=by omega
    rw [hi0] at hc
    simp only [List.getElem?_cons_zero,Option.some.injEq] at hc
    subst hc
    subst hie
    rw [ho] at ho'; cases ho'
    refine ⟨hd,rfl,R1,?_,h3⟩
    have:ZaM (fun j=>decide (j < cs.length)) (cs++[⟨o.dst,R',p.1,p.2⟩]) 0 st0=st:=by
     rw [Zc9,ZhE [_] _ _ (fun j hj=>by simp at hj; subst hj; simp),hst]
     exact Zku cs 0 st0 (fun j hj=>by simp [hj])
    rw [this]
    exact h1

theorem ZhK {X:Ctx} (hT:TOk X) (hm:X.P.follows .mixedOrders=true) {ops:Array Oper} {id:Nat} {S:Start} {Q:Exit→Act→World→Prop} {Q':St→Prop} (hQ:∀ st a w,Q' st→Sim X S st a w→Q .normal a w) {st:St}
  (h:ZfY X ops ops.toList st [] fun st' cs=>ZA1 st cs∧ZpA ops cs=true∧Q' st') {a:Act} {w:World} (hs:Sim X S st a w):(Code.region id ops true).wp X.P Q a w:=by
 obtain ⟨ds,h1,h2,h3,h4,h5⟩:=Zik (st0:=st) ops.toList st [] (by simp) (by simp) rfl (by simp) h
 unfold ZpA at h4
 simp only [Bool.and_eq_true] at h4
 exact Zw0 hT hm h1 h2 h4.1.1 h3 h4.1.2 h4.2 (fun a w hs=>hQ _ a w h5 hs) hs

def Zk1 (n:St→Prop) (Q:Exit→St→Prop):Exit→St→Prop
 | .normal,st=>n st
 | e,st=>Q e st

def Zdb (id:Nat) (Q:Exit→St→Prop):Exit→St→Prop
 | .exit i,st=>if i=id then Q .normal st else Q (.exit i) st
 | e,st=>Q e st

def ZmX (c:Operand) (st:St):Option (Bool×Bool):=match c with
 | .tmp t=>match lk st.t t with
  | some v=>Zhz v
  | none=>none
 | .const (.bool b)=>some (true,b)
 | _=>none

def W (X:Ctx):Code→(Exit→St→Prop)→St→Prop
 | .skip,Q,st=>Q .normal st
 | .region _ ops true,Q,st=>ZfY X ops ops.toList st [] fun st' cs=>ZA1 st cs∧ZpA ops cs=true∧Q .normal st'
 | .region _ ops false,Q,st=>ZFf X ops ops.toList st (Q .normal)
 | .seq a b,Q,st=>W X a (Zk1 (W X b Q) Q) st
 | .cond c x y,Q,st=>match ZmX c st with
  | some p=>p.1=true∧(p.2=true→W X x Q st)∧(p.2=false→W X y Q st)
  | none=>False
 | .block id c,Q,st=>W X c (Zdb id Q) st
 | .loop c,Q,st=>∃ (G:Type) (T:G→St) (J:G→Prop) (μ:G→Nat),(∃ g,J g∧Sub X (T g) st)∧∀ g,J g→W X c (Zk1 (fun st'=>∃ g',J g'∧Sub X (T g') st'∧μ g' < μ g) Q) (T g)
 | .exit id,Q,st=>Q (.exit id) st
 | .ret,Q,st=>Q .ret st
 | .label _,Q,st=>Q .normal st
 | _,_,_=>False

end Go.Vam
end
section
set_option linter.unusedVariables false
set_option linter.unusedSimpArgs false
namespace Go.Vam

def Zuf:Nat→List V→List (Nat×V)
 | _,[]=>[]
 | i,v::vs=>(i,v)::Zuf (i+1) vs

theorem ZmR:∀ (vs:List V) (i t:Nat) (v:V),lk (Zuf i vs) t=some v→i≤t∧vs[t - i]?=some v
 | [],_,_,_,h=>by cases h
 | v::vs,i,t,v',h=>by
  by_cases e:i=t
  ·subst e; rw [Zuf,Zl] at h; cases h; simp
  ·rw [Zuf,Zh _ _ e] at h
   obtain ⟨h1,h2⟩:=ZmR vs (i+1) t v' h
   refine ⟨by omega,?_⟩
   rw [show t - i=(t - (i+1))+1 by omega,List.getElem?_cons_succ]
   exact h2

def ZDR (X:Ctx) (st:St):ResultVar→Option V
 | .tmp t=>lk st.t t
 | .cell a T=>match lk st.t a,X.tt T with
  | some (.c (.lp n off)),some ti=>match lk st.b n with
   | some cs=>ZhI ti cs off
   | none=>none
  | _,_=>none

def Zek (X:Ctx) (st:St):List ResultVar→Option (List V)
 | []=>some []
 | r::rs=>match ZDR X st r,Zek X st rs with
  | some v,some vs=>some (v::vs)
  | _,_=>none

def tsS:List V→Option (List (Option Nat))
 | []=>some []
 | .c _::vs=>(tsS vs).map (none::·)
 | .agg cs::vs=>(tsS vs).map (some cs.length::·)
 | _::_=>none
def tsC:List V→List C
 | []=>[]
 | .c x::vs=>x::tsC vs
 | .agg cs::vs=>cs++tsC vs
 | _::vs=>tsC vs
def ZNA (r:V) (vs:List V):Option V:=match r with
 | .ts _ _=>(tsS vs).map fun sh=>.ts sh (tsC vs)
 | _=>(toDs vs).map .tup

def Zvm (X:Ctx) (r:V) (rs:List ResultVar) (st:St):Option V :=
 match rs with
 | [x]=>ZDR X st x
 | rs=>match Zek X st rs with
  | some vs=>ZNA r vs
  | none=>none

def ZEI (X:Ctx) (rs:List ResultVar) (r:V) (b':Zf) (k':Zr) (st:St):Prop :=
 (match Zvm X r rs st with
  | some v=>leV r v
  | none=>False)∧Zll b' st.b∧Zlm k' st.k

def ZLW (X:Ctx) (rs:List ResultVar) (r:V) (b':Zf) (k':Zr):Exit→St→Prop
 | .normal,st=>∃ st',Sub X st' st∧ZEI X rs r b' k' st'
 | .ret,st=>∃ st',Sub X st' st∧ZEI X rs r b' k' st'
 | _,_=>False

def ZkR (tmps:Array Value):ResultVar→Sem Value
 | .tmp t=>pure (tmps.getD t undef)
 | .cell a t=>do loadVar t (← asAddr (tmps.getD a undef))

theorem Zxg (fn:Func) (tmps:Array Value):results fn tmps=(do
 let vs ← fn.results.mapM (ZkR tmps)
 pure (if h:vs.size=1 then vs[0] else .tuple vs)):=by
 unfold results
 congr 1

theorem ZDS {X:Ctx} (hT:TOk X) {S:Start} {ok ℓ st a w} (hs:SimW X S ok ℓ st a w) {rv:ResultVar} {v:V} (h:ZDR X st rv=some v) :
  ∃ u,(ZkR a.tmps rv).run X.P w=.ok u w∧RV ok ℓ w u v:=by
 cases rv with
 | tmp t =>
  obtain ⟨u,hu,hr⟩:=hs.tmps t v h
  have:a.tmps.getD t undef=u:=by simp [hu]
  exact ⟨u,by simp [ZkR,hu],hr⟩
 | cell x t =>
  simp only [ZDR] at h
  split at h
  case h_2=>cases h
  rename_i n off ti h1 hti
  split at h
  case h_2=>cases h
  rename_i cs h2
  obtain ⟨u,hu,hr⟩:=hs.tmps x _ h1
  simp only [RV,RC] at hr
  subst hr
  obtain ⟨vs,T,h8,h9,_⟩:=hs.mem.box n cs h2
  obtain ⟨i,d,z,hto⟩:=TI.ok (hT t ti hti)
  obtain ⟨h10,h11⟩:=ZfV h9 h
  by_cases ha:ti.agg=true
  ·obtain ⟨us,hl,hcell,hrv⟩:=h10 ha
   refine ⟨_,?_,hrv⟩
   simp [ZkR,hu,asAddr,ZbV hto ha hl (fun j u hu=>by rw [Zam h8]; exact hcell j u hu)]
  ·have ha':ti.agg=false:=by simpa using ha
   obtain ⟨u,hu',hrv⟩:=h11 ha'
   refine ⟨u,?_,hrv⟩
   simp [ZkR,hu,asAddr,Za6 hto ha' (show w.cell? ⟨ℓ.i n,off,none⟩=some u by rw [Zam h8]; exact hu')]

theorem ZH1 {ok:Zas} {ℓ:Loc} {w:World} {u:Value} {v:V} {x:D} (h:RV ok ℓ w u v) (hx:v.toD=some x):Rep ok w u x:=by
 cases v with
 | c y=>exact (RC.toD h hx).1
 | agg cs =>
  simp only [V.toD,Option.map_eq_some_iff] at hx
  obtain ⟨ds,hds,rfl⟩:=hx
  obtain ⟨vs,rfl,hr⟩:=h
  obtain ⟨h1,h2⟩:=hr.toDs hds
  exact .agg _ _ h1.symm (fun y hy=>by obtain ⟨j,hj⟩:=List.getElem?_of_mem hy; exact (h2 j y hj).1) (fun i u y hu hy=>by obtain ⟨_,u',hu',h⟩:=h2 i y hy; rw [hu] at hu'; cases hu'; exact h)
 | _=>simp [V.toD] at hx

theorem ZkS {X:Ctx} (hT:TOk X) {S:Start} {ok ℓ st a w} (hs:SimW X S ok ℓ st a w):∀ (rs:List ResultVar) (vs:List V),Zek X st rs=some vs→
  ∃ us:List Value,(rs.mapM (ZkR a.tmps)).run X.P w=.ok us w∧us.length=vs.length∧∀ (i:Nat) u v,us[i]?=some u→vs[i]?=some v→RV ok ℓ w u v
 | [],vs,h=>by simp only [Zek,Option.some.injEq] at h; subst h; exact ⟨[],by simp,rfl,by simp⟩
 | r::rs,vs,h=>by
  simp only [Zek] at h
  split at h
  case h_2=>cases h
  rename_i v vs' hv hvs
  cases h
  obtain ⟨u,hu,hr⟩:=ZDS hT hs hv
  obtain ⟨us,hus,hl,hall⟩:=ZkS hT hs rs vs' hvs
  refine ⟨u::us,?_,by simp [hl],fun i x y hx hy=>?_⟩
  ·rw [List.mapM_cons]
   simp only [Sem.run_bind,hu,Result.andThen_ok,hus]
   rfl
  ·cases i with
   | zero=>simp at hx hy; subst hx; subst hy; exact hr
   | succ i=>simp at hx hy; exact hall i x y hx hy

theorem Zqf {X:Ctx} {st:St}:∀ (rs:List ResultVar) (vs:List V),Zek X st rs=some vs→vs.length=rs.length
 | [],vs,h=>by simp only [Zek,Option.some.injEq] at h; subst h; rfl
 | r::rs,vs,h=>by
  simp only [Zek] at h
  split at h
  case h_2=>cases h
  rename_i v vs' hv hvs
  cases h
  simp [Zqf rs vs' hvs]

theorem Zt2 {ok ℓ w}:∀ (us:List Value) (vs:List V) (sh:List (Option Nat)),us.length=vs.length→(∀ (i:Nat) u v,us[i]?=some u→vs[i]?=some v→RV ok ℓ w u v)→tsS vs=some sh→∃ fs:List Value,Zk3 sh fs=us∧RCs ok ℓ w fs.toArray (tsC vs)
 | [],[],sh,_,_,e=>by simp only [tsS,Option.some.injEq] at e; subst e; exact ⟨[],rfl,by simp [tsC,RCs]⟩
 | [],_::_,_,h,_,_=>by simp at h
 | _::_,[],_,h,_,_=>by simp at h
 | u::us,.c x::vs,sh,hl,hr,e=>by
  simp only [tsS,Option.map_eq_some_iff] at e
  obtain ⟨sh,e,rfl⟩:=e
  obtain ⟨fs,h1,h2,h3⟩:=Zt2 us vs sh (by simpa using hl) (fun i u v hu hv=>hr (i+1) u v (by simpa using hu) (by simpa using hv)) e
  refine ⟨u::fs,by simp [Zk3,h1],by simpa [tsC] using h2,fun i z c hz hc=>?_⟩
  cases i with
  | zero=>simp [tsC] at hz hc; subst hz; subst hc; exact hr 0 u (.c x) rfl rfl
  | succ i=>exact h3 i z c (by simpa using hz) (by simpa [tsC] using hc)
 | u::us,.agg cs::vs,sh,hl,hr,e=>by
  simp only [tsS,Option.map_eq_some_iff] at e
  obtain ⟨sh,e,rfl⟩:=e
  obtain ⟨fs,h1,h2,h3⟩:=Zt2 us vs sh (by simpa using hl) (fun i u v hu hv=>hr (i+1) u v (by simpa using hu) (by simpa using hv)) e
  obtain ⟨as,ha,hb,hc⟩:=hr 0 u (.agg cs) rfl rfl
  have hal:as.toList.length=cs.length:=by simpa using hb
  refine ⟨as.toList++fs,?_,by simp [tsC,hb] at h2 ⊢; omega,fun i z c hz hcc=>?_⟩
  ·simp only [Zk3]
   rw [List.take_left' hal,List.drop_left' hal,h1,ha]
  ·simp only [tsC,List.getElem?_toArray] at hz hcc
   by_cases hi:i < cs.length
   ·rw [List.getElem?_append_left (by omega)] at hz
    rw [List.getElem?_append_left hi] at hcc
    exact hc i z c (by simpa using hz) hcc
   ·rw [List.getElem?_append_right (by omega)] at hz
    rw [List.getElem?_append_right (by omega)] at hcc
    rw [hal] at hz
    exact h3 (i - cs.length) z c (by simpa using hz) hcc
 | u::us,.tup _::vs,sh,hl,hr,e=>by simp [tsS] at e
 | u::us,.ts _ _::vs,sh,hl,hr,e=>by simp [tsS] at e
 | u::us,.g _ _::vs,sh,hl,hr,e=>by simp [tsS] at e

theorem Zvn {X:Ctx} (hT:TOk X) {S:Start} {ok ℓ st a w} (hs:SimW X S ok ℓ st a w) {fn:Func} {r0 v:V} (h:Zvm X r0 fn.results.toList st=some v) :
  ∃ u,(results fn a.tmps).run X.P w=.ok u w∧RV ok ℓ w u v:=by
 obtain ⟨rs,hrs⟩:∃ rs,fn.results=⟨rs⟩:=⟨fn.results.toList,rfl⟩
 simp only [hrs] at h
 have hrun:∀ us:List Value,(rs.mapM (ZkR a.tmps)).run X.P w=.ok us w→(results fn a.tmps).run X.P w=.ok (if h:us.length=1 then us[0] else .tuple us.toArray) w:=by
  intro us hus
  rw [Zxg,hrs]
  simp [hus]
 unfold Zvm at h
 split at h
 ·rename_i r
  obtain ⟨us,h1,h2,h3⟩:=ZkS hT hs [r] [v] (by simp [Zek,h])
  have h4:=hrun us h1
  match us,h2 with
  | [u],_=>exact ⟨u,h4,h3 0 u v (by simp) (by simp)⟩
 ·rename_i rs' hne
  split at h
  case h_2=>cases h
  rename_i vs hvs
  obtain ⟨us,h1,h2,h3⟩:=ZkS hT hs _ vs hvs
  refine ⟨.tuple us.toArray,?_,?_⟩
  ·have h6:=hrun us h1
   have hl:=Zqf _ _ hvs
   rw [dif_neg] at h6
   ·exact h6
   ·intro e
    match rs,hl,hne with
    | [r],_,hne=>exact hne r rfl
    | [],hl,_=>rw [h2,hl] at e; simp at e
    | _::_::_,hl,_=>rw [h2,hl] at e; simp at e
  ·unfold ZNA at h
   split at h
   ·simp only [Option.map_eq_some_iff] at h
    obtain ⟨sh,hsh,rfl⟩:=h
    obtain ⟨fs,e1,e2⟩:=Zt2 us vs sh h2 (fun i u v hu hv=>h3 i u v hu hv) hsh
    exact ⟨fs.toArray,by rw [← e1],e2⟩
   ·simp only [Option.map_eq_some_iff] at h
    obtain ⟨ds,hds,rfl⟩:=h
    obtain ⟨h4,h5⟩:=ZnM vs ds hds
    refine .tup _ _ (by simp [h2,h4]) (fun i u y hu hy=>?_)
    obtain ⟨v,hv,hx⟩:=h5 i y hy
    exact ZH1 (h3 i u v (by simpa using hu) hv) hx


theorem ZkZ {X:Ctx} {lv:Nat} {f:FuncId} {fn:Func} {c:Code} {args:List V} {b b':Zf} {k k':Zr} {r:V} (hL:X.L=lv+1) (hn:X.n=fn.ntmps) (hT:TOk X) (hm:X.P.follows .mixedOrders=true)
  (hf:X.P.funcs[f]?=some fn) (hb:fn.body=some c) (hname:(fn.name == "runtime.NumGoroutine")=false) (ha:args.length≤fn.ntmps) (hlv:ZC2 lv r b' k')
  {QW:Exit→St→Prop} (hQ:∀ e st,QW e st→ZLW X fn.results.toList r b' k' e st) (h:∀ S a w,Sim X S ⟨Zuf 0 args,b,k⟩ a w→c.wp X.P (fun e a' w'=>∃ st',QW e st'∧Sim X S st' a' w') a w):Spec X.P lv f args b k r b' k':=by
 refine ⟨hlv,fun w ok ℓ us hmem hus=>.inl ⟨?_,?_⟩⟩
 ·simp only [beq_eq_false_iff_ne,ne_eq] at hname
  simp [callFunc,hf,hname,hb]
 refine calls_of_wp hf hb ?_
 let S:Start:=⟨w,ok,ℓ,fun x=>∃ n,Owns ℓ b k n x,fun n=>(lk b n).isSome=true∨(lk k n).isSome=true⟩
 have hs:Sim X S ⟨Zuf 0 args,b,k⟩ { tmps:=us++Array.replicate (fn.ntmps - us.size) undef,defers:=[]} w:=by
  refine ⟨ok,ℓ,rfl,?_,fun t v hv=>?_,hmem,.refl _ _,.refl _ _,fun _ _ h=>.inl h,fun n x h=>.inr ⟨n,h⟩,fun n _=>⟨.refl ℓ n,fun _=>⟨rfl,rfl,rfl⟩⟩,fun n _ h=>h⟩
  ·simp only [Array.size_append,Array.size_replicate,hn]
   have:=hus.1
   omega
  ·obtain ⟨_,h2⟩:=ZmR args 0 t v hv
   simp only [Nat.sub_zero] at h2
   have hlt:t < us.size:=by rw [hus.1]; exact (List.getElem?_eq_some_iff.1 h2).1
   refine ⟨us[t],?_,hus.2 t _ v (Array.getElem?_eq_getElem hlt) h2⟩
   rw [Array.getElem?_append_left hlt]
   exact Array.getElem?_eq_getElem hlt
 have hend:∀ (st:St) (a':Act) (w':World),(∃ st',Sub X st' st∧ZEI X fn.results.toList r b' k' st')→Sim X S st a' w'→
   a'.defers=[]∧∃ v,(results fn a'.tmps).run X.P w'=.ok v w'∧∃ u ok' ℓ',(Ending.returned v)=.returned u∧Post lv ok ℓ b k w r b' k' ok' ℓ' w' u:=by
  rintro st a' w' ⟨st',hsub,hv,hbs,hks⟩ hsim
  obtain ⟨ok',ℓ',hs'⟩:=hsub S a' w' hsim
  split at hv
  case h_2=>exact hv.elim
  rename_i v hv0
  obtain ⟨u,hu,hr⟩:=Zvn hT hs' hv0
  obtain ⟨hm',ho'⟩:=hs'.mem.le (Zg3 _ _ hbs) (Zg4 _ _ hks)
  refine ⟨hs'.defers,u,hu,u,ok',ℓ',rfl,hs'.ext,hm',hr.le hv,hs'.sub,hs'.sup,fun n x hx=>hs'.own n x (ho' n x hx),fun n hn _=>?_⟩
  obtain ⟨h1,h2⟩:=hs'.names n (by omega)
  refine ⟨h1,fun e1 e2=>h2 ?_⟩
  simp [S,e1,e2]
 refine wp_mono (h S _ w hs) ?_
 rintro e a' w' ⟨st,hq0,hsim⟩
 have hq:=hQ e st hq0
 cases e with
 | normal=>exact hend st a' w' hq hsim
 | ret=>exact hend st a' w' hq hsim
 | _=>exact hq.elim

def C.bare:C→Bool
 | .d _=>true
 | .nil=>true
 | .pd _=>true
 | .fn _ []=>true
 | _=>false

def V.bare:V→Bool
 | .c x=>x.bare
 | .agg cs=>cs.all C.bare
 | .tup _=>true
 | .ts _ cs=>cs.all C.bare
 | .g _ v=>v.bare

theorem C.bare_has {c:C} (h:c.bare=true) (n:Name):¬ c.has n:=by
 unfold C.bare at h
 split at h <;> simp_all [C.has]
theorem V.bare_has:∀ {v:V},v.bare=true→∀ n,¬ v.has n
 | .c x,h,n=>C.bare_has h n
 | .agg cs,h,n=>by
  simp only [V.bare,List.all_eq_true] at h
  rintro ⟨c,hc,hh⟩
  exact C.bare_has (h c hc) n hh
 | .tup _,_,_=>fun h=>h
 | .ts _ cs,h,n=>by
  simp only [V.bare,List.all_eq_true] at h
  rintro ⟨c,hc,hh⟩
  exact C.bare_has (h c hc) n hh
 | .g _ v,h,n=>V.bare_has (v:=v) h n

theorem RV.loc {ok ℓ w u v} (h:RV ok ℓ w u v) (hv:v.bare=true) (ℓ':Loc):RV ok ℓ' w u v :=
 h.chg (.refl ok w) (fun n hn=>(V.bare_has hv n hn).elim)

theorem Spec.lift {P:Program} {lv:Nat} {f:FuncId} {args:List V} {r:V} (h:Spec P lv f args [] [] r [] []) (hr:r.bare=true) (lv':Nat):Spec P lv' f args [] [] r [] []:=by
 refine ⟨⟨fun n hn=>(V.bare_has hr n hn).elim,by simp,by simp⟩,fun w ok ℓ us hm hus=>?_⟩
 have:=h.2 w ok ℓ us hm hus
 have hmono:∀ (e:Ending) (w':World),(∃ u ok' ℓ',e=Ending.returned u∧Post lv ok ℓ [] [] w r [] [] ok' ℓ' w' u)→∃ u ok' ℓ',e=.returned u∧Post lv' ok ℓ [] [] w r [] [] ok' ℓ' w' u:=by
  rintro e w' ⟨u,ok',ℓ',rfl,hp⟩
  refine ⟨u,ok',ℓ,rfl,hp.ext,⟨by simp [lk],by simp [lk],by simp [lk],by simp [lk],fun n m x hn=>?_,hp.mem.alive⟩,hp.val.loc hr ℓ,hp.chg,hp.sup,fun n x hn=>?_,fun n _ _=>⟨.refl ℓ n,fun _ _=>⟨rfl,rfl,rfl⟩⟩⟩
  ·rcases hn with ⟨h,_⟩ | ⟨_,h,_⟩ | ⟨_,h,_⟩ <;> simp [lk] at h
  ·rcases hn with ⟨h,_⟩ | ⟨_,h,_⟩ | ⟨_,h,_⟩ <;> simp [lk] at h
 rcases this with ⟨h1,h2⟩ | ⟨v,w',h1,h2⟩
 ·exact .inl ⟨h1,h2.mono hmono⟩
 ·exact .inr ⟨v,w',h1,hmono _ _ h2⟩

end Go.Vam
end
