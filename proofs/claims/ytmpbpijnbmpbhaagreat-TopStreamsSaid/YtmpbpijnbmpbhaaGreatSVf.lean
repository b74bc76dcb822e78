/- A part of the proof. Conditions: none. -/
import Derived.Test.YtmpbpijnbmpbhaaGreatSVe
section
set_option linter.unusedVariables false
set_option linter.unusedSimpArgs false
namespace Go.Vam

theorem Zbl {κ α:Type} [DecidableEq κ]:∀ (l:List (κ×α)) (k:κ) (v:α),lk l k=some v→(k,v)∈l
 | [],k,v,h=>by cases h
 | (k',v')::l,k,v,h=>by
  simp only [lk] at h
  split at h
  ·rename_i e; simp only [Option.some.injEq] at h; subst e; subst h; simp
  ·exact List.mem_cons_of_mem _ (Zbl l k v h)

theorem MemOK.agree {ok:Zay} {ℓ ℓ':Loc} {b:Zf} {k:Zw} {w:World} (h:MemOK ok ℓ b k w)
  (hn:∀ n,((lk b n).isSome=true∨(lk k n).isSome=true∨∃ m cs,lk b m=some cs∧∃ c∈cs,c.has n)→ℓ'.i n=ℓ.i n∧ℓ'.z n=ℓ.z n∧ℓ'.h n=ℓ.h n) :
  MemOK ok ℓ' b k w∧∀ n x,Owns ℓ' b k n x→Owns ℓ b k n x:=by
 have ho:∀ m x,Owns ℓ' b k m x→Owns ℓ b k m x:=by
  intro m x hm
  rcases hm with ⟨h1,rfl⟩ | ⟨tk,h1,h2,rfl⟩ | ⟨tk,h1,h2,h3⟩
  ·rw [(hn m (.inl h1)).1]; exact .inl ⟨h1,rfl⟩
  ·rw [(hn m (.inr (.inl (by simp [h1])))).1]; exact .arr h1 h2
  ·rw [(hn m (.inr (.inl (by simp [h1])))).2.2] at h3; exact .buf h1 h2 h3
 have hat:∀ n,((lk b n).isSome=true∨(lk k n).isSome=true∨∃ m cs,lk b m=some cs∧∃ c∈cs,c.has n)→LocAt ℓ ℓ' n:=fun n hh=>by
  obtain ⟨a,b,c⟩:=hn n hh
  exact ⟨a,b,by rw [c]; exact Nat.le_refl _,fun _=>c⟩
 refine ⟨⟨fun m cs hm=>?_,fun m tk hm ha=>?_,fun m tk hm ha=>?_,h.apart,fun m m' x hm hm'=>h.distinct m m' x (ho _ _ hm) (ho _ _ hm'),h.alive⟩,ho⟩
 ·exact (h.box m cs hm).chg (.refl ok w) (fun m' ⟨c,hc,hh⟩=>hat m' (.inr (.inr ⟨m,cs,hm,c,hc,hh⟩))) (hn m (.inl (by simp [hm]))).1 rfl (fun _ h=>h)
 ·exact (h.buf m tk hm ha).chg (.refl ok w) (hn m (.inr (.inl (by simp [hm])))).2.2 (fun _ _=>rfl) (fun _ _ _ h=>h)
 ·exact (h.arr m tk hm ha).chg (.refl ok w) (hn m (.inr (.inl (by simp [hm])))).1 (hn m (.inr (.inl (by simp [hm])))).2.1 rfl (fun _ h=>h)

theorem RC.pure {ok ℓ w u c} (h:RC ok ℓ w u c):RC ok ℓ w u c.pure:=by
 cases c with
 | nil=>obtain ⟨a,rfl⟩:=h; exact ⟨.nil _ _,rfl⟩
 | own k l=>exact ⟨h.1,rfl⟩
 | _=>exact h

theorem RV.pure {ok ℓ w u v} (h:RV ok ℓ w u v):RV ok ℓ w u v.pure:=by
 cases v with
 | c x=>exact RC.pure h
 | agg cs =>
  obtain ⟨vs,h1,h2,h3⟩:=h
  refine ⟨vs,h1,by simpa using h2,fun i z c hz hc=>?_⟩
  simp only [List.getElem?_map,Option.map_eq_some_iff] at hc
  obtain ⟨c,hc,rfl⟩:=hc
  exact (h3 i z c hz hc).pure
 | tup ds=>exact h
 | ts sh cs=>exact h
 | g γ v=>exact h

theorem RV.hand {ok ℓ w u v} (h:RV ok ℓ w u v) (m:Option Nat):RV ok ℓ w u (ZkY m v):=by
 unfold ZkY; split
 ·exact h
 ·exact h.pure

section
variable {α:Type} {st:St} {R:List Key} {r:α}

theorem Zph:∀ (ns:List Name) {R:List Key} {f:Zf→Rd α},Runs (getBs ns f) st R r→∃ b R',(∀ n cs,lk b n=some cs→lk st.b n=some cs)∧Runs (f b) st R' r
 | [],R,f,h=>⟨[],R,(fun n cs hn=>by simp [lk] at hn),h⟩
 | n::ns,R,f,h=>by
  obtain ⟨cs,R1,h1,h2⟩:=ZmN h
  obtain ⟨b,R2,h3,h4⟩:=Zph ns h2
  refine ⟨_,R2,fun m c hm=>?_,h4⟩
  unfold ZKr at hm
  split at hm
  ·exact h3 m c hm
  ·by_cases e:n=m
   ·subst e; rw [Zk] at hm; cases hm; exact h1
   ·rw [Zh _ _ e] at hm; exact h3 m c hm

theorem Zpi:∀ (ns:List Name) {R:List Key} {f:Zw→Rd α},Runs (getKs ns f) st R r→∃ b R',(∀ n cs,lk b n=some cs→lk st.k n=some cs)∧Runs (f b) st R' r
 | [],R,f,h=>⟨[],R,(fun n cs hn=>by simp [lk] at hn),h⟩
 | n::ns,R,f,h=>by
  obtain ⟨cs,R1,h1,h2⟩:=ZcZ h
  obtain ⟨b,R2,h3,h4⟩:=Zpi ns h2
  refine ⟨_,R2,fun m c hm=>?_,h4⟩
  unfold ZKs at hm
  split at hm
  ·exact h3 m c hm
  ·by_cases e:n=m
   ·subst e; rw [Zk] at hm; cases hm; exact h1
   ·rw [Zh _ _ e] at hm; exact h3 m c hm
end

def Loc.upTo (ℓ ℓ':Loc) (lv:Nat):Loc where
 i n:=if n.lv≤lv then ℓ'.i n else ℓ.i n
 h n:=if n.lv≤lv then ℓ'.h n else ℓ.h n
 z n:=if n.lv≤lv then ℓ'.z n else ℓ.z n

theorem Loc.upTo_le {ℓ ℓ':Loc} {lv:Nat} {n:Name} (h:n.lv≤lv):(ℓ.upTo ℓ' lv).i n=ℓ'.i n∧(ℓ.upTo ℓ' lv).z n=ℓ'.z n∧(ℓ.upTo ℓ' lv).h n=ℓ'.h n:=by
 simp [Loc.upTo,h]
theorem Loc.upTo_gt {ℓ ℓ':Loc} {lv:Nat} {n:Name} (h:¬ n.lv≤lv):(ℓ.upTo ℓ' lv).i n=ℓ.i n∧(ℓ.upTo ℓ' lv).z n=ℓ.z n∧(ℓ.upTo ℓ' lv).h n=ℓ.h n:=by
 simp [Loc.upTo,h]

theorem LocAt.of_eq {ℓ ℓ':Loc} {n:Name} (h:ℓ'.i n=ℓ.i n∧ℓ'.z n=ℓ.z n∧ℓ'.h n=ℓ.h n):LocAt ℓ ℓ' n:=⟨h.1,h.2.1,by rw [h.2.2]; exact Nat.le_refl _,fun _=>h.2.2⟩

section
variable {X:Ctx}

theorem ZvH {S:Start} {ok ok':Zay} {ℓ ℓ':Loc} {st:St} {a:Act} {w w':World} (hs:SimW X S ok ℓ st a w) {b b':Zf} {k k':Zw} {r:V} {u:Value}
  (hb:∀ n cs,lk b n=some cs→lk st.b n=some cs) (hk:∀ n t,lk k n=some t→lk st.k n=some t) (hlv:ZEo X.L r b' k') (hp:Post X.L ok ℓ b k w r b' k' ok' ℓ' w' u)
  (hbp:∀ n,(lk b n).isSome=true→(lk b' n).isSome=true) (hkp:∀ n,(lk k n).isSome=true→(lk k' n).isSome=true)
  (hnew:∀ n,(lk b' n).isSome=true∨(lk k' n).isSome=true→(lk b n).isSome=true∨(lk k n).isSome=true∨(n.lv=X.L∧st.Free n)) :
  SimW X S ok' (ℓ.upTo ℓ' X.L) ⟨st.t,b'++st.b,k'++st.k⟩ a w'∧RV ok' (ℓ.upTo ℓ' X.L) w' u r:=by
 have hlvb:∀ n cs,lk b' n=some cs→n.lv≤X.L∧∀ c∈cs,∀ m,c.has m→m.lv≤X.L:=fun n cs h=>hlv.2.1 (n,cs) (Zbl _ _ _ h)
 have hlvk:∀ n t,lk k' n=some t→n.lv≤X.L:=fun n t h=>hlv.2.2 (n,t) (Zbl _ _ _ h)
 obtain ⟨hm',ho'⟩:=hp.mem.agree (ℓ':=ℓ.upTo ℓ' X.L) (fun n hn=>by
  refine Loc.upTo_le ?_
  rcases hn with h | h | ⟨m,cs,h,c,hc,hh⟩
  ·obtain ⟨cs,hcs⟩:=Option.isSome_iff_exists.1 h; exact (hlvb n cs hcs).1
  ·obtain ⟨t,ht⟩:=Option.isSome_iff_exists.1 h; exact hlvk n t ht
  ·exact (hlvb m cs h).2 c hc n hh)
 have hnn:∀ n,ZjN b b' k k' n→st.Free n:=by
  rintro n ⟨h1,h2,h3⟩
  rcases hnew n h3 with h | h | h
  ·rw [h1] at h; cases h
  ·rw [h2] at h; cases h
  ·exact h.2
 have hat:∀ n,¬ ZjN b b' k k' n→LocAt ℓ (ℓ.upTo ℓ' X.L) n:=by
  intro n hn
  by_cases hl:n.lv≤X.L
  ·have:=(hp.loc n hl hn).1
   obtain ⟨e1,e2,e3⟩:=Loc.upTo_le (ℓ:=ℓ) (ℓ':=ℓ') hl
   exact ⟨e1.trans this.i,e2.trans this.z,by rw [e3]; exact this.le,fun e=>by rw [e3] at e ⊢; exact this.eq e⟩
  ·exact .of_eq (Loc.upTo_gt hl)
 have hpart:=(hs.mem.part hb hk).2
 have heq:∀ n,lk b' n=none→lk k' n=none→(ℓ.upTo ℓ' X.L).i n=ℓ.i n∧(ℓ.upTo ℓ' X.L).z n=ℓ.z n∧(ℓ.upTo ℓ' X.L).h n=ℓ.h n:=by
  intro n h1 h2
  by_cases hl:n.lv≤X.L
  ·have hnb:lk b n=none:=by
    cases hb0:lk b n with
    | none=>rfl
    | some c=>have:=hbp n (by simp [hb0]); rw [h1] at this; cases this
   have hnk:lk k n=none:=by
    cases hk0:lk k n with
    | none=>rfl
    | some c=>have:=hkp n (by simp [hk0]); rw [h2] at this; cases this
   have:=(hp.loc n hl (fun hn=>by rcases hn.2.2 with h | h <;> simp_all)).2 hnb hnk
   obtain ⟨e1,e2,e3⟩:=Loc.upTo_le (ℓ:=ℓ) (ℓ':=ℓ') hl
   exact ⟨e1.trans this.1,e2.trans this.2.1,e3.trans this.2.2⟩
  ·exact Loc.upTo_gt hl
 obtain ⟨hmm,hmo⟩:=hs.mem.merge hb hk hm' hbp hkp hp.ext hp.chg hp.sup (fun n x hx=>hp.own n x (ho' n x hx))
  (fun n hn=>by
   rcases hnew n hn with h | h | h
   ·left
    have h1:=hbp n h
    exact ⟨h,h1,hm'.apart n h1⟩
   ·right; left
    have h1:=hkp n h
    refine ⟨h,h1,?_⟩
    cases hb':lk b' n with
    | none=>rfl
    | some c=>have:=hm'.apart n (by simp [hb']); rw [this] at h1; cases h1
   ·exact .inr (.inr h.2.m))
  (fun n h1 h2 _=>heq n h1 h2)
  (fun m cs hm c hc n hh=>by
   by_cases e:ZjN b b' k k' n
   ·exact .inr (hnn n e).m
   ·exact .inl (hat n e))
 have howner:∀ x,(∃ n,Owns ℓ b k n x)→S.w.heap.size≤x∨S.M x:=fun x ⟨n,hn⟩=>hs.own n x (hpart n x hn)
 refine ⟨hs.move hp.chg (fun t v hv n hh=>hat n (fun e=>(hnn n e).t t v hv hh)) hmm ⟨hp.ext.os,hp.ext.tape,hp.ext.output,hp.ext.size⟩
  (fun i hi hm=>hp.ext.block i (Nat.lt_of_lt_of_le hi hs.ext.size) (fun e=>?_)) (fun x o hx=>?_) (fun n x hx=>?_) (fun n hlt=>?_) (fun n hlt hh=>?_),?_⟩
 ·rcases howner i e with h | h
  ·omega
  ·exact hm h
 ·rcases hp.sup x o hx with h | h | h
  ·exact .inl h
  ·exact .inr (.inl (Nat.le_trans hs.ext.size h))
  ·exact .inr (howner x h)
 ·rcases hmo n x hx with h | h
  ·exact hs.own n x h
  ·rcases hp.own n x (ho' n x h) with h | h
   ·exact .inl (Nat.le_trans hs.ext.size h)
   ·exact howner x h
 ·have hnn':¬ ZjN b b' k k' n:=by
   rintro ⟨h1,h2,h3⟩
   rcases hnew n h3 with h | h | h
   ·rw [h1] at h; cases h
   ·rw [h2] at h; cases h
   ·omega
  refine ⟨hat n hnn',fun hH=>?_⟩
  have hb0:lk b n=none:=by
   cases h:lk b n with
   | none=>rfl
   | some c=>exact absurd (hs.inH n hlt (.inl (by simp [hb n c h]))) hH
  have hk0:lk k n=none:=by
   cases h:lk k n with
   | none=>rfl
   | some c=>exact absurd (hs.inH n hlt (.inr (by simp [hk n c h]))) hH
  have:=(hp.loc n (Nat.le_of_lt hlt) hnn').2 hb0 hk0
  obtain ⟨e1,e2,e3⟩:=Loc.upTo_le (ℓ:=ℓ) (ℓ':=ℓ') (Nat.le_of_lt hlt)
  exact ⟨e1.trans this.1,e2.trans this.2.1,e3.trans this.2.2⟩
 ·have hin:(lk b' n).isSome=true∨(lk k' n).isSome=true→S.H n:=by
   intro h
   rcases hnew n h with h | h | h
   ·obtain ⟨c,hc⟩:=Option.isSome_iff_exists.1 h; exact hs.inH n hlt (.inl (by simp [hb n c hc]))
   ·obtain ⟨c,hc⟩:=Option.isSome_iff_exists.1 h; exact hs.inH n hlt (.inr (by simp [hk n c hc]))
   ·omega
  simp only [ZbG] at hh
  rcases hh with hh | hh
  ·cases hb':lk b' n with
   | some c=>exact hin (.inl (by simp [hb']))
   | none=>rw [hb'] at hh; exact hs.inH n hlt (.inl (by simpa using hh))
  ·cases hk':lk k' n with
   | some c=>exact hin (.inr (by simp [hk']))
   | none=>rw [hk'] at hh; exact hs.inH n hlt (.inr (by simpa using hh))
 ·exact hp.val.chg (.refl _ _) (fun n hn=>.of_eq (Loc.upTo_le (hlv.1 n hn)))

theorem Zxf {P:Program} {o:Oper} {a:Act} {next:Act→World→Prop} {Q:Exit→Act→World→Prop} {f:FuncId} {us:Array Value} {w:World} {R:Ending→World→Prop} (h:CallsF P f us w R)
  (hR:∀ e w',R e w'→∃ v,e=.returned v∧next (a.put o.dst v) w'):o.upon P a next Q ((callFunc f us).run P w):=by
 rcases h with ⟨h1,h2⟩ | ⟨v,w',h1,h2⟩
 ·rw [h1]
  refine h2.mono (fun e w' he=>?_)
  obtain ⟨v,rfl,hn⟩:=hR e w' he
  exact hn
 ·rw [h1]
  obtain ⟨v',e,hn⟩:=hR _ _ h2
  cases e
  exact hn

theorem Zpp {α:Type} {b b':List (Name×α)} (h:Zpo b b'=true):∀ n,(lk b n).isSome=true→(lk b' n).isSome=true:=by
 intro n hn
 obtain ⟨c,hc⟩:=Option.isSome_iff_exists.1 hn
 simp only [Zpo,List.all_eq_true] at h
 exact h (n,c) (Zbl _ _ _ hc)
theorem ZzT {α:Type} {b:Zf} {k:Zw} {dst:Option Nat} {L:Nat} {b':List (Name×α)} (h:ZGM b k dst L b'=true):∀ n,(lk b' n).isSome=true→(lk b n).isSome=true∨(lk k n).isSome=true∨some n=dst.map (Name.mk L):=by
 intro n hn
 obtain ⟨c,hc⟩:=Option.isSome_iff_exists.1 hn
 simp only [ZGM,List.all_eq_true,Bool.or_eq_true,decide_eq_true_eq] at h
 rcases h (n,c) (Zbl _ _ _ hc) with (h | h) | h
 ·exact .inl h
 ·exact .inr (.inl h)
 ·exact .inr (.inr h)

theorem ZlG (hT:TOk X) {gd:Option Bool} {o:Oper} (hd:∀ d,o.dst=some d→d < X.n) (hg:gd.getD true=true) {S:Start} {ok ℓ st a w} (hs:SimW X S ok ℓ st a w) {f:FuncId} {us:Array Value} {vs:List V} (hv:RVs ok ℓ w us vs)
  {R:List Key} {r:Out} (hr:Runs (Zj2 X gd o.dst f vs) st R r) (hfr:∀ n∈r.new,st.Free n) {K:Act→World→Prop} {Q:Exit→Act→World→Prop} (hK:∀ a' w',Sim X S (st.apply o.dst gd r) a' w'→K a' w') :
  o.upon X.P a K Q ((callFunc f us).run X.P w):=by
 obtain ⟨b,R1,hb,h1⟩:=Zph _ hr
 obtain ⟨k,R2,hk,h2⟩:=Zpi _ h1
 obtain ⟨e,he,h3⟩:=Zg h2
 obtain ⟨hpre,h4⟩:=Z8 hg h3
 have hspec:=hT.call f vs b k _ e he rfl hpre
 split at h4
 case isFalse=>exact (ZA h4).elim
 rename_i hif
 obtain ⟨c1,c2,c3,c4,hgd⟩:=hif
 obtain ⟨rv,b',k',he'⟩:∃ rv b' k',e.r=rv∧e.b=b'∧e.k=k':=⟨_,_,_,rfl,rfl,rfl⟩
 obtain ⟨e1,e2,e3⟩:=he'
 rw [e1,e2,e3] at hspec
 rw [e2] at c1 c3 hgd
 rw [e3] at c2 c4 hgd
 rw [e1,e2,e3] at h4
 have hbp:=Zpp c1
 have hkp:=Zpp c2
 have hnw:∀ n,(lk b' n).isSome=true∨(lk k' n).isSome=true→(lk b n).isSome=true∨(lk k n).isSome=true∨some n=o.dst.map (Name.mk X.L):=fun n hn=>hn.elim (ZzT c3 n) (ZzT c4 n)
 have hrr:=Zv h4
 subst hrr
 refine Zxf (hspec.2 w ok ℓ us (hs.mem.part hb hk).1 hv) ?_
 rintro e w' ⟨u,ok',ℓ',rfl,hp⟩
 refine ⟨u,rfl,?_⟩
 obtain ⟨hs',hrv⟩:=ZvH hs hb hk hspec.1 hp hbp hkp (fun n hn=>by
  rcases hnw n hn with h | h | h
  ·exact .inl h
  ·exact .inr (.inl h)
  ·by_cases hb0:(lk b n).isSome=true
   ·exact .inl hb0
   by_cases hk0:(lk k n).isSome=true
   ·exact .inr (.inl hk0)
   right; right
   cases hdd:o.dst with
   | none=>rw [hdd] at h; cases h
   | some d =>
    rw [hdd] at h
    simp only [Option.map_some,Option.some.injEq] at h
    subst h
    refine ⟨rfl,hfr _ ?_⟩
    simp only [hdd,Option.map_some]
    rw [if_pos ?_]
    ·simp
    ·constructor
     ·rcases hn with hn | hn <;> simp [hn]
     ·simp only [Bool.not_eq_true] at hb0 hk0; simp [hb0,hk0])
 exact hK _ _ (Sim.fin hs' hd hg (fun _=>hrv))

theorem ZvS (hT:TOk X) {o:Oper} (hd:∀ d,o.dst=some d→d < X.n) {S:Start} {ok ℓ st a w} (hs:SimW X S ok ℓ st a w) {t t' ty:TypeId} {u u':Value} {dv sv:V} (hu:RV ok ℓ w u dv) (hu':RV ok ℓ w u' sv)
  {R:List Key} {r:Out} (hr:Runs (Zj6 X t dv sv) st R r) {K:Act→World→Prop} (hK:∀ a' w',Sim X S (st.apply o.dst none r) a' w'→K a' w') :
  ∃ v w',(Builtin.copy_ #[t,t'] ty #[u,u']).run X.P w=.ok v w'∧K (a.put o.dst v) w':=by
 unfold Zj6 at hr
 split at hr
 case h_2=>exact (ZA hr).elim
 rename_i n len
 obtain ⟨ti,hti,h1⟩:=Zg hr
 obtain ⟨e,he,h2⟩:=Zg h1
 obtain ⟨ei,hei,h3⟩:=Zg h2
 obtain ⟨xs,h4,h5,_⟩:=Zhz h3
 obtain ⟨tk,R',hk,h6⟩:=ZcZ h4
 obtain ⟨⟨c1,c2,c3,c4,c5,c6⟩,h7⟩:=ZI h6
 rw [Zv h7] at hK
 clear h7 h6 h4 h3 h2 h1 hr
 obtain ⟨i,dsc,z,hto⟩:=TI.ok (hT t ti hti)
 have hund:=hto.und
 rw [hto.elem e he] at hund
 obtain ⟨i',dsc',z',hto'⟩:=TI.ok (hT e ei hei)
 have hsz:∀ w,(sizeOf e).run X.P w=.ok 1 w:=fun w=>by rw [Z3 (P:=X.P) (w:=w) hto',c1]
 have hL:=h5 ok ℓ w u' hu'
 obtain ⟨ad,cap,rfl,hh⟩:=hL.list_inv
 simp only [RV,RC] at hu
 obtain ⟨capA,hcapA,hu⟩:=hu
 subst hu
 obtain ⟨hz,huni,cs0,T0,hr0,hs0,hold0,hnok⟩:=hs.mem.arr n tk hk c2
 rw [c3,Nat.mul_one] at hs0
 by_cases hx0:xs=[]
 ·subst hx0
  refine ⟨goInt 0,w,?_,?_⟩
  ·have hl:∀ (x:Addr),(loadCells x 0).run X.P w=.ok #[] w:=fun x=>by simpa using run_loadCells_list (P:=X.P) (w:=w) x [] (by simp)
   cases ad <;> simp [Builtin.copy_,run_underlying hund,Builtin.lenOf,Builtin.firstCells,hsz,storeCells,hl]
  have htk:(⟨true,1,[]++tk.l.drop ([]:List D).length⟩:Tok)=tk:=by
   obtain ⟨ia,sz,l⟩:=tk
   simp only at c2 c3
   subst c2 c3
   simp
  have hkk:∀ m x,lk ((n,tk)::st.k) m=some x→lk st.k m=some x:=fun m x h=>by
   by_cases em:n=m
   ·subst em; rw [Zk] at h; rw [hk,h]
   ·rw [Zh _ _ em] at h; exact h
  obtain ⟨hm,ho⟩:=hs.mem.part (b0:=st.b) (k0:=(n,tk)::st.k) (fun _ _ h=>h) hkk
  refine hK _ _ ?_
  simp only [htk]
  have hs':SimW X S ok ℓ ⟨st.t,st.b,(n,tk)::st.k⟩ a w:=⟨hs.defers,hs.size,hs.tmps,hm,hs.ext,hs.sub,hs.sup,fun m x hx=>hs.own m x (ho m x hx),hs.names,fun m hl hh=>hs.inH m hl (hh.imp id (fun h=>by
   obtain ⟨x,hx⟩:=Option.isSome_iff_exists.1 h
   simp [hkk m x hx]))⟩
  exact Sim.plain hs' hd rfl ⟨.int _ _,rfl⟩
 obtain ⟨blk,off,sz,uf,rfl,h8,h9,h10⟩:=hh.resolve_left hx0
 have hsz1:sz=1:=by
  cases xs with
  | nil=>exact absurd rfl hx0
  | cons x xs=>rw [← h9 x (.head _)]; exact c6 x (.head _)
 subst hsz1
 let cs:List Value:=(List.range xs.length).map fun j=>uf j 0
 have hcl:cs.length=xs.length:=by simp [cs]
 have hcell:∀ j (hj:j < xs.length),∃ y,xs[j].cells[0]?=some y∧y.sc=true∧w.cell? ⟨blk,off+j,none⟩=some (uf j 0)∧Rep ok w (uf j 0) y:=fun j hj=>by
  have hc1:=c6 xs[j] (List.getElem_mem hj)
  have hy:xs[j].cells[0]?=some (xs[j].cells[0]'(by omega)):=List.getElem?_eq_getElem (by omega)
  obtain ⟨a1,a2,a3,a4⟩:=h10 j xs[j] 0 _ (List.getElem?_eq_getElem hj) hy
  rw [Nat.mul_one,Nat.add_zero] at a3
  exact ⟨_,hy,a1,a3,a4⟩
 have hcs:∀ (j:Nat) (v:Value),cs[j]?=some v→j < xs.length∧v=uf j 0:=fun j v hv=>by
  have hj:j < xs.length:=by have:=(List.getElem?_eq_some_iff.1 hv).1; omega
  refine ⟨hj,?_⟩
  simp only [cs,List.getElem?_map,List.getElem?_range hj,Option.map_some,Option.some.injEq] at hv
  exact hv.symm
 have hload:(loadCells ⟨blk,off,none⟩ xs.length).run X.P w=.ok cs.toArray w:=by
  rw [← hcl]
  refine run_loadCells_list (P:=X.P) (w:=w) ⟨blk,off,none⟩ cs (fun j v hv=>?_)
  obtain ⟨hj,rfl⟩:=hcs j v hv
  obtain ⟨y,_,_,h,_⟩:=hcell j hj
  rw [Addr.add_lit]
  exact h
 have hone:∀ v∈cs,v.oneCell'=true:=fun v hv=>by
  obtain ⟨j,hj⟩:=List.getElem?_of_mem hv
  obtain ⟨hj2,rfl⟩:=hcs j v hj
  obtain ⟨y,_,h,_,h'⟩:=hcell j hj2
  exact h'.oneCell h
 have hst:=Zc5 X.P cs w (ℓ.i n) 0 0 cs0 T0 hr0 (by omega) hone
 rw [Nat.add_zero] at hst
 have hmin:Nat.min xs.length len=xs.length:=Nat.min_eq_left c5
 have hkeep:Holds ok w tk.sz (xs++tk.l.drop xs.length) (fun i=>(Z4 cs0 0 cs)[i]?):=by
  rw [c3]
  refine ⟨fun x hx=>?_,fun i x j y hx hy=>?_⟩
  ·rcases List.mem_append.1 hx with h | h
   ·exact c6 x h
   ·have:=huni x (List.mem_of_mem_drop h)
    omega
  ·have hj0:j=0:=by
    have h1:=(List.getElem?_eq_some_iff.1 hy).1
    have h2:x.cells.length=1:=by
     rcases List.mem_append.1 (List.mem_of_getElem? hx) with h | h
     ·exact c6 x h
     ·have:=huni x (List.mem_of_mem_drop h); omega
    omega
   subst hj0
   rw [Nat.mul_one,Nat.add_zero]
   by_cases hi:i < xs.length
   ·rw [List.getElem?_append_left hi,List.getElem?_eq_getElem hi] at hx
    cases hx
    obtain ⟨y',hy',hsc,_,hrep⟩:=hcell i hi
    rw [hy'] at hy
    cases hy
    refine ⟨hsc,uf i 0,?_,hrep⟩
    have:=ZdA cs cs0 0 i (by omega) (by omega)
    rw [Nat.zero_add] at this
    show (Z4 cs0 0 cs)[i]?=_
    rw [this]
    simp [cs,List.getElem?_range hi]
   ·rw [List.getElem?_append_right (by omega),List.getElem?_drop,show xs.length+(i - xs.length)=i by omega] at hx
    obtain ⟨hsc,u,hu,hrep⟩:=hold0 i x 0 y hx hy
    rw [c3,Nat.mul_one,Nat.add_zero] at hu
    refine ⟨hsc,u,?_,hrep⟩
    show (Z4 cs0 0 cs)[i]?=_
    rw [Za6 cs cs0 0 i (by omega)]
    exact hu
 obtain ⟨h16,h17,h18⟩:=hs.mem.setArr hk c2 (l':=xs++tk.l.drop xs.length) (cs:=Z4 cs0 0 cs) (T:=T0) (by simp; omega) (by rw [Zbx,c3,Nat.mul_one]; exact hs0) hkeep
 rw [c3] at h16 h18
 have hs':SimW X S ok ℓ ⟨st.t,st.b,(n,⟨true,1,xs++tk.l.drop xs.length⟩)::st.k⟩ a (setBlk w (ℓ.i n) (.cells (Z4 cs0 0 cs) T0 (0,0))):=by
  refine hs.move h17 (fun _ _ _ n _=>.refl ℓ n) h16 ⟨rfl,rfl,rfl,by simp [Za7]⟩ (fun j' hj' hm=>ZK w _ (fun e=>?_)) (fun x o hx=>.inl hx) (fun m x hx=>hs.own m x (h18 m x hx))
   (fun n _=>⟨.refl ℓ n,fun _=>⟨rfl,rfl,rfl⟩⟩) (fun m hlt' hh=>hs.inH m hlt' ?_)
  ·rcases hs.own n _ (.arr hk c2) with h | h
   ·omega
   ·exact hm (e ▸ h)
  ·by_cases em:m=n
   ·rw [em]; exact .inr (by simp [hk])
   ·rwa [Zh _ _ (Ne.symm em)] at hh
 refine ⟨goInt xs.length,_,?_,hK _ _ (Sim.plain hs' hd rfl ⟨.int _ _,rfl⟩)⟩
 simp [Builtin.copy_,run_underlying hund,Builtin.lenOf,Builtin.firstCells,hsz,hmin,hload,hst]

theorem ZmD (hT:TOk X) {gd:Option Bool} {o:Oper} (hd:∀ d,o.dst=some d→d < X.n) (hg:gd.getD true=true) {S:Start} {ok ℓ st a w} (hs:SimW X S ok ℓ st a w) {b:Builtin} {ts:Array TypeId} {ty:TypeId} {cs:Array Bool} {us:List Value} {vs:List V} (hv:RVs ok ℓ w us.toArray vs)
  {R:List Key} {r:Out} (hr:Runs (Z0 X gd o.dst b ts vs) st R r) (hfr:∀ n∈r.new,st.Free n) {K:Act→World→Prop} {Q:Exit→Act→World→Prop} (hK:∀ a' w',Sim X S (st.apply o.dst gd r) a' w'→K a' w') :
  o.upon X.P a K Q ((builtin b ts ty cs us.toArray).run X.P w):=by
 have one:∀ {v},vs=[v]→∃ u,us=[u]∧RV ok ℓ w u v:=by
  intro v e
  subst e
  have h:=hv.1
  match us,h with
  | [u],_=>exact ⟨u,rfl,hv.2 0 u v (by simp) (by simp)⟩
 have two:∀ {v v'},vs=[v,v']→∃ u u',us=[u,u']∧RV ok ℓ w u v∧RV ok ℓ w u' v':=by
  intro v v' e
  subst e
  have h:=hv.1
  match us,h with
  | [u,u'],_=>exact ⟨u,u',rfl,hv.2 0 u v (by simp) (by simp),hv.2 1 u' v' (by simp) (by simp)⟩
 have three:∀ {v v' v''},vs=[v,v',v'']→∃ u u' u'',us=[u,u',u'']∧RV ok ℓ w u v∧RV ok ℓ w u' v'∧RV ok ℓ w u'' v'':=by
  intro v v' v'' e
  subst e
  have h:=hv.1
  match us,h with
  | [u,u',u''],_=>exact ⟨u,u',u'',rfl,hv.2 0 u v (by simp) (by simp),hv.2 1 u' v' (by simp) (by simp),hv.2 2 u'' v'' (by simp) (by simp)⟩
 unfold Z0 at hr
 split at hr
 ·rename_i v
  obtain ⟨u,rfl,hu⟩:=one rfl
  split at hr
  case h_2=>exact (ZA hr).elim
  rename_i t hts
  have hts':ts=#[t]:=by cases ts; simpa using hts
  subst hts'
  split at hr
  ·rename_i sb
   obtain ⟨hus,h1⟩:=ZI hr
   rw [Zv h1] at hK
   have hue:=hu.1.str_inv
   have:(builtin .len #[t] ty cs #[u]).run X.P w=.ok (.value (.int .i64 sb.size)) w:=by
    rw [hue]; simp [builtin,Builtin.len_,run_underlying hus,goInt]
   rw [this]
   exact hK _ _ (Sim.plain hs hd hg ⟨.int _ _,rfl⟩)
  obtain ⟨ti,hti,h1⟩:=Zg hr
  obtain ⟨e,he,h2⟩:=Zg h1
  obtain ⟨i,dsc,z,hto⟩:=TI.ok (hT t ti hti)
  have hund:=hto.und
  rw [hto.elem e he] at hund
  split at h2
  ·rename_i n len _
   rw [Zv h2] at hK
   simp only [RV,RC] at hu
   obtain ⟨capA,_,hu⟩:=hu
   have:(builtin .len #[t] ty cs #[u]).run X.P w=.ok (.value (.int .i64 len)) w:=by
    rw [hu]; simp [builtin,Builtin.len_,run_underlying hund,goInt]
   rw [this]
   exact hK _ _ (Sim.plain hs hd hg ⟨.int _ _,rfl⟩)
  ·rename_i n len _
   rw [Zv h2] at hK
   simp only [RV,RC] at hu
   have:(builtin .len #[t] ty cs #[u]).run X.P w=.ok (.value (.int .i64 len)) w:=by
    rw [hu]; simp [builtin,Builtin.len_,run_underlying hund,goInt]
   rw [this]
   exact hK _ _ (Sim.plain hs hd hg ⟨.int _ _,rfl⟩)
  ·rename_i n off len _
   rw [Zv h2] at hK
   simp only [RV,RC] at hu
   have:(builtin .len #[t] ty cs #[u]).run X.P w=.ok (.value (.int .i64 len)) w:=by
    rw [hu]; simp [builtin,Builtin.len_,run_underlying hund,goInt]
   rw [this]
   exact hK _ _ (Sim.plain hs hd hg ⟨.int _ _,rfl⟩)
  ·rename_i n wd len _
   rw [Zv h2] at hK
   obtain ⟨b',o',hu',_⟩:=hu
   have:(builtin .len #[t] ty cs #[u]).run X.P w=.ok (.value (.int .i64 len)) w:=by
    rw [hu']; simp [builtin,Builtin.len_,run_underlying hund,goInt]
   rw [this]
   exact hK _ _ (Sim.plain hs hd hg ⟨.int _ _,rfl⟩)
  ·obtain ⟨l,h3,h4,_⟩:=Zhz h2
   rw [Zv h3] at hK
   obtain ⟨ad,cap,rfl,_⟩:=(h4 ok ℓ w u hu).holds
   have:(builtin .len #[t] ty cs #[.slice ad l.length cap]).run X.P w=.ok (.value (.int .i64 l.length)) w:=by
    simp [builtin,Builtin.len_,run_underlying hund,goInt]
   rw [this]
   exact hK _ _ (Sim.plain hs hd hg ⟨.int _ _,rfl⟩)
 ·rename_i x y
  obtain ⟨u,u',rfl,hu,hu'⟩:=two rfl
  obtain ⟨k,n,rfl,h1⟩:=ZbV hr
  obtain ⟨k',m,rfl,h2⟩:=ZbV h1
  rw [Zv h2] at hK
  have e1:=hu.1.int_inv
  have e2:=hu'.1.int_inv
  subst e1; subst e2
  have:(builtin .min ts ty cs #[.int k n,.int k' m]).run X.P w=.ok (.value (.int k (if m < n then m else n))) w:=by
   simp [builtin,run_min_int2]
  rw [this]
  exact hK _ _ (Sim.plain hs hd hg ⟨.int _ _,rfl⟩)
 ·rename_i x y
  obtain ⟨u,u',rfl,hu,hu'⟩:=two rfl
  obtain ⟨k,n,rfl,h1⟩:=ZbV hr
  obtain ⟨k',m,rfl,h2⟩:=ZbV h1
  rw [Zv h2] at hK
  have e1:=hu.1.int_inv
  have e2:=hu'.1.int_inv
  subst e1; subst e2
  have:(builtin .max ts ty cs #[.int k n,.int k' m]).run X.P w=.ok (.value (.int k (if m > n then m else n))) w:=by
   simp [builtin,run_max_int2]
  rw [this]
  exact hK _ _ (Sim.plain hs hd hg ⟨.int _ _,rfl⟩)
 ·rename_i x y z
  obtain ⟨u,u',u'',rfl,hu,hu',hu''⟩:=three rfl
  obtain ⟨k,n,rfl,h1⟩:=ZbV hr
  obtain ⟨k',m,rfl,h2⟩:=ZbV h1
  obtain ⟨k'',p,rfl,h3⟩:=ZbV h2
  rw [Zv h3] at hK
  have e1:=hu.1.int_inv
  have e2:=hu'.1.int_inv
  have e3:=hu''.1.int_inv
  subst e1; subst e2; subst e3
  have:(builtin .max ts ty cs #[.int k n,.int k' m,.int k'' p]).run X.P w=.ok (.value (.int k (let q:=if m > n then m else n; if p > q then p else q))) w:=by
   simp [builtin,Builtin.max_,Builtin.max2]
  rw [this]
  exact hK _ _ (Sim.plain hs hd hg ⟨.int _ _,rfl⟩)
 ·rename_i s x
  obtain ⟨u,u',rfl,hu,hu'⟩:=two rfl
  split at hr
  case h_2=>exact (ZA hr).elim
  rename_i t t' hts
  have hts':ts=#[t,t']:=by cases ts; simpa using hts
  subst hts'
  obtain ⟨rfl,h1⟩:=Zb0 hr
  split at h1
  ·rename_i htt
   subst htt
   obtain ⟨v,w',hrun,hk⟩:=ZoN hT hd (c:=⟨.builtin .append,#[],#[]⟩) (ty:=ty) hs hu hu' h1 hfr hK
   have:(builtin .append #[t,t] ty cs #[u,u']).run X.P w=.ok (.value v) w':=by
    simp [builtin,hrun]
   rw [this]
   exact hk
  ·obtain ⟨v,w',hrun,hk⟩:=Zhy hT hd (ty:=ty) hs hu hu' h1 hfr hK
   have:(builtin .append #[t,t'] ty cs #[u,u']).run X.P w=.ok (.value v) w':=by
    simp [builtin,hrun]
   rw [this]
   exact hk
 ·rename_i s x
  obtain ⟨u,u',rfl,hu,hu'⟩:=two rfl
  split at hr
  case h_2=>exact (ZA hr).elim
  rename_i t t' hts
  have hts':ts=#[t,t']:=by cases ts; simpa using hts
  subst hts'
  obtain ⟨rfl,h1⟩:=Zb0 hr
  obtain ⟨v,w',hrun,hk⟩:=ZvS hT hd (t':=t') (ty:=ty) hs hu hu' h1 hK
  have:(builtin .copy #[t,t'] ty cs #[u,u']).run X.P w=.ok (.value v) w':=by
   simp [builtin,hrun]
  rw [this]
  exact hk
 ·exact (ZA hr).elim

theorem ZCJ (hT:TOk X) {gd:Option Bool} {o:Oper} (hd:∀ d,o.dst=some d→d < X.n) (hg:gd.getD true=true) {c:Call} (ho:o.op=.call c):ZcJ X gd o:=by
 rintro S st a w R r hr hfr ⟨ok,ℓ,hs⟩ K Q hK
 simp only [Zab,ho] at hr
 unfold Oper.wp
 split at hr
 ·rename_i b hc
  obtain ⟨vs,R1,h1,h2,hf1⟩:=ZcF hs hg _ hr
  have hex:execOp a.eval o=builtin b c.argTypes o.type (c.args.map fun | .const _=>true | _=>false) (c.args.toList.map a.eval).toArray:=by
   rw [← ZjP]
   simp only [execOp,ho,resolve,hc]
   rfl
  rw [hex]
  exact ZmD hT hd hg hs h1 h2 hfr hK
 ·rename_i fo hc
  obtain ⟨fv,R1,h1,h2,hf1⟩:=Z7 hs hg hr
  split at h2
  case h_2=>exact (ZA h2).elim
  rename_i f caps
  obtain ⟨vs,R2,h3,h4,hf2⟩:=ZcF hs hg _ h2
  simp only [RV,RC] at h1
  cases hrc:rcv caps with
  | true =>
   have hex:execOp a.eval o=callFunc f ((fnP ℓ 1000000000 caps).toArray++(c.args.toList.map a.eval).toArray):=by
    rw [← ZjP]
    simp only [execOp,ho,resolve,hc,h1,Deferred.ofValue,fnV,hrc,if_true]
    have hb:∀ d:Deferred,((pure d:Sem Deferred) >>= fun d=>invoke d.target d.args)=invoke d.target d.args:=fun _=>rfl
    rw [hb]
    simp [invoke]
   rw [hex]
   rw [fnA,if_pos hrc] at h4
   have hpl:(fnP ℓ 1000000000 caps).length=(caps.map fun p=>V.c (.lp p.1 (p.2 - 1000000000))).length:=by simp [fnP]
   refine ZlG hT hd hg hs (vs:=(caps.map fun p=>V.c (.lp p.1 (p.2 - 1000000000)))++vs.map (ZkY (o.dst.map X.mode))) ⟨?_,fun i u v hu hv=>?_⟩ h4 hfr hK
   ·have:=h3.1; simp at this; simp [this,fnP]
   ·by_cases hi:i < (fnP ℓ 1000000000 caps).length
    ·rw [Array.getElem?_append_left (by simpa using hi)] at hu
     rw [List.getElem?_append_left (by rw [← hpl]; exact hi),List.getElem?_map,Option.map_eq_some_iff] at hv
     obtain ⟨p,hp,rfl⟩:=hv
     simp only [fnP,List.getElem?_toArray,List.getElem?_map,hp,Option.map_some,Option.some.injEq] at hu
     rw [← hu]
     rfl
    ·rw [Array.getElem?_append_right (by simpa using hi)] at hu
     rw [List.getElem?_append_right (by rw [← hpl]; omega),List.getElem?_map,Option.map_eq_some_iff] at hv
     obtain ⟨v,hv,rfl⟩:=hv
     refine (h3.2 (i - (fnP ℓ 1000000000 caps).length) u v ?_ (by rw [hpl]; exact hv)).hand _
     simpa using hu
  | false =>
  have hex:execOp a.eval o=callFunc f ((c.args.toList.map a.eval).toArray++(caps.map fun p=>Value.pointer (some ⟨ℓ.i p.1,p.2,none⟩)).toArray):=by
   rw [← ZjP]
   simp only [execOp,ho,resolve,hc,h1,Deferred.ofValue,fnV,hrc,Bool.false_eq_true,if_false]
   have hb:∀ d:Deferred,((pure d:Sem Deferred) >>= fun d=>invoke d.target d.args)=invoke d.target d.args:=fun _=>rfl
   rw [hb]
   simp [invoke,fnP]
  rw [hex]
  rw [fnA,if_neg (by rw [hrc]; decide)] at h4
  refine ZlG hT hd hg hs (vs:=vs.map (ZkY (o.dst.map X.mode))++caps.map fun p=>.c (.lp p.1 p.2)) ⟨?_,fun i u v hu hv=>?_⟩ h4 hfr hK
  ·have:=h3.1; simp at this; simp [this]
  ·have hl:(c.args.toList.map a.eval).toArray.size=(vs.map (ZkY (o.dst.map X.mode))).length:=by rw [List.length_map]; exact h3.1
   by_cases hi:i < (vs.map (ZkY (o.dst.map X.mode))).length
   ·rw [Array.getElem?_append_left (by omega)] at hu
    rw [List.getElem?_append_left hi,List.getElem?_map,Option.map_eq_some_iff] at hv
    obtain ⟨v,hv,rfl⟩:=hv
    exact (h3.2 i u v hu hv).hand _
   ·rw [Array.getElem?_append_right (by omega),hl] at hu
    rw [List.getElem?_append_right (by omega),List.getElem?_map,Option.map_eq_some_iff] at hv
    obtain ⟨p,hp,rfl⟩:=hv
    simp only [List.getElem?_toArray,List.getElem?_map,hp,Option.map_some,Option.some.injEq] at hu
    rw [← hu]
    rfl
 ·exact (ZA hr).elim

theorem ZmT (hT:TOk X) {gd:Option Bool} {o:Oper} (hd:∀ d,o.dst=some d→d < X.n) (hg:gd.getD true=true):ZcJ X gd o:=by
 cases ho:o.op with
 | move x=>exact ZuG hd hg (.inl ho)
 | assign x=>exact ZuG hd hg (.inr ho)
 | pick c x y=>exact ZCL hd hg ho
 | alloc e=>exact ZAs hT hd ho
 | box e x=>exact ZFu hd ho
 | build t ps=>exact ZAu hT hd hg ho
 | buildSlice t n ps=>exact Zk2 hT hd hg ho
 | load t x=>exact ZCK hT hd hg ho
 | store t p x=>exact ZAy hT hd ho
 | nilCheck x=>exact ZpQ hd hg ho
 | binOp op t x y yt=>exact ZAt hT hd hg ho
 | unOp op t x=>exact ZCM hd hg ho
 | convert s t x=>exact Zsf hT hd hg ho
 | makeSlice t x y=>exact Zm3 hT hd hg ho
 | slice t x lo hi mx=>exact ZAx hT hd hg ho
 | fieldAddr t x j=>exact Zm1 hT hd hg ho
 | field t x j=>exact ZAv hT hd hg ho
 | indexAddr t x y=>exact Zm2 hT hd hg ho
 | extract x i=>exact Zsg hd hg ho
 | index t x i=>exact ZAw hd hg ho
 | call c=>exact ZCJ hT hd hg ho
 | makeFunc fn fi ca =>
  cases fn with
  | func f=>exact ZpP hd hg ho
  | _=>intro S st a w R r hr; simp only [Zab,ho] at hr; exact (ZA hr).elim
 | _=>intro S st a w R r hr; simp only [Zab,ho] at hr; exact (ZA hr).elim
end

end Go.Vam
end
section
set_option linter.unusedVariables false
set_option linter.unusedSimpArgs false
namespace Go.Vam

theorem ZjT {α β:Type} {st:St} {f:α→Rd β} {b:β} {r:Rd α}:∀ {R:List Key},Runs (ZcA r f) st R b→∃ R1 R2 a,Runs r st R1 a∧Runs (f a) st R2 b∧R=R1++R2:=by
 induction r with
 | ret a=>intro R h; exact ⟨[],R,a,.ret a st,h,rfl⟩
 | fail=>intro R h; exact (ZA h).elim
 | getT n g ih=>intro R h; cases h with | getT e h=>obtain ⟨R1,R2,a,h1,h2,rfl⟩:=ih _ h; exact ⟨_::R1,R2,a,.getT e h1,h2,rfl⟩
 | getB n g ih=>intro R h; cases h with | getB e h=>obtain ⟨R1,R2,a,h1,h2,rfl⟩:=ih _ h; exact ⟨_::R1,R2,a,.getB e h1,h2,rfl⟩
 | getK n g ih=>intro R h; cases h with | getK e h=>obtain ⟨R1,R2,a,h1,h2,rfl⟩:=ih _ h; exact ⟨_::R1,R2,a,.getK e h1,h2,rfl⟩
 | need p r ih=>intro R h; cases h with | need e h=>obtain ⟨R1,R2,a,h1,h2,rfl⟩:=ih h; exact ⟨R1,R2,a,.need e h1,h2,rfl⟩
 | exD g ih=>intro R h; cases h with | exD x h=>obtain ⟨R1,R2,a,h1,h2,rfl⟩:=ih _ h; exact ⟨R1,R2,a,.exD x h1,h2,rfl⟩
 | exM g ih=>intro R h; cases h with | exM x b k h=>obtain ⟨R1,R2,a,h1,h2,rfl⟩:=ih _ _ _ h; exact ⟨R1,R2,a,.exM x b k h1,h2,rfl⟩
 | case γ r s ih ih' =>
  intro R h
  cases h with
  | caseT e h=>obtain ⟨R1,R2,a,h1,h2,rfl⟩:=ih h; exact ⟨R1,R2,a,.caseT e h1,h2,rfl⟩
  | caseF e h=>obtain ⟨R1,R2,a,h1,h2,rfl⟩:=ih' h; exact ⟨R1,R2,a,.caseF e h1,h2,rfl⟩

section
variable {X:Ctx}

def dstOk (X:Ctx) (o:Oper):Prop:=match o.dst with
 | some d=>d < X.n
 | none=>True

theorem dstOk.of {o:Oper} (h:dstOk X o):∀ d,o.dst=some d→d < X.n:=by
 intro d hd; unfold dstOk at h; rw [hd] at h; exact h

theorem Zkr (hT:TOk X) {ops:Array Oper} {o:Oper} (hd:dstOk X o) {S:Start} {st:St} {a:Act} {w:World} {R:List Key} {gd:Option Bool} {r:Out} (hr:Runs (ZeU X ops o) st R (gd,r))
  (hfr:∀ n∈r.new,st.Free n) (hs:Sim X S st a w) {i:Nat} (hi:ops[i]?=some o) {K:Act→World→Prop} {Q:Exit→Act→World→Prop}
  (hK:∀ a' w',Sim X S (st.apply o.dst gd r) a' w'→K a' w'):wpOp X.P ops Q i K a w:=by
 unfold wpOp
 simp only [hi]
 unfold ZeU at hr
 split at hr
 ·rename_i hg
  obtain ⟨R1,R2,r',h1,h2,_⟩:=ZjT hr
  have:=Zv h2
  cases this
  have hw:Region.wanted o (yielded ops a.tmps)=true:=by simp [Region.wanted,hg]
  rw [if_pos hw]
  exact .inl (ZmT hT hd.of rfl S st a w R1 r h1 hfr hs K Q hK)
 ·rename_i j want hg
  obtain ⟨tg,htg,h1⟩:=Zg hr
  obtain ⟨gv,R1,hgv,h2⟩:=Zt5 h1
  obtain ⟨p,hp,h3⟩:=Zg h2
  obtain ⟨ok,ℓ,hsw⟩:=hs
  obtain ⟨u,hu,hrv⟩:=hsw.tmps tg gv hgv
  -- the guard's slot tells the truth
  have hwant:Region.wanted o (yielded ops a.tmps)=(p.1 && (p.2==want)):=by
   simp only [Region.wanted,hg,yielded,htg,Option.bind_some,hu]
   unfold ZhA at hp
   split at hp <;> simp only [Option.some.injEq,reduceCtorEq] at hp
   ·subst hp
    have e:=hrv.1.bool_inv
    subst e
    simp only [Bool.true_and]
    rename_i b
    cases b <;> cases want <;> rfl
   ·rename_i γ b
    subst hp
    cases γ with
    | true =>
     have e:=(hrv.1 rfl).1.bool_inv
     subst e
     simp only [Bool.true_and]
     cases b <;> cases want <;> rfl
    | false =>
     have e:=hrv.2 rfl
     subst e
     simp [undef]
  have hs:Sim X S st a w:=⟨ok,ℓ,hsw⟩
  split at h3
  ·
   cases h3 with
   | caseT e h =>
    obtain ⟨R1,R2,r',h4,h5,_⟩:=ZjT h
    have:=Zv h5
    cases this
    rw [hwant,e,if_pos rfl]
    exact .inl (ZmT hT hd.of rfl S st a w _ _ h4 hfr hs K Q hK)
   | caseF e h =>
    have:=Zv h
    cases this
    rw [hwant,e,if_neg (by simp)]
    refine hK _ _ ?_
    cases hdd:o.dst with
    | none=>exact ⟨ok,ℓ,hsw⟩
    | some d=>exact ⟨ok,ℓ,hsw.put (v:=.g false _) (hd.of d hdd) ⟨(fun e=>by cases e),fun _=>rfl⟩⟩
  ·obtain ⟨R1,R2,r',h4,h5,_⟩:=ZjT h3
   obtain ⟨⟨hb,hk,hn⟩,h6⟩:=ZI h5
   have:=Zv h6
   cases this
   cases hγ:(p.1 && (p.2==want)) with
   | true =>
    rw [hwant,hγ,if_pos rfl]
    rw [hγ] at h4 hK
    exact .inl (ZmT hT hd.of rfl S st a w _ _ h4 hfr hs K Q hK)
   | false =>
    rw [hwant,hγ,if_neg (by simp)]
    rw [hγ] at hK
    refine hK _ _ ?_
    have:st.apply o.dst (some false) r=⟨ZFg o.dst (some false) r.v st.t,st.b,st.k⟩:=by simp [St.apply,hb,hk]
    rw [this]
    cases hdd:o.dst with
    | none=>exact ⟨ok,ℓ,hsw⟩
    | some d=>exact ⟨ok,ℓ,hsw.put (v:=.g false r.v) (hd.of d hdd) ⟨(fun e=>by cases e),fun _=>rfl⟩⟩

structure St.Eqv (st st':St):Prop where
 t:∀ n,lk st'.t n=lk st.t n
 b:∀ n,lk st'.b n=lk st.b n
 k:∀ n,lk st'.k n=lk st.k n

theorem Owns.eqv {ℓ:Loc} {b b':Zf} {k k':Zw} (hb:∀ n,lk b' n=lk b n) (hk:∀ n,lk k' n=lk k n) {n x} (h:Owns ℓ b' k' n x):Owns ℓ b k n x:=by
 unfold Owns at h ⊢; rw [hb,hk] at h; exact h

theorem Sim.eqv {S:Start} {st st':St} {a:Act} {w:World} (h:Sim X S st a w) (e:st.Eqv st'):Sim X S st' a w:=by
 obtain ⟨ok,ℓ,hs⟩:=h
 refine ⟨ok,ℓ,hs.defers,hs.size,fun t v h=>hs.tmps t v (by rw [← e.t]; exact h),⟨fun n cs h=>hs.mem.box n cs (by rw [← e.b]; exact h),fun n t h=>hs.mem.buf n t (by rw [← e.k]; exact h),fun n t h=>hs.mem.arr n t (by rw [← e.k]; exact h),
  fun n h=>by rw [e.k]; exact hs.mem.apart n (by rw [← e.b]; exact h),fun n m x hn hm=>hs.mem.distinct n m x (hn.eqv e.b e.k) (hm.eqv e.b e.k),hs.mem.alive⟩,hs.ext,hs.sub,hs.sup,fun n x hx=>hs.own n x (hx.eqv e.b e.k),hs.names,
  fun n hl h=>hs.inH n hl (by rw [← e.b,← e.k]; exact h)⟩

theorem Sim.drew {S:Start} {st:St} {a:Act} {w:World} (h:Sim X S st a w):Sim X S st a { w with drawn:=w.drawn+1}:=by
 obtain ⟨ok,ℓ,hs⟩:=h
 exact ⟨ok,ℓ,hs.drew⟩

def C.nms:C→List Name
 | .own k _=>[k]
 | .arr k _=>[k]
 | .lp k _=>[k]
 | .ap k _ _=>[k]
 | .bs k _=>[k]
 | .vw k _ _=>[k]
 | .rws k _ _=>[k]
 | .rp k _ _=>[k]
 | .fn _ caps=>caps.map (·.1)
 | _=>[]
def V.nms:V→List Name
 | .c x=>x.nms
 | .agg cs=>cs.flatMap C.nms
 | .tup _=>[]
 | .ts _ cs=>cs.flatMap C.nms
 | .g _ v=>v.nms

theorem C.has_iff (c:C) (n:Name):c.has n↔n∈c.nms:=by
 cases c <;> simp [C.has,C.nms,eq_comm]
theorem V.has_iff (v:V) (n:Name):v.has n↔n∈v.nms:=by
 induction v with
 | c x=>exact C.has_iff x n
 | agg cs=>simp [V.has,V.nms,C.has_iff]
 | tup ds=>simp [V.has,V.nms]
 | ts sh cs=>simp [V.has,V.nms,C.has_iff]
 | g γ v ih=>exact ih

def FreeB (st:St) (n:Name):Prop :=
 (∀ p∈st.t,n∉p.2.nms)∧(∀ p∈st.b,p.1≠n∧∀ c∈p.2,n∉c.nms)∧∀ p∈st.k,p.1≠n

theorem Zr5 {κ α:Type} [DecidableEq κ] (l:List (κ×α)) (k:κ) (h:∀ p∈l,p.1≠k):lk l k=none:=by
 cases e:lk l k with
 | none=>rfl
 | some v=>exact absurd rfl (h _ (Zbl l k v e))

theorem FreeB.free {st:St} {n:Name} (h:FreeB st n):st.Free n where
 t t v hv hh:=h.1 (t,v) (Zbl _ _ _ hv) ((V.has_iff v n).1 hh)
 m:=⟨Zr5 _ _ fun p hp=>(h.2.1 p hp).1,Zr5 _ _ h.2.2,fun m cs hm c hc hh=>(h.2.1 (m,cs) (Zbl _ _ _ hm)).2 c hc ((C.has_iff c n).1 hh)⟩

def wp {α:Type}:Rd α→St→(α→Prop)→Prop
 | .ret a,_,Q=>Q a
 | .fail,_,_=>False
 | .getT n f,st,Q=>match lk st.t n with
  | some v=>wp (f v) st Q
  | none=>False
 | .getB n f,st,Q=>match lk st.b n with
  | some v=>wp (f v) st Q
  | none=>False
 | .getK n f,st,Q=>match lk st.k n with
  | some v=>wp (f v) st Q
  | none=>False
 | .need p r,st,Q=>p∧wp r st Q
 | .exD f,st,Q=>∃ x,wp (f x) st Q
 | .exM f,st,Q=>∃ x b k,wp (f x b k) st Q
 | .case γ r s,st,Q=>(γ=true→wp r st Q)∧(γ=false→wp s st Q)

theorem Zd2 {α:Type}:∀ {r:Rd α} {st:St} {Q:α→Prop},wp r st Q→∃ R a,Runs r st R a∧Q a
 | .ret a,st,Q,h=>⟨[],a,.ret a st,h⟩
 | .fail,_,_,h=>h.elim
 | .getT n f,st,Q,h=>by
  simp only [wp] at h
  split at h
  ·rename_i v hv
   obtain ⟨R,a,h1,h2⟩:=Zd2 h
   exact ⟨_::R,a,.getT hv h1,h2⟩
  ·exact h.elim
 | .getB n f,st,Q,h=>by
  simp only [wp] at h
  split at h
  ·rename_i v hv
   obtain ⟨R,a,h1,h2⟩:=Zd2 h
   exact ⟨_::R,a,.getB hv h1,h2⟩
  ·exact h.elim
 | .getK n f,st,Q,h=>by
  simp only [wp] at h
  split at h
  ·rename_i v hv
   obtain ⟨R,a,h1,h2⟩:=Zd2 h
   exact ⟨_::R,a,.getK hv h1,h2⟩
  ·exact h.elim
 | .need p r,st,Q,h=>let ⟨R,a,h1,h2⟩:=Zd2 h.2; ⟨R,a,.need h.1 h1,h2⟩
 | .exD f,st,Q,⟨x,h⟩=>let ⟨R,a,h1,h2⟩:=Zd2 h; ⟨R,a,.exD x h1,h2⟩
 | .exM f,st,Q,⟨x,b,k,h⟩=>let ⟨R,a,h1,h2⟩:=Zd2 h; ⟨R,a,.exM x b k h1,h2⟩
 | .case γ r s,st,Q,h=>by
  cases γ with
  | true=>obtain ⟨R,a,h1,h2⟩:=Zd2 (h.1 rfl); exact ⟨R,a,.caseT rfl h1,h2⟩
  | false=>obtain ⟨R,a,h1,h2⟩:=Zd2 (h.2 rfl); exact ⟨R,a,.caseF rfl h1,h2⟩

def ZDY (X:Ctx) (ops:Array Oper):List Oper→St→(St→Prop)→Prop
 | [],st,Q=>Q st
 | o::l,st,Q=>dstOk X o∧wp (ZeU X ops o) st fun p=>(∀ n∈p.2.new,FreeB st n)∧ZDY X ops l (st.apply o.dst p.1 p.2) Q

end

end Go.Vam
end
