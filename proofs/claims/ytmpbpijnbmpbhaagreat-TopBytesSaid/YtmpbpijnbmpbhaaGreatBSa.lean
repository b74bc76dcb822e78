/- A part of the proof. Conditions: none. -/
import Derived.Test.YtmpbpijnbmpbhaaGreatBMg
import Derived.Test.YtmpbpijnbmpbhaaGreatBDs
set_option linter.unusedVariables false
set_option linter.defProp false
set_option linter.unusedSimpArgs false
set_option maxRecDepth 40000
set_option maxHeartbeats 4000000
namespace Go.Vam
open Go.Proofs
theorem ZHT {x:Rs} (hv:rsV x=true) {n:Int} (hn:0≤n∧n≤65536) (hp:x.p.p≤62000000000000):poE x n=0:=by
 have h1:=(ZA hv).1
 have h2:=Zbk h1 hn
 have h3:=ZfA h1 hn
 unfold poE adE
 rw [if_pos h3,if_neg]
 unfold atP
 rw [if_pos h3]
 omega
theorem ZL5 {x:Rs} (hv:rsV x=true) (hl:x.l.length≤1000000) {n:Int} (hn:0≤n∧n≤65536) (hm:n≤((mkN x.p (waN x):Nat):Int)) (hp:x.p.p≤62000000000000):tkE x n=0:=by
 have h1:=(ZA hv).1
 have hw:=Zec hv hl
 have h2:=Zaz h1 hw.2.1 (k:=n.toNat) (by omega)
 have h3:ned x.p n≤waN x:=by
  have:=h2.1 (by omega)
  rwa [show ((n.toNat:Nat):Int)=n by omega] at this
 unfold tkE
 rw [if_neg (by rw [Zvl hv hn]; decide),if_neg (by rw [← hw.1]; omega),ZHT hv hn hp]
theorem ZLM {x:Rs} (hv:rsV x=true) (hl:x.l.length≤1000000) {n:Int} (hn:0≤n∧n≤65536) (hp:x.p.p≤62000000000000):fiE x n=0:=by
 have h1:=ZuJ hv hl hn.1
 unfold fiE
 rw [if_neg (by rw [Zvl hv hn]; decide),ZHT hv (by omega) hp]
theorem okS.far {x:Sm} {di ch:Int} {k:Nat} (h:okS x di ch k) (hk:k≤900):x.r.p.p≤62000000000000:=by
 have:=h.pp
 omega
theorem okS.lr {x:Sm} {di ch:Int} {k:Nat} (h:okS x di ch k):x.r.l.length≤1000000:=by have:=h.ll; omega
theorem okS.lg {x:Sm} {di ch:Int} {k:Nat} (h:okS x di ch k):x.g.l.length≤1000000:=by have:=h.gl; omega
theorem okS.P {x:Sm} {ch:Int} {k:Nat} (h:okS x 1 ch k):smP x=true:=by unfold smP; rw [h.v,h.d]; rfl
theorem ZGA {x:Sm} {ch:Int} {k:Nat} (h:okS x 1 ch k) (hk:k≤900) {i:Int} (hi:0≤i∧i≤65536):skE x i=0:=by
 have hb:=Zan h.b
 have hr:(decide (i < 0) || decide (65536 < i))=false:=by simp only [Bool.or_eq_false_iff,decide_eq_false_iff_not]; omega
 have hK:=Zmh (x:=x) hi.1
 rw [Zqq h.P hr]
 split
 ·exact ZL5 hb.2.2.2.1 h.lr (by omega) (by unfold skK; omega) (h.far hk)
 ·split
  ·exact ZLM hb.2.2.2.1 h.lr hi (h.far hk)
  ·rfl
theorem toNat_mul {a b:Int} (ha:0≤a) (hb:0≤b):(a*b).toNat=a.toNat*b.toNat:=by
 have:a*b=((a.toNat*b.toNat:Nat):Int):=by rw [Int.natCast_mul]; congr 1 <;> omega
 omega
theorem Zro {a b c d:Int} (ha:0≤a∧a≤262144) (hb:0≤b∧b≤262144) (hc:0≤c∧c≤4194304) (hd:0≤d∧d≤c):Zcs a b c d=true:=by
 simp only [Zcs,isG,Bool.and_eq_true,decide_eq_true_eq]
 omega
def ZG1 (ch fr:Int) (xs:List Inp) (j:Nat):Int:=(xs.map fun x=>(paO ch fr x)[j]?.getD 0).sum
theorem ZvE (ch fr:Int) (j:Nat):ZG1 ch fr [] j=0:=rfl
theorem Zrk (ch fr:Int) (x:Inp) (xs:List Inp) (j:Nat):ZG1 ch fr (x::xs) j=(paO ch fr x)[j]?.getD 0+ZG1 ch fr xs j:=by simp [ZG1]
theorem ZGz {ch fr:Int} (hf:0≤fr) {xs:List Inp}:∀ {z:List Int},Zix xs→(∀ x∈xs,inE ch fr x=0)→z.length=ch.toNat*fr.toNat→
  (ZiA ch fr xs z).2=0∧∀ j:Nat,(ZiA ch fr xs z).1[j]?.getD 0=z[j]?.getD 0+ZG1 ch fr xs j:=by
 induction xs with
 | nil=>intro z _ _ _; exact ⟨rfl,fun j=>by rw [ZvE,Int.add_zero]; rfl⟩
 | cons x xs ih =>
  intro z hk he hz
  have h0:=he x List.mem_cons_self
  have hpl:=Zni (ch:=ch) (x:=x) hf (hk x List.mem_cons_self).1
  unfold ZiA
  rw [if_pos h0]
  obtain ⟨h1,h2⟩:=ih (z:=Zt9 z (paO ch fr x)) (fun y hy=>hk y (List.mem_cons_of_mem _ hy)) (fun y hy=>he y (List.mem_cons_of_mem _ hy)) (by rw [ZgN]; exact hz)
  refine ⟨h1,fun j=>?_⟩
  rw [h2,ZmP _ _ _ (by omega),Zrk,Int.add_assoc]
theorem ZDs {l m:List Int} (h:l.length=m.length) (h2:∀ j:Nat,l[j]?.getD 0=m[j]?.getD 0):l=m:=by
 apply List.ext_getElem h
 intro j h3 h4
 have:=h2 j
 rw [List.getElem?_eq_getElem h3,List.getElem?_eq_getElem h4] at this
 exact this
theorem ZHN {ch fr:Int} {xs:List Inp} (hB:muB ch fr=false) (hk:Zix xs) (he:∀ x∈xs,inE ch fr x=0) (hl:xs.length≤32) :
  muE ch fr xs=0∧(muS ch fr xs).length=ch.toNat*fr.toNat∧∀ j:Nat,(muS ch fr xs)[j]?.getD 0=ZG1 ch fr xs j:=by
 obtain ⟨hc,hf,hq,hcf⟩:=Zvd hB
 obtain ⟨h1,h2⟩:=ZGz (z:=ZhP ch fr) hf.1 hk he (Ze4 ch fr)
 have hE:muE ch fr xs=0:=by unfold muE; rw [if_neg (by rw [hB]; decide),if_neg (by omega)]; exact h1
 refine ⟨hE,ZsN hE,fun j=>?_⟩
 unfold muS
 rw [if_pos hE,h2,Zk8 ch fr j,Int.zero_add]
theorem ZF9 {ch fr:Int} {xs:List Inp} {t r g:Int} (hB:muB ch fr=false) (hk:Zix xs) (hl:xs.length≤32) (hE:muE ch fr xs=0) (hv:Zao t r g=true):Zhb t r g ch (muS ch fr xs)=0:=by
 obtain ⟨hc,hf,hq,hcf⟩:=Zvd hB
 have hlen:=ZsN hE
 refine Znm hv ?_ ?_
 ·unfold chB
  have e:((muS ch fr xs).length:Int)=fr*ch:=by rw [hlen,← hcf,Int.mul_comm]
  rw [e,Int.mul_tmod_left,Int.mul_tdiv_cancel _ (by omega),IntWalk.i64_in fr (by omega)]
  simp only [Bool.or_eq_false_iff,decide_eq_false_iff_not,bne_self_eq_false,and_true]
  omega
 ·rw [List.all_eq_true]
  intro y hy
  obtain ⟨j,hj,rfl⟩:=List.mem_iff_getElem.1 hy
  have hb:=ZGy (k:=0) hf.1 hk (Ze4 ch fr) (fun j=>by rw [Zk8 ch fr j]; simp) j
  have e:(muS ch fr xs)[j]=(ZiA ch fr xs (ZhP ch fr)).1[j]?.getD 0:=by
   have:(muS ch fr xs)[j]?.getD 0=(ZiA ch fr xs (ZhP ch fr)).1[j]?.getD 0:=by unfold muS; rw [if_pos hE]
   rw [← this,List.getElem?_eq_getElem hj]; rfl
  rw [e]
  simp only [okX,Bool.and_eq_true,decide_eq_true_eq]
  omega
theorem Znd {t r g c:Int} {s:List Int}:∀ n,(oAt t r g c s n).all ZbI=true
 | 0=>rfl
 | n+1=>by
  rw [oAt,List.all_append,Znd n,Bool.true_and,List.all_eq_true]
  intro x hx
  rw [List.mem_map] at hx
  obtain ⟨y,_,rfl⟩:=hx
  unfold Ziv ZbI
  have:=ZhL ((y*gAt t r g c s (n+1)).tdiv 65536)
  simp only [Bool.and_eq_true,decide_eq_true_eq]
  exact this
structure okL (ss:List Sm) (k:Nat):Prop where
 ok:∀ x∈ss,okS x 1 2 k
 len:ss.length≤32
 k:k≤800
structure Hb where
 t:Int
 r:Int
 g:Int
 s:List Int
theorem okS.mono {x:Sm} {di ch:Int} {k:Nat} (h:okS x di ch k):∀ n,okS x di ch (k+n)
 | 0=>h
 | n+1=>(okS.mono h n).up
end Go.Vam
