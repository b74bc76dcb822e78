/- A part of the proof. Conditions: none. -/
import Derived.Test.YtmpbpijnbmpbhaaGreatSMg
import Derived.Test.YtmpbpijnbmpbhaaGreatSDs
set_option linter.unusedVariables false
set_option linter.defProp false
set_option linter.unusedSimpArgs false
set_option maxRecDepth 40000
set_option maxHeartbeats 4000000
namespace Go.Vam
open Go.Proofs
theorem ZGS {x:Rs} (hv:rsV x=true) {n:Int} (hn:0≤n∧n≤65536) (hp:x.p.p≤62000000000000):poE x n=0:=by
 have h1:=(ZD hv).1
 have h2:=Zbm h1 hn
 have h3:=ZgY h1 hn
 unfold poE adE
 rw [if_pos h3,if_neg]
 unfold atP
 rw [if_pos h3]
 omega
theorem ZK5 {x:Rs} (hv:rsV x=true) (hl:x.l.length≤1000000) {n:Int} (hn:0≤n∧n≤65536) (hm:n≤((mkN x.p (waN x):Nat):Int)) (hp:x.p.p≤62000000000000):tkE x n=0:=by
 have h1:=(ZD hv).1
 have hw:=ZcK hv hl
 have h2:=ZcE h1 hw.2.1 (k:=n.toNat) (by omega)
 have h3:ned x.p n≤waN x:=by
  have:=h2.1 (by omega)
  rwa [show ((n.toNat:Nat):Int)=n by omega] at this
 unfold tkE
 rw [if_neg (by rw [Zut hv hn]; decide),if_neg (by rw [← hw.1]; omega),ZGS hv hn hp]
theorem ZKK {x:Rs} (hv:rsV x=true) (hl:x.l.length≤1000000) {n:Int} (hn:0≤n∧n≤65536) (hp:x.p.p≤62000000000000):fiE x n=0:=by
 have h1:=Zj5 hv hl hn.1
 unfold fiE
 rw [if_neg (by rw [Zut hv hn]; decide),ZGS hv (by omega) hp]
theorem okS.far {x:Sm} {di ch:Int} {k:Nat} (h:okS x di ch k) (hk:k≤900):x.r.p.p≤62000000000000:=by
 have:=h.pp
 omega
theorem okS.lr {x:Sm} {di ch:Int} {k:Nat} (h:okS x di ch k):x.r.l.length≤1000000:=by have:=h.ll; omega
theorem okS.lg {x:Sm} {di ch:Int} {k:Nat} (h:okS x di ch k):x.g.l.length≤1000000:=by have:=h.gl; omega
theorem okS.P {x:Sm} {ch:Int} {k:Nat} (h:okS x 1 ch k):smP x=true:=by unfold smP; rw [h.v,h.d]; rfl
theorem ZAp {x:Sm} {ch:Int} {k:Nat} (h:okS x 1 ch k) (hk:k≤900) {i:Int} (hi:0≤i∧i≤65536):skE x i=0:=by
 have hb:=Zaa h.b
 have hr:(decide (i < 0) || decide (65536 < i))=false:=by simp only [Bool.or_eq_false_iff,decide_eq_false_iff_not]; omega
 have hK:=Zg0 (x:=x) hi.1
 rw [Zih h.P hr]
 split
 ·exact ZK5 hb.2.2.2.1 h.lr (by omega) (by unfold skK; omega) (h.far hk)
 ·split
  ·exact ZKK hb.2.2.2.1 h.lr hi (h.far hk)
  ·rfl
theorem ZFq {x:Sm} {ch:Int} {k:Nat} (h:okS x 1 ch k) (hk:k≤900) {i:Int} (hi:0≤i∧i≤65536):skC x i=ch∧(skO x i).length=i.toNat*ch.toNat∧(skO x i).all Zc2=true:=by
 have e:=ZAp h hk hi
 have hb:=Zaa h.b
 have hv:=ZD hb.2.2.2.1
 have hM:0≤skM x i∧skM x i≤i:=by
  have hK:=Zg0 (x:=x) hi.1
  have hc:=Zj5 hb.2.2.2.1 h.lr hi.1
  unfold skM
  split
  ·exact hK
  ·split
   ·exact ⟨hc.1,hc.2.1⟩
   ·exact ⟨Int.le_refl _,hi.1⟩
 have hol:(Zbo x.r (skM x i).toNat).length=(skM x i).toNat*x.r.c.toNat:=Zbp _ _
 have hle:=Nat.mul_le_mul_right x.r.c.toNat (show (skM x i).toNat≤i.toNat by omega)
 have eO:skO x i=Zbo x.r (skM x i).toNat++List.replicate ((i.toNat - (skM x i).toNat)*x.r.c.toNat) 0:=if_pos e
 have eC:skC x i=x.r.c:=if_pos e
 rw [eC,eO,← h.c,List.length_append,hol,List.length_replicate,Nat.sub_mul]
 refine ⟨rfl,by omega,?_⟩
 rw [List.all_append,ZiD hv.1 (ZW hv.2 h.lr).2.2.2 _ (by omega),Bool.true_and,List.all_eq_true]
 intro z hz
 rw [(List.mem_replicate.1 hz).2]
 decide
theorem ZGK {a b:Int} {l:List Int} (ha:1≤a∧a≤8) (hb:1≤b∧b≤8) (hl:l.length=(a*b).toNat) (hx:l.all ZeO=true):mxV a b l=true:=by
 have hm:=ZCs ha hb
 unfold mxV mxB
 rw [hl,hx,IntWalk.i64_in (a*b) (by omega),Bool.and_true,Bool.not_eq_true']
 simp only [Bool.or_eq_false_iff,decide_eq_false_iff_not,bne_eq_false_iff_eq]
 omega
theorem toNat_mul {a b:Int} (ha:0≤a) (hb:0≤b):(a*b).toNat=a.toNat*b.toNat:=by
 have:a*b=((a.toNat*b.toNat:Nat):Int):=by rw [Int.natCast_mul]; congr 1 <;> omega
 omega
theorem ZER (n:Nat):(idL n).all ZeO=true:=by
 rw [List.all_eq_true]
 intro x hx
 simp only [idL,List.mem_map] at hx
 obtain ⟨i,_,rfl⟩:=hx
 split <;> decide
theorem ZEU {n:Int} (h:1≤n∧n≤8):idE n=0∧idN n=n∧idO n=idL n.toNat∧mxV n n (idL n.toNat)=true:=by
 have hB:idB n=false:=by simp only [idB,Bool.or_eq_false_iff,decide_eq_false_iff_not]; omega
 refine ⟨by simp [idE,hB],by simp [idN,hB],by simp [idO,hB],ZGK h h ?_ (ZER _)⟩
 rw [toNat_mul (by omega) (by omega)]; simp [idL]
theorem ZBw {a b c d:Int} (ha:0≤a∧a≤262144) (hb:0≤b∧b≤262144) (hc:0≤c∧c≤4194304) (hd:0≤d∧d≤c):Zcl a b c d=true:=by
 simp only [Zcl,isG,Bool.and_eq_true,decide_eq_true_eq]
 omega
def Zno (ch fr:Int) (xs:List Inp) (j:Nat):Int:=(xs.map fun x=>(paO ch fr x)[j]?.getD 0).sum
theorem ZC4 (ch fr:Int) (j:Nat):Zno ch fr [] j=0:=rfl
theorem Zg4 (ch fr:Int) (x:Inp) (xs:List Inp) (j:Nat):Zno ch fr (x::xs) j=(paO ch fr x)[j]?.getD 0+Zno ch fr xs j:=by simp [Zno]
theorem ZuI (ch fr:Int) (xs ys:List Inp) (j:Nat):Zno ch fr (xs++ys) j=Zno ch fr xs j+Zno ch fr ys j:=by
 induction xs with
 | nil=>simp [Zno]
 | cons x xs ih=>rw [List.cons_append,Zg4,Zg4,ih,Int.add_assoc]
theorem ZFp {ch fr:Int} (hf:0≤fr) {xs:List Inp}:∀ {z:List Int},Zkh xs→(∀ x∈xs,inE ch fr x=0)→z.length=ch.toNat*fr.toNat→
  (Zis ch fr xs z).2=0∧∀ j:Nat,(Zis ch fr xs z).1[j]?.getD 0=z[j]?.getD 0+Zno ch fr xs j:=by
 induction xs with
 | nil=>intro z _ _ _; exact ⟨rfl,fun j=>by rw [ZC4,Int.add_zero]; rfl⟩
 | cons x xs ih =>
  intro z hk he hz
  have h0:=he x List.mem_cons_self
  have hpl:=ZmU (ch:=ch) (x:=x) hf (hk x List.mem_cons_self).1
  unfold Zis
  rw [if_pos h0]
  obtain ⟨h1,h2⟩:=ih (z:=Ztp z (paO ch fr x)) (fun y hy=>hk y (List.mem_cons_of_mem _ hy)) (fun y hy=>he y (List.mem_cons_of_mem _ hy)) (by rw [ZgN]; exact hz)
  refine ⟨h1,fun j=>?_⟩
  rw [h2,Zmy _ _ _ (by omega),Zg4,Int.add_assoc]
theorem ZCe {l m:List Int} (h:l.length=m.length) (h2:∀ j:Nat,l[j]?.getD 0=m[j]?.getD 0):l=m:=by
 apply List.ext_getElem h
 intro j h3 h4
 have:=h2 j
 rw [List.getElem?_eq_getElem h3,List.getElem?_eq_getElem h4] at this
 exact this
theorem ZzS {ch fr:Int} {xs:List Inp} (hB:muB ch fr=false) (hk:Zkh xs) (he:∀ x∈xs,inE ch fr x=0) (hl:xs.length≤32) :
  muE ch fr xs=0∧(muS ch fr xs).length=ch.toNat*fr.toNat∧∀ j:Nat,(muS ch fr xs)[j]?.getD 0=Zno ch fr xs j:=by
 obtain ⟨hc,hf,hq,hcf⟩:=Zul hB
 obtain ⟨h1,h2⟩:=ZFp (z:=ZhK ch fr) hf.1 hk he (Ze2 ch fr)
 have hE:muE ch fr xs=0:=by unfold muE; rw [if_neg (by rw [hB]; decide),if_neg (by omega)]; exact h1
 refine ⟨hE,ZzR hE,fun j=>?_⟩
 unfold muS
 rw [if_pos hE,h2,ZkV ch fr j,Int.zero_add]
theorem Zo3 {f g:Nat→Int}:∀ n,(∀ c,g c=0)→Zo2 f g n=0
 | 0,_=>rfl
 | n+1,h=>by show Zo2 f g n+f n*g n=0; rw [Zo3 n h,h n]; simp
theorem ZrR (g:Int):ZgP 0 g=0:=by
 unfold ZgP
 split
 ·rfl
 ·rw [Int.zero_mul]; rfl
def ZAa (x:Inp):Inp:={ x with l:=List.replicate x.l.length 0}
theorem ZAb (ch fr:Int) (x:Inp) (j:Nat):(paO ch fr (ZAa x))[j]?.getD 0=0:=by
 unfold paO
 split
 ·have ha:∀ k:Nat,(apO x.a x.b x.m x.c (List.replicate x.l.length 0))[k]?.getD 0=0:=fun k=>by
   unfold apO
   split
   ·unfold apL
    rw [List.getElem?_map]
    cases h:(List.range ((List.replicate x.l.length (0:Int)).length / x.a.toNat*x.b.toNat))[k]? with
    | none=>rfl
    | some y =>
     show apV x.a.toNat x.b.toNat x.m (List.replicate x.l.length 0) y=0
     unfold apV
     rw [Zo3]
     ·rfl
     ·intro c
      unfold atL
      rw [List.getElem?_replicate]
      split <;> rfl
   ·rfl
  show (grO x.f x.t x.n x.i x.b (apO x.a x.b x.m x.c (List.replicate x.l.length 0)))[j]?.getD 0=0
  unfold grO
  split
  ·unfold gO
   rw [List.getElem?_map]
   cases h:(List.range (apO x.a x.b x.m x.c (List.replicate x.l.length 0)).length)[j]? with
   | none=>rfl
   | some y =>
    show gV x.f x.t x.n x.i x.b (apO x.a x.b x.m x.c (List.replicate x.l.length 0)) y=0
    unfold gV
    rw [ha,ZrR]
  ·rfl
 ·rfl
theorem ZE3 {ch fr:Int} {xs:List Inp} {t r g:Int} (hB:muB ch fr=false) (hk:Zkh xs) (hl:xs.length≤32) (hE:muE ch fr xs=0) (hv:Zav t r g=true):Znq t r g ch (muS ch fr xs)=0:=by
 obtain ⟨hc,hf,hq,hcf⟩:=Zul hB
 have hlen:=ZzR hE
 refine ZAl hv ?_ ?_
 ·unfold chB
  have e:((muS ch fr xs).length:Int)=fr*ch:=by rw [hlen,← hcf,Int.mul_comm]
  rw [e,Int.mul_tmod_left,Int.mul_tdiv_cancel _ (by omega),IntWalk.i64_in fr (by omega)]
  simp only [Bool.or_eq_false_iff,decide_eq_false_iff_not,bne_self_eq_false,and_true]
  omega
 ·rw [List.all_eq_true]
  intro y hy
  obtain ⟨j,hj,rfl⟩:=List.mem_iff_getElem.1 hy
  have hb:=ZFo (k:=0) hf.1 hk (Ze2 ch fr) (fun j=>by rw [ZkV ch fr j]; simp) j
  have e:(muS ch fr xs)[j]=(Zis ch fr xs (ZhK ch fr)).1[j]?.getD 0:=by
   have:(muS ch fr xs)[j]?.getD 0=(Zis ch fr xs (ZhK ch fr)).1[j]?.getD 0:=by unfold muS; rw [if_pos hE]
   rw [← this,List.getElem?_eq_getElem hj]; rfl
  rw [e]
  simp only [okX,Bool.and_eq_true,decide_eq_true_eq]
  omega
theorem Zz0 {t r g c:Int} {s:List Int}:∀ n,(oAt t r g c s n).all Zc2=true
 | 0=>rfl
 | n+1=>by
  rw [oAt,List.all_append,Zz0 n,Bool.true_and,List.all_eq_true]
  intro x hx
  rw [List.mem_map] at hx
  obtain ⟨y,_,rfl⟩:=hx
  unfold Zxg Zc2
  have:=ZmY ((y*gAt t r g c s (n+1)).tdiv 65536)
  simp only [Bool.and_eq_true,decide_eq_true_eq]
  exact this
def ZBJ (x:Sm):Inp:=⟨skC x 16,skO x 16,idN 2,idN 2,idO 2,65536,32768,100,3⟩
def stG:Nat→Sm→Sm
 | 0,x=>x
 | g+1,x=>skR (stG g x) 16
theorem ZBj {x:Sm} {ch:Int} {k:Nat} (h:okS x 1 ch k) (hk:k≤800):∀ g,g≤50→okS (stG g x) 1 ch (k+g)
 | 0,_=>h
 | g+1,hg=>by
  have ih:=ZBj h hk g (by omega)
  exact ZGZ ih (show k+g≤1000 by omega) (ZAp ih (show k+g≤900 by omega) (by decide))
theorem ZEW {x:Sm} {k:Nat} (h:okS x 1 2 k) (hk:k≤900):inE 2 16 (ZBJ x)=0∧(ZBJ x).l.length=32∧(ZBJ x).m.length≤1000000:=by
 obtain ⟨h1,h2,h3⟩:=ZFq h hk (i:=16) (by decide)
 obtain ⟨i1,i2,i3,i4⟩:=ZEU (n:=2) (by decide)
 have hl:(skO x 16).length=32:=h2
 have hb:ZaR 2 (skO x 16)=true:=Zbg (z:=16) (by decide) h2 (by decide) h3
 refine ⟨?_,hl,by show (idO 2).length≤_; rw [i3]; decide⟩
 unfold inE ZBJ
 simp only [h1,i2,i3]
 rw [if_neg (by rw [hb,i4,ZBw (a:=65536) (b:=32768) (c:=100) (d:=3) (by decide) (by decide) (by decide) (by decide)]; decide),if_neg (by decide),if_neg (by rw [hl]; decide)]
def inG (ss:List Sm) (g:Nat):List Inp:=ss.map fun x=>ZBJ (stG g x)
structure okL (ss:List Sm) (k:Nat):Prop where
 ok:∀ x∈ss,okS x 1 2 k
 len:ss.length≤32
 k:k≤800
theorem Zpm {ss:List Sm} {k:Nat} (h:okL ss k) {g:Nat} (hg:g≤50):Zkh (inG ss g)∧(∀ x∈inG ss g,inE 2 16 x=0)∧(inG ss g).length≤32:=by
 have key:∀ x∈inG ss g,inE 2 16 x=0∧x.l.length=32∧x.m.length≤1000000:=by
  intro x hx
  simp only [inG,List.mem_map] at hx
  obtain ⟨y,hy,rfl⟩:=hx
  have hk:=h.k
  exact ZEW (ZBj (h.ok y hy) hk g hg) (by omega)
 refine ⟨fun x hx=>⟨by rw [(key x hx).2.1]; decide,(key x hx).2.2⟩,fun x hx=>(key x hx).1,?_⟩
 rw [inG,List.length_map]
 exact h.len
theorem ZKS {ss tt:List Sm} {k g:Nat} (h:okL ss k) (h':okL tt k) (hg:g≤50) (hs:∀ j,Zno 2 16 (inG ss g) j=Zno 2 16 (inG tt g) j):muE 2 16 (inG ss g)=0∧muE 2 16 (inG tt g)=0∧muS 2 16 (inG ss g)=muS 2 16 (inG tt g):=by
 obtain ⟨a1,a2,a3⟩:=Zpm h hg
 obtain ⟨b1,b2,b3⟩:=Zpm h' hg
 obtain ⟨c1,c2,c3⟩:=ZzS (ch:=2) (fr:=16) (by decide) a1 a2 a3
 obtain ⟨d1,d2,d3⟩:=ZzS (ch:=2) (fr:=16) (by decide) b1 b2 b3
 exact ⟨c1,d1,ZCe (by rw [c2,d2]) fun j=>by rw [c3,d3,hs]⟩
structure Hb where
 t:Int
 r:Int
 g:Int
 s:List Int
def hbM (ss:List Sm):Nat→Hb
 | 0=>⟨ZFT 3000000 50,ZFS 3000000 50,ZFR 3000000 50,List.replicate 26 0⟩
 | g+1=>⟨mxT 2 16 (inG ss g) (hbM ss g).t (hbM ss g).r (hbM ss g).g,mxR 2 16 (inG ss g) (hbM ss g).t (hbM ss g).r (hbM ss g).g,mxG 2 16 (inG ss g) (hbM ss g).t (hbM ss g).r (hbM ss g).g,(hbM ss g).s++mxO 2 16 (inG ss g) (hbM ss g).t (hbM ss g).r (hbM ss g).g⟩
theorem ZEN {ss tt:List Sm} {k:Nat} (h:okL ss k) (h':okL tt k) (hs:∀ g j,g≤50→Zno 2 16 (inG ss g) j=Zno 2 16 (inG tt g) j):∀ g,g≤50→hbM ss g=hbM tt g
 | 0,_=>rfl
 | g+1,hg=>by
  have ih:=ZEN h h' hs g (by omega)
  obtain ⟨m1,m2,m3⟩:=ZKS h h' (g:=g) (by omega) (fun j=>hs g j (by omega))
  have hT:∀ t r q,mxT 2 16 (inG ss g) t r q=mxT 2 16 (inG tt g) t r q:=fun t r q=>by unfold mxT; rw [m1,m2,m3]
  have hR:∀ t r q,mxR 2 16 (inG ss g) t r q=mxR 2 16 (inG tt g) t r q:=fun t r q=>by unfold mxR; rw [m1,m2,m3]
  have hG:∀ t r q,mxG 2 16 (inG ss g) t r q=mxG 2 16 (inG tt g) t r q:=fun t r q=>by unfold mxG; rw [m1,m2,m3]
  have hO:∀ t r q,mxO 2 16 (inG ss g) t r q=mxO 2 16 (inG tt g) t r q:=fun t r q=>by unfold mxO; rw [m1,m2,m3]
  unfold hbM
  rw [ih,hT,hR,hG,hO]
theorem ZC6 (ss:List Sm) (k g j:Nat):Zno 2 16 (inG (ss.drop k++ss.take k) g) j=Zno 2 16 (inG ss g) j:=by
 unfold inG
 rw [List.map_append,ZuI,Int.add_comm,← ZuI,← List.map_append,List.take_append_drop]
def idleS:Sm:=nwS 1 2 1 1 9 0 1
theorem Zr3 {k:Nat}:okS idleS 1 2 k:=by
 have h:=ZMA (di:=1) (ch:=2) (n:=1) (d:=1) (q:=9) (s0:=0) (st:=1) ZFV (by decide) (by decide) (by decide) (by decide) (.inl rfl)
 exact ⟨h.v,h.d,h.c,h.ll,h.gl,by show (0:Int)≤_; omega,by show (0:Int)≤_; omega,by show (0:Int)≤_; omega,by show (0:Int)≤_; omega⟩
theorem Zt6:∀ g,stG g idleS=idleS
 | 0=>rfl
 | g+1=>by
  rw [stG,Zt6 g]
  have e:=ZAp (Zr3 (k:=0)) (by decide) (i:=16) (by decide)
  unfold skR
  rw [if_pos e,if_neg (by show ¬ ((1:Int)=3∨(1:Int)=5); decide)]
theorem ZGv:skO idleS 16=List.replicate 32 0:=by
 have e:=ZAp (Zr3 (k:=0)) (by decide) (i:=16) (by decide)
 unfold skO
 rw [if_pos e]
 show Zbo idleS.r 0++List.replicate 32 0=_
 have:Zbo idleS.r 0=[]:=List.eq_nil_of_length_eq_zero (by rw [Zbp]; simp)
 rw [this,List.nil_append]
theorem ZC5 (ss:List Sm) (g j:Nat):Zno 2 16 (inG (idleS::ss) g) j=Zno 2 16 (inG ss g) j:=by
 have h:ZBJ (stG g idleS)=ZAa (ZBJ (stG g idleS)):=by
  rw [Zt6]
  unfold ZAa ZBJ
  simp only [ZGv,List.length_replicate]
 show Zno 2 16 (ZBJ (stG g idleS)::inG ss g) j=_
 rw [Zg4,h,ZAb,Int.zero_add]
theorem ZEQ {ss:List Sm} {k:Nat} (h:okL ss k) (n:Nat) {g:Nat} (hg:g≤50):hbM (ss.drop n++ss.take n) g=hbM ss g:=by
 refine ZEN ⟨fun x hx=>?_,?_,h.k⟩ h (fun g j _=>ZC6 ss n g j) g hg
 ·rcases List.mem_append.1 hx with h1 | h1
  ·exact h.ok x (List.mem_of_mem_drop h1)
  ·exact h.ok x (List.mem_of_mem_take h1)
 ·have:=h.len
  rw [List.length_append,List.length_drop,List.length_take]
  omega
theorem ZEO {ss:List Sm} {k:Nat} (h:okL ss k) (hl:ss.length≤31) {g:Nat} (hg:g≤50):okL (idleS::ss) k∧hbM (idleS::ss) g=hbM ss g:=by
 have h2:okL (idleS::ss) k:=⟨fun x hx=>by
  rcases List.mem_cons.1 hx with rfl | h1
  ·exact Zr3
  ·exact h.ok x h1,by rw [List.length_cons]; omega,h.k⟩
 exact ⟨h2,ZEN h2 h (fun g j _=>ZC5 ss g j) g hg⟩
theorem ZEP {ss:List Sm} {k:Nat} (h:okL ss k):∀ g,g≤50→Zav (hbM ss g).t (hbM ss g).r (hbM ss g).g=true∧(hbM ss g).s.length=(13+16*g)*(2:Int).toNat∧(hbM ss g).s.all Zc2=true∧mxE 2 16 (inG ss g) (hbM ss g).t (hbM ss g).r (hbM ss g).g=0∧mxC 2 16 (inG ss g) (hbM ss g).t (hbM ss g).r (hbM ss g).g=2∧(mxO 2 16 (inG ss g) (hbM ss g).t (hbM ss g).r (hbM ss g).g).length=16*(2:Int).toNat∧(mxO 2 16 (inG ss g) (hbM ss g).t (hbM ss g).r (hbM ss g).g).all Zc2=true:=by
 have mixed:∀ g t r q,g≤50→Zav t r q=true→mxE 2 16 (inG ss g) t r q=0∧mxC 2 16 (inG ss g) t r q=2∧(mxO 2 16 (inG ss g) t r q).length=16*(2:Int).toNat∧(mxO 2 16 (inG ss g) t r q).all Zc2=true∧Zav (mxT 2 16 (inG ss g) t r q) (mxR 2 16 (inG ss g) t r q) (mxG 2 16 (inG ss g) t r q)=true:=by
  intro g t r q hg hv
  obtain ⟨a1,a2,a3⟩:=Zpm h hg
  obtain ⟨c1,c2,c3⟩:=ZzS (ch:=2) (fr:=16) (by decide) a1 a2 a3
  have hE:=ZE3 (t:=t) (r:=r) (g:=q) (by decide) a1 a3 c1 hv
  have hcb:chB 2 (muS 2 16 (inG ss g))=false:=by
   unfold Znq at hE
   rw [if_neg (by rw [hv]; decide)] at hE
   split at hE
   ·cases hE
   ·rename_i h1; simpa using h1
  have hl:(muS 2 16 (inG ss g)).length / (2:Int).toNat=16:=by rw [c2]; rfl
  have hO:ZCF t r q 2 (muS 2 16 (inG ss g))=oAt t r q 2 (muS 2 16 (inG ss g)) 16:=by unfold ZCF; rw [if_pos hE,hl]
  refine ⟨?_,?_,?_,?_,?_⟩
  ·unfold mxE; rw [if_pos c1,hE]
  ·unfold mxC ZDW; rw [if_pos c1,if_pos hE]
  ·unfold mxO; rw [if_pos c1,hO,Zr8 hcb 16 (by rw [hl]; exact Nat.le_refl _)]
  ·unfold mxO; rw [if_pos c1,hO]; exact Zz0 ..
  ·unfold mxT mxR mxG ZD0 ZDZ ZDX
   rw [if_pos c1,if_pos c1,if_pos c1,if_pos hE,if_pos hE,if_pos hE]
   exact Zzy hv _
 intro g
 induction g with
 | zero =>
  intro _
  have hv:Zav (hbM ss 0).t (hbM ss 0).r (hbM ss 0).g=true:=by show Zav (ZFT 3000000 50) (ZFS 3000000 50) (ZFR 3000000 50)=true; decide +kernel
  obtain ⟨e1,e2,e3,e4,e5⟩:=mixed 0 _ _ _ (by decide) hv
  exact ⟨hv,rfl,rfl,e1,e2,e3,e4⟩
 | succ g ih =>
  intro hg
  obtain ⟨i1,i2,i3,i4,i5,i6,i7⟩:=ih (by omega)
  obtain ⟨d1,d2,d3,d4,d5⟩:=mixed g _ _ _ (by omega) i1
  have hv:Zav (hbM ss (g+1)).t (hbM ss (g+1)).r (hbM ss (g+1)).g=true:=d5
  obtain ⟨e1,e2,e3,e4,e5⟩:=mixed (g+1) _ _ _ hg hv
  refine ⟨hv,?_,?_,e1,e2,e3,e4⟩
  ·show ((hbM ss g).s++mxO 2 16 (inG ss g) (hbM ss g).t (hbM ss g).r (hbM ss g).g).length=_
   rw [List.length_append,i2,i6,← Nat.add_mul]
   congr 1
  ·show ((hbM ss g).s++mxO 2 16 (inG ss g) (hbM ss g).t (hbM ss g).r (hbM ss g).g).all Zc2=true
   rw [List.all_append,i3,i7]
   rfl
theorem okS.mono {x:Sm} {di ch:Int} {k:Nat} (h:okS x di ch k):∀ n,okS x di ch (k+n)
 | 0=>h
 | n+1=>(okS.mono h n).up
end Go.Vam
