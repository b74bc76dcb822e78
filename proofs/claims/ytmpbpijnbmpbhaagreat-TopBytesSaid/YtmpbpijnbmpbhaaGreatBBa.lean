/- A part of the proof. Conditions: none. -/
import Derived.Test.YtmpbpijnbmpbhaaGreatBSa
set_option linter.unusedVariables false
set_option linter.defProp false
set_option linter.unusedSimpArgs false
set_option maxRecDepth 40000
set_option maxHeartbeats 4000000
namespace Go.Vam
open Go.Proofs
open Nat renaming reduceShiftRight→Ya,reduceMod→Yb,reduceEqDiff→Yc,reduceLT→Yd,reduceLeDiff→Ye,reduceAdd→Yf,reduceMul→Yg
open Int renaming reduceLE→Yj,reduceLT→Yk,reduceNeg→Yl,reduceAdd→Ym,reduceToNat→Yn
theorem okS.N {x:Sm} {ch:Int} {k:Nat} (h:okS x 1 ch k):smN x=waN x.r:=by
 unfold smN
 rw [if_neg (by rw [h.v]; decide),if_neg (by rw [h.d]; decide)]
theorem ZGg {x:Sm} {ch:Int} {k:Nat} (h:okS x 1 ch k) (hk:k≤900) (hs:x.st=3) {i:Int} (hi:0≤i∧i≤65536):owE x i=0∧(owN x i=0↔skX x i=0):=by
 have hb:=Zan h.b
 have hr:(decide (i < 0) || decide (65536 < i))=false:=by simp only [Bool.or_eq_false_iff,decide_eq_false_iff_not]; omega
 have e:owE x i=0:=by unfold owE; rw [if_neg (by rw [h.P]; decide),if_neg (by rw [hr]; decide)]
 have h1:=(ZA hb.2.2.2.1).1
 have hw:=Zec hb.2.2.2.1 h.lr
 have h2:=Zaz h1 hw.2.1 (k:=i.toNat) (by omega)
 rw [show ((i.toNat:Nat):Int)=i by omega] at h2
 have eN:owN x i=max 0 (ned x.r.p i - waN x.r):=by unfold owN; rw [if_pos e,h.N]
 have eX:skX x i=i - skK x i:=if_pos ⟨ZGA h hk hi,hs⟩
 have eK:skK x i=min ((mkN x.r.p (waN x.r):Nat):Int) i:=rfl
 refine ⟨e,?_⟩
 rw [eN,eX,eK]
 constructor
 ·intro h3
  have:=h2.2 (by omega)
  omega
 ·intro h3
  have:=h2.1 (by omega)
  omega
theorem ZGE {x:Sm} {ch:Int} {n:Nat} (h:okS x 1 ch n) (hs:x.st≤4) {y:List Int} (hb:ZaL ch y=true):swE x ch y=if smO x < swN ch y then 10 else 0:=by
 unfold swE
 rw [if_neg (by rw [h.P,hb]; decide),if_neg (by rw [h.c]; simp),if_neg (by omega)]
theorem ZH8 {ch:Int} (hc:1≤ch∧ch≤8) {y:List Int} {n:Nat} (hy:y.length=n*ch.toNat):swN ch y=n:=by
 unfold swN
 rw [hy,Nat.mul_div_cancel _ (by omega)]
theorem ZL4 {x:Sm} {ch:Int} {n:Nat} {y:List Int} (h:okS x 1 ch n) (hn:n≤1000) (hy:y.length≤1000000) (he:swE x ch y=0) :
  swR x ch y=⟨x.di,if x.st=1∧0 < swN ch y then 2 else x.st,x.q,x.s0,feR x.r ch y,x.g,x.wr+swN ch y,x.pl,x.mi⟩∧waN (feR x.r ch y)=waN x.r+swN ch y∧feR x.r ch y={ x.r with l:=x.r.l++y}∧swN ch y≤x.q - waN x.r:=by
 obtain ⟨a1,a2,a3,a4,a5,a6⟩:=ZH6 h.lr hy he
 have hb:=Zan h.b
 have hs:=ZH7 a2 hy
 obtain ⟨f1,f2,f3⟩:=ZAn a6 h.lr hy
 have h1:=h.wr
 have hO:smO x=x.q - smN x:=if_neg (by rw [h.v]; decide)
 have hN:=h.N
 refine ⟨?_,?_,f1,by omega⟩
 ·unfold swR
  rw [if_pos he,IntWalk.i64_in (x.wr+swN ch y) (by omega)]
 ·rw [(Zec f2 (by omega)).1,(Zec hb.2.2.2.1 h.lr).1,f1]
  obtain ⟨⟨k1,k2⟩,k3,k4,k5⟩:=ZW (ZA hb.2.2.2.1).2 h.lr
  obtain ⟨_,m3,m4,m5⟩:=ZW a2 hy
  rw [a3] at m3 m4
  have hdv:(x.r.l++y).length / x.r.c.toNat=x.r.l.length / x.r.c.toNat+y.length / x.r.c.toNat:=by
   have:(x.r.l++y).length=(x.r.l.length / x.r.c.toNat+y.length / x.r.c.toNat)*x.r.c.toNat:=by rw [List.length_append,Nat.add_mul]; omega
   rw [this,Nat.mul_div_cancel _ (by omega)]
  show (((x.r.l++y).length / x.r.c.toNat:Nat):Int)=_
  rw [hdv,a3]
  unfold swN
  omega
theorem ZL1 {x:Sm} {ch:Int} {n:Nat} (h:okS x 1 ch n) (hn:n≤900) (hs:x.st=3) {i:Int} (hi:0≤i∧i≤65536) :
  skR x i=⟨x.di,3,x.q,x.s0,poR x.r (skK x i),x.g,x.wr,x.pl+i,x.mi+skX x i⟩∧waN (poR x.r (skK x i))+(poR x.r (skK x i)).p.p=waN x.r+x.r.p.p∧(0≤skX x i∧skX x i≤i):=by
 have hb:=Zan h.b
 have he:=ZGA h hn hi
 have hX:=ZH3 he
 have h1:=h.pl
 have h2:=h.mi
 have hK:=Zmh (x:=x) hi.1
 have eM:skM x i=skK x i:=if_pos hs
 have eX:skX x i=i - skK x i:=if_pos ⟨he,hs⟩
 have eS:skS x i=3:=by
  unfold skS
  rw [if_neg (by omega)]
  exact hs
 refine ⟨?_,?_,by omega⟩
 ·unfold skR
  rw [if_pos he,if_pos (Or.inl hs),eM,eS,IntWalk.i64_in (x.pl+i) (by omega),IntWalk.i64_in (x.mi+skX x i) (by omega)]
 ·have hpo:=ZL2 he (Or.inl hs)
  rw [eM] at hpo
  have hv:=hb.2.2.2.1
  obtain ⟨p1,p2,p3,p4,p5⟩:=ZHU hv h.lr hpo
  have hq:=ZfW (ZA hv).1 (g:=(skK x i).toNat) (by omega)
  have hKc:(((skK x i).toNat:Nat):Int)=skK x i:=by omega
  rw [hKc] at hq
  have hw:=Zec hv h.lr
  have hm:=(Zaz (ZA hv).1 hw.2.1 (k:=(skK x i).toNat) (by omega)).1 (by
   have:skK x i=min ((mkN x.r.p (waN x.r):Nat):Int) i:=rfl
   omega)
  have hqn:=Zg1 (ZA hv).1 (n:=(skK x i).toNat) (by omega)
  obtain ⟨⟨k1,k2⟩,k3,k4,k5⟩:=ZW (ZA hv).2 h.lr
  have hqw:qN x.r.p (skK x i).toNat≤x.r.l.length / x.r.c.toNat:=by omega
  have hqm:=Nat.mul_le_mul_right x.r.c.toNat hqw
  have el:(poR x.r (skK x i)).l.length=(x.r.l.length / x.r.c.toNat - qN x.r.p (skK x i).toNat)*x.r.c.toNat:=by
   unfold poR
   rw [if_pos hpo]
   show (x.r.l.drop (min x.r.l.length (qN x.r.p (skK x i).toNat*x.r.c.toNat))).length=_
   rw [List.length_drop,Nat.sub_mul]
   omega
  rw [(Zec p1 (by have:=h.lr; omega)).1,p2,p4,el,Nat.mul_div_cancel _ (by omega),hw.1]
  show _+(x.r.p.p+qAt x.r.p (skK x i))=_
  omega
def pcS (P:Ph) (ch:Int) (b:List Int) (st:Int) (T N:Nat):Sm:=⟨1,st,80,0,stR P ch (b.take (T*ch.toNat)) N,rg0,(T:Int),(N:Int),0⟩
structure pcH (P:Ph) (ch:Int) (b:List Int) (F:Nat):Prop where
 hp:phV P=true
 h0:P.p=0
 h1:P.a=0
 hc:1≤ch∧ch≤8
 hb:b.length=F*ch.toNat
 ha:b.all ZbI=true
 hF:F≤60
 hf:∀ q:Nat,q≤F→mkN P (q:Int) < 65536
theorem ZNy {P:Ph} {ch:Int} {b:List Int} {F:Nat} (H:pcH P ch b F) {T:Nat} (hT:T≤F):(b.take (T*ch.toNat)).length=T*ch.toNat∧(b.take (T*ch.toNat)).all ZbI=true:=by
 have:=Nat.mul_le_mul_right ch.toNat hT
 refine ⟨by rw [List.length_take,H.hb]; omega,?_⟩
 rw [List.all_eq_true]
 intro x hx
 exact List.all_eq_true.1 H.ha x (List.mem_of_mem_take hx)
theorem ZDL {P:Ph} {ch:Int} {b:List Int} {F:Nat} (H:pcH P ch b F) {st:Int} {T N:Nat} (hs:1≤st∧st≤7) (hT:T≤F) (hN6:N≤65536) (hN:ned P N≤T) :
  okS (pcS P ch b st T N) 1 ch 1∧waN (pcS P ch b st T N).r=((T - qN P N:Nat):Int)∧qN P N≤T:=by
 obtain ⟨l1,l2⟩:=ZNy H hT
 have hF:=H.hF
 obtain ⟨v1,v2,v3,v4⟩:=Zyi H.hp H.hc l1 l2 (by omega) hN6 hN (by rw [H.h0]; omega)
 have hle:=Nat.mul_le_mul (show T - qN P N≤60 by omega) (show ch.toNat≤8 by have:=H.hc; omega)
 have hlen:(stR P ch (b.take (T*ch.toNat)) N).l.length≤480:=by rw [v2]; exact hle
 have hw:waN (pcS P ch b st T N).r=((T - qN P N:Nat):Int):=by
  rw [(Zec (x:=(pcS P ch b st T N).r) v1 (by show (stR P ch (b.take (T*ch.toNat)) N).l.length≤_; omega)).1]
  show (((stR P ch (b.take (T*ch.toNat)) N).l.length / ch.toNat:Nat):Int)=_
  rw [v3]
 have hB:smB (pcS P ch b st T N)=true:=ZFi hs ⟨by show (1:Int)≤80; decide,by show (80:Int)≤65536; decide⟩ ⟨by show (0:Int)≤0; decide,by show (0:Int)≤80; decide⟩ v1 H.h1 (by show (0:Int)≤(T:Int); omega) (by show (0:Int)≤(N:Int); omega) (by show (0:Int)≤0; decide)
 refine ⟨⟨ZH5 hB rfl (by rw [hw]; show _≤(80:Int); omega) rfl,rfl,rfl,by show (stR P ch (b.take (T*ch.toNat)) N).l.length≤_; omega,Nat.zero_le _,by show (T:Int)≤_; omega,by show (N:Int)≤_; omega,by show (0:Int)≤70000*((1:Nat):Int); decide,?_⟩,hw,v4⟩
 show P.p+((qN P N:Nat):Int)≤_
 rw [H.h0]
 omega
theorem ZGi {P:Ph} {ch:Int} {b:List Int} {F:Nat} (H:pcH P ch b F) (st:Int):pcS P ch b st 0 0=⟨1,st,80,0,⟨ch,P,[]⟩,rg0,0,0,0⟩:=by
 unfold pcS
 rw [ZnL H.hp,Nat.zero_mul,List.take_zero]
 rfl
theorem ZDN {P:Ph} {ch:Int} {b:List Int} {F:Nat} (H:pcH P ch b F) {st:Int} {T m:Nat} (hs:1≤st∧st≤4) (hT:T≤m) (hm:m≤F) :
  swE (pcS P ch b st T 0) ch (Zc7 ch b T m)=0∧swR (pcS P ch b st T 0) ch (Zc7 ch b T m)=pcS P ch b (if st=1∧T < m then 2 else st) m 0:=by
 obtain ⟨l1,l2⟩:=ZNy H (T:=T) (by omega)
 have hF:=H.hF
 have hc:=H.hc
 have hN0:ned P ((0:Nat):Int)≤T:=by rw [Zdc]; omega
 obtain ⟨ok,hw,hq⟩:=ZDL H (st:=st) (T:=T) (N:=0) ⟨by omega,by omega⟩ (by omega) (by decide) hN0
 have hq0:qN P 0=0:=(ZiF H.hp).2
 have hmB:m*ch.toNat≤b.length:=by rw [H.hb]; exact Nat.mul_le_mul_right _ hm
 have hcl:=ZmY (f:=T) hmB
 have hca:(Zc7 ch b T m).all ZbI=true:=by
  rw [List.all_eq_true]
  intro x hx
  exact List.all_eq_true.1 H.ha x (List.mem_of_mem_drop (List.mem_of_mem_take hx))
 have hcb:ZaL ch (Zc7 ch b T m)=true:=Za5 hc hcl (by omega) hca
 have hN:=ZH8 hc hcl
 have hle:=Nat.mul_le_mul (show m - T≤60 by omega) (show ch.toNat≤8 by omega)
 have hO:smO (pcS P ch b st T 0)=80 - (T:Int):=by
  unfold smO
  rw [if_neg (by rw [ok.v]; decide),ok.N,hw,hq0]
  rfl
 have hE:=ZGE ok (by show st≤4; omega) hcb
 rw [if_neg (by rw [hO,hN]; omega)] at hE
 obtain ⟨f1,f2,f3,f4⟩:=ZL4 ok (by decide) (by omega) hE
 have hfe:=(ZAo H.hp (N:=0) hc l1 l2 hcl hca (by omega) (by decide) hN0 (by rw [H.h0]; omega)).2
 refine ⟨hE,?_⟩
 rw [f1,hN]
 have e:b.take (T*ch.toNat)++Zc7 ch b T m=b.take (m*ch.toNat):=by
  unfold Zc7
  have e:m*ch.toNat=T*ch.toNat+(m - T)*ch.toNat:=by rw [← Nat.add_mul]; congr 1; omega
  rw [e,← List.take_add]
 rw [e] at hfe
 have hfe2:feR (pcS P ch b st T 0).r ch (Zc7 ch b T m)=stR P ch (b.take (m*ch.toNat)) 0:=hfe
 rw [hfe2]
 unfold pcS
 simp only
 congr 1
 ·by_cases h:st=1∧T < m
  ·rw [if_pos h,if_pos ⟨h.1,by omega⟩]
  ·rw [if_neg h,if_neg (fun h2=>h ⟨h2.1,by omega⟩)]
 ·omega
theorem ZDM {P:Ph} {ch:Int} {b:List Int} {F:Nat} (H:pcH P ch b F):doE (pcS P ch b 2 F 0) 1=0∧doR (pcS P ch b 2 F 0) 1=pcS P ch b 3 F 0:=by
 obtain ⟨ok,hw,hq⟩:=ZDL H (st:=2) (T:=F) (N:=0) (by decide) (Nat.le_refl _) (by decide) (by rw [Zdc]; omega)
 have ha:doA (pcS P ch b 2 F 0) 1=true:=by simp [doA,pcS]
 have e:=do0 ok.v (by decide:(1:Int)≤1∧(1:Int)≤7) ha (fun h=>by
  have h4:=h.2.2.2
  rw [ok.N,hw] at h4
  have h5:((F - qN P 0:Nat):Int) < 0:=h4
  omega)
 refine ⟨e,?_⟩
 unfold doR
 rw [if_pos e]
 simp [doT,ZsZ,pcS]
theorem ZBc {P:Ph} {ch:Int} {b:List Int} {F:Nat} (H:pcH P ch b F) {N i:Nat} (hN:ned P N≤F) (hi:N+i≤60000) :
  skE (pcS P ch b 3 F N) i=0∧(skX (pcS P ch b 3 F N) i=0↔ned P ((N+i:Nat):Int)≤F)∧(ned P ((N+i:Nat):Int)≤F→skR (pcS P ch b 3 F N) i=pcS P ch b 3 F (N+i)∧skC (pcS P ch b 3 F N) i=ch∧ooL P ch b N++skO (pcS P ch b 3 F N) i=ooL P ch b (N+i)):=by
 have hF:=H.hF
 have hc:=H.hc
 obtain ⟨ok,hw,hq⟩:=ZDL H (st:=3) (T:=F) (N:=N) (by decide) (Nat.le_refl _) (by omega) hN
 have he:=ZGA ok (by decide) (i:=(i:Int)) (by omega)
 have hbt:b.take (F*ch.toNat)=b:=by rw [← H.hb,List.take_length]
 obtain ⟨m1,m2,m3⟩:=ZAY H.hp (W:=F) (ZHh H.hp (N:=N) (by omega) (by rw [H.h0]; omega)) hN (by omega) (H.hf F (Nat.le_refl _))
 have hK:skK (pcS P ch b 3 F N) i=min ((mkN P (F:Int) - N:Nat):Int) i:=by
  show min ((mkN (adv P N) (waN (pcS P ch b 3 F N).r):Nat):Int) (i:Int)=_
  rw [hw,m3]
 have hX:skX (pcS P ch b 3 F N) i=(i:Int) - skK (pcS P ch b 3 F N) i:=if_pos ⟨he,rfl⟩
 have hiff:=Zaz H.hp (n:=(F:Int)) (by omega) (k:=N+i) (by omega)
 refine ⟨he,?_,fun h=>?_⟩
 ·rw [hX,hK,← hiff]
  omega
 ·have h2:=hiff.2 h
  have hKi:skK (pcS P ch b 3 F N) i=(i:Int):=by rw [hK]; omega
  obtain ⟨f1,f2,f3⟩:=ZL1 ok (by decide) rfl (i:=(i:Int)) (by omega)
  obtain ⟨t1,t2,t3,t4⟩:=Zt1 H.hp (N:=N) (n:=i) hc H.hb H.ha (by omega) (by omega) h (by rw [H.h0]; omega)
  have hpo:poR (pcS P ch b 3 F N).r i=stR P ch b (N+i):=by
   rw [← t3]
   show poR (stR P ch (b.take (F*ch.toNat)) N) i=_
   rw [hbt]
   exact (if_pos t1).symm
  have hX0:skX (pcS P ch b 3 F N) i=0:=by rw [hX,hKi]; omega
  refine ⟨?_,if_pos he,?_⟩
  ·rw [f1,hKi,hpo,hX0]
   unfold pcS
   rw [hbt]
   simp
  ·rw [← t4]
   congr 1
   have hM:skM (pcS P ch b 3 F N) i=(i:Int):=(show skM (pcS P ch b 3 F N) i=skK (pcS P ch b 3 F N) i from if_pos rfl).trans hKi
   have e:skO (pcS P ch b 3 F N) i=ZcQ (pcS P ch b 3 F N).r (skM (pcS P ch b 3 F N) i).toNat++List.replicate (((i:Int).toNat - (skM (pcS P ch b 3 F N) i).toNat)*(pcS P ch b 3 F N).r.c.toNat) 0:=if_pos he
   rw [e,hM,Nat.sub_self,Nat.zero_mul,List.replicate_zero,List.append_nil]
   show ZcQ (stR P ch (b.take (F*ch.toNat)) N) _=_
   rw [hbt]
   exact (if_pos t1).symm
theorem ZlZ {f f' g g':Nat→Int}:∀ n,(∀ c,c < n→f c=f' c∧g c=g' c)→Ziw f g n=Ziw f' g' n
 | 0,_=>rfl
 | n+1,h=>by
  show Ziw f g n+f n*g n=Ziw f' g' n+f' n*g' n
  rw [ZlZ n (fun c hc=>h c (by omega)),(h n (by omega)).1,(h n (by omega)).2]
theorem Zph {A B:Nat} {M:List Int} {k:Int} {l:List Int} {q m:Nat} (hk:k.toNat=A) (hA:0 < A) (hB:0 < B) (hq:q≤m) (hm:m*A≤l.length) :
  apL A B M l (q*B)++apL A B M (Zc7 k l q m) ((m - q)*B)=apL A B M l (m*B):=by
 have e:m*B=q*B+(m - q)*B:=by rw [← Nat.add_mul]; congr 1; omega
 rw [e]
 unfold apL
 rw [List.range_add,List.map_append,List.map_map]
 congr 1
 apply List.map_congr_left
 intro j hj
 rw [List.mem_range] at hj
 have hjB:j / B < m - q:=Nat.div_lt_of_lt_mul (by rw [Nat.mul_comm]; exact hj)
 simp only [Function.comp_apply,apV]
 have e1:(q*B+j) % B=j % B:=by rw [Nat.add_comm,Nat.add_mul_mod_self_right]
 have e2:(q*B+j) / B=q+j / B:=by rw [Nat.add_comm,Nat.add_mul_div_right _ _ hB,Nat.add_comm]
 rw [e1,e2]
 congr 3
 refine ZlZ A fun c hc=>⟨rfl,?_⟩
 unfold atL
 have hcell:=Zkk hc hjB
 rw [ZDl (by rw [hk,Nat.mul_comm (m - q) A]; exact hcell),hk,Nat.add_mul,Nat.add_assoc]
def ZvC (c:Nat) (s:List Int) (q m:Nat):List Int:=(s.drop (q*c)).take (m*c)
theorem ZAB {c:Int} {s:List Int} {q m j:Nat} (hj:j < m):frL c (ZvC c.toNat s q m) j=frL c s (q+j):=by
 unfold frL ZvC
 rw [List.drop_take,List.drop_drop,List.take_take,← Nat.add_mul]
 congr 1
 have:j*c.toNat+c.toNat≤m*c.toNat:=by
  have:=Nat.mul_le_mul_right c.toNat (show j+1≤m from hj)
  rw [Nat.add_mul,Nat.one_mul] at this
  exact this
 omega
theorem ZsH {t r g c:Int} {s:List Int} {q m:Nat}:∀ j,j≤m→gAt t r (gAt t r g c s q) c (ZvC c.toNat s q m) j=gAt t r g c s (q+j)
 | 0,_=>rfl
 | j+1,h=>by
  show ZaK t r (gAt t r (gAt t r g c s q) c (ZvC c.toNat s q m) j) (frL c (ZvC c.toNat s q m) j)=ZaK t r (gAt t r g c s (q+j)) (frL c s (q+j))
  rw [ZsH j (by omega),ZAB (by omega)]
theorem ZsR {t r g c:Int} {s:List Int} {q m:Nat}:∀ j,j≤m→oAt t r g c s q++oAt t r (gAt t r g c s q) c (ZvC c.toNat s q m) j=oAt t r g c s (q+j)
 | 0,_=>by simp [oAt]
 | j+1,h=>by
  have e:oAt t r g c s (q+(j+1))=oAt t r g c s (q+j)++(frL c s (q+j)).map (Ziv (gAt t r g c s (q+j+1))):=rfl
  have e2:oAt t r (gAt t r g c s q) c (ZvC c.toNat s q m) (j+1)=oAt t r (gAt t r g c s q) c (ZvC c.toNat s q m) j++(frL c (ZvC c.toNat s q m) j).map (Ziv (gAt t r (gAt t r g c s q) c (ZvC c.toNat s q m) (j+1))):=rfl
  rw [e,e2,← List.append_assoc,ZsR j (by omega),ZAB (by omega),ZsH (j+1) h]
  rfl
theorem Zsq {x:Int} (h:ZbI x=true):ZgP x 65536=x:=by
 simp only [ZbI,Bool.and_eq_true,decide_eq_true_eq] at h
 unfold ZgP ZnO
 rw [if_neg (by simp only [Bool.or_eq_true,decide_eq_true_eq,Bool.not_eq_true',isG]; rintro ((h1 | h1) | h1) <;> first | omega | exact absurd h1 (by decide))]
 omega
theorem ZF0 {k:Int} {l:List Int} (ha:l.all ZbI=true):gO 65536 65536 0 0 k l l.length=l:=by
 apply List.ext_getElem
 ·simp [gO]
 ·intro j h1 h2
  simp only [gO,List.getElem_map,List.getElem_range]
  unfold gV ZsI
  rw [if_pos (by rw [Int.sub_zero]; exact Int.natCast_nonneg _),List.getElem?_eq_getElem h2]
  exact Zsq (List.all_eq_true.1 ha _ (List.getElem_mem h2))
theorem Znf (p:Ph) (c:Int) (s:List Int) (N:Nat):∀ k,(ooL p c s (N+k)).take (N*c.toNat)=ooL p c s N
 | 0=>by rw [Nat.add_zero,← Zne p c s N,List.take_length]
 | k+1=>by
  have e:ooL p c s (N+(k+1))=ooL p c s (N+k)++(List.range c.toNat).map (ocX p c s (N+k)):=rfl
  rw [e,List.take_append_of_le_length (by rw [Zne]; exact Nat.mul_le_mul_right _ (by omega)),Znf p c s N k]
theorem ZDG {t r g c:Int} {s:List Int} (hc:chB c s=false) {q A:Nat} (h:q≤A) (hA:A≤s.length / c.toNat):(oAt t r g c s A).take (q*c.toNat)=oAt t r g c s q:=by
 have h1:=ZfU (t:=t) (r:=r) (g:=g) hc q (by omega)
 have h2:=ZsR (t:=t) (r:=r) (g:=g) (c:=c) (s:=s) (q:=q) (m:=A - q) (A - q) (Nat.le_refl _)
 rw [show q+(A - q)=A by omega] at h2
 rw [← h2,← h1,List.take_append_of_le_length (Nat.le_refl _),List.take_length]
structure tbH (P:Ph) (ch M:Int) (mat b:List Int) (F:Nat):Prop where
 hp:phV P=true
 h0:P.p=0
 h1:P.a=0
 hc:1≤ch∧ch≤8
 hM:1≤M∧M≤8
 hm:mxV ch M mat=true
 hb:b.length=F*ch.toNat
 ha:b.all ZbI=true
 hF:F≤60
 hr:P.d≤6*P.n
theorem Zrl {P:Ph} {ch M:Int} {mat b:List Int} {F:Nat} (H:tbH P ch M mat b F) {T:Nat} (hT:T≤60):mkN P (T:Int)≤400:=by
 have hpr:=Zdf H.hp
 have hst:=ZfB H.hp
 have hph:=ZbG H.hp
 have e1:prt P≤6*stp P:=by
  rw [hst.1,H.h1,hph.2.2.2.2.2]
  have:=H.hr
  omega
 have hq:60≤qAt P 400:=by
  unfold qAt
  refine Int.le_ediv_of_mul_le (by omega) ?_
  unfold ahd
  omega
 have hif:=Zaz H.hp (n:=(T:Int)) (by omega) (k:=401) (by decide)
 have hn:¬ ned P ((401:Nat):Int)≤(T:Int):=by
  unfold ned
  rw [if_neg (by decide)]
  show ¬ max (qAt P 400+2) _≤_
  omega
 have:¬ 401≤mkN P (T:Int):=fun h=>hn (hif.1 h)
 omega
theorem ZEq {P:Ph} {ch M:Int} {mat b:List Int} {F:Nat} (H:tbH P ch M mat b F):pcH P ch b F:=⟨H.hp,H.h0,H.h1,H.hc,H.hb,H.ha,H.hF,fun q hq=>by have:=Zrl H (T:=q) (by have:=H.hF; omega); omega⟩
def tbA (P:Ph) (F:Nat):Nat:=mkN P (F:Int)
def tbO (P:Ph) (ch:Int) (b:List Int) (F:Nat):List Int:=ooL P ch b (tbA P F)
def tbX (P:Ph) (ch M:Int) (mat b:List Int) (F:Nat):List Int:=apL ch.toNat M.toNat mat (tbO P ch b F) (tbA P F*M.toNat)
def tbI (P:Ph) (ch M:Int) (mat b:List Int) (F q:Nat):Inp:=⟨ch,skO (pcS P ch b 3 F (16*q)) 16,ch,M,mat,65536,65536,0,0⟩
def tbG (P:Ph) (ch M:Int) (mat b:List Int) (F:Nat) (t r g:Int) (q:Nat):Int:=gAt t r g M (tbX P ch M mat b F) (16*q)
def tbS (P:Ph) (ch M:Int) (mat b:List Int) (F:Nat) (t r g:Int) (q:Nat):List Int:=List.replicate (13*M.toNat) 0++oAt t r g M (tbX P ch M mat b F) (16*q)
theorem ZH9 {P:Ph} {ch M:Int} {mat b:List Int} {F:Nat} (H:tbH P ch M mat b F):(tbO P ch b F).length=tbA P F*ch.toNat∧(tbO P ch b F).all ZbI=true∧(tbX P ch M mat b F).length=tbA P F*M.toNat∧(tbX P ch M mat b F).all ZbI=true∧chB M (tbX P ch M mat b F)=false∧(tbX P ch M mat b F).length / M.toNat=tbA P F∧tbA P F≤400:=by
 have hA:tbA P F≤400:=Zrl H H.hF
 have hM:=H.hM
 have hl:(tbX P ch M mat b F).length=tbA P F*M.toNat:=Zd1 ..
 have hd:(tbX P ch M mat b F).length / M.toNat=tbA P F:=by rw [hl,Nat.mul_div_cancel _ (by omega)]
 refine ⟨Zne ..,ZA9 H.hp ch H.ha _ (by omega),hl,Zsp ..,?_,hd,hA⟩
 unfold chB
 have e:(((tbX P ch M mat b F).length:Nat):Int)=(tbA P F:Int)*M:=by rw [hl,Int.natCast_mul,Int.toNat_of_nonneg (by omega)]
 rw [e,Int.mul_tmod_left,Int.mul_tdiv_cancel _ (by omega),IntWalk.i64_in _ (by omega)]
 simp only [Bool.or_eq_false_iff,decide_eq_false_iff_not,bne_self_eq_false,and_true]
 omega
theorem ZCD {P:Ph} {ch M:Int} {mat b:List Int} {F q:Nat} (H:tbH P ch M mat b F) (hq:16*(q+1)≤tbA P F) :
  skE (pcS P ch b 3 F (16*q)) 16=0∧skX (pcS P ch b 3 F (16*q)) 16=0∧skR (pcS P ch b 3 F (16*q)) 16=pcS P ch b 3 F (16*(q+1))∧skC (pcS P ch b 3 F (16*q)) 16=ch∧skO (pcS P ch b 3 F (16*q)) 16=Zc7 ch (tbO P ch b F) (16*q) (16*(q+1)):=by
 have hA:tbA P F≤400:=Zrl H H.hF
 have hF:=H.hF
 have hned:∀ N:Nat,N≤tbA P F→ned P (N:Int)≤(F:Int):=fun N hN=>(Zaz H.hp (n:=(F:Int)) (by omega) (k:=N) (by omega)).1 hN
 obtain ⟨t1,t2,t3⟩:=ZBc (ZEq H) (N:=16*q) (i:=16) (hned _ (by omega)) (by omega)
 have hn:ned P ((16*q+16:Nat):Int)≤F:=hned _ (by omega)
 obtain ⟨u1,u2,u3⟩:=t3 hn
 refine ⟨t1,t2.2 hn,u1,u2,?_⟩
 obtain ⟨k,hk⟩:∃ k,tbA P F=16*q+16+k:=⟨tbA P F - (16*q+16),by omega⟩
 have e2:ooL P ch b (16*q+16)=(tbO P ch b F).take ((16*q+16)*ch.toNat):=by unfold tbO; rw [hk,Znf]
 have e1:ooL P ch b (16*q)=(tbO P ch b F).take (16*q*ch.toNat):=by unfold tbO; rw [hk,Nat.add_assoc,Znf]
 rw [e1,e2,Nat.add_mul,List.take_add] at u3
 have u4:=List.append_cancel_left u3
 rw [show ((16:Nat):Int)=16 from rfl] at u4
 rw [u4]
 unfold Zc7
 congr 2
 omega
theorem ZDk {c:Int} {l:List Int} {f t:Nat} (h:l.all ZbI=true):(Zc7 c l f t).all ZbI=true:=by
 rw [List.all_eq_true]
 intro x hx
 exact List.all_eq_true.1 h x (List.mem_of_mem_drop (List.mem_of_mem_take hx))
theorem ZFk {P:Ph} {ch M:Int} {mat b:List Int} {F q:Nat} (H:tbH P ch M mat b F) (hq:16*(q+1)≤tbA P F) :
  Zix [tbI P ch M mat b F q]∧muE M 16 [tbI P ch M mat b F q]=0∧muS M 16 [tbI P ch M mat b F q]=ZvC M.toNat (tbX P ch M mat b F) (16*q) 16:=by
 obtain ⟨o1,o2,o3,o4,o5,o6,o7⟩:=ZH9 H
 obtain ⟨t1,t2,t3,t4,t5⟩:=ZCD H hq
 have hc:=H.hc
 have hM:=H.hM
 have hle:16*(q+1)*ch.toNat≤(tbO P ch b F).length:=by rw [o1]; exact Nat.mul_le_mul_right _ hq
 have hcl:(Zc7 ch (tbO P ch b F) (16*q) (16*(q+1))).length=16*ch.toNat:=by rw [ZmY hle]; congr 1; omega
 have hca:=ZDk (c:=ch) (f:=16*q) (t:=16*(q+1)) o2
 have hcb:ZaL ch (Zc7 ch (tbO P ch b F) (16*q) (16*(q+1)))=true:=Za5 hc hcl (by decide) hca
 obtain ⟨m1,m2,m3,m4⟩:=Zp5 H.hm
 have hc8:=Nat.mul_le_mul_left 16 (show ch.toNat≤8 by omega)
 have hm8:=Nat.mul_le_mul (show ch.toNat≤8 by omega) (show M.toNat≤8 by omega)
 have hdv:(Zc7 ch (tbO P ch b F) (16*q) (16*(q+1))).length / ch.toNat=16:=by rw [hcl,Nat.mul_div_cancel _ (by omega)]
 have hkl:(Zc7 ch (tbO P ch b F) (16*q) (16*(q+1))).length≤1000000:=by omega
 have hI:inE M 16 (tbI P ch M mat b F q)=0:=by
  unfold inE tbI
  simp only [t5]
  rw [if_neg (by rw [hcb,H.hm,Zro (a:=65536) (b:=65536) (c:=0) (d:=0) (by decide) (by decide) (by decide) (by decide)]; decide),if_neg (by simp),if_neg (by rw [hdv]; decide)]
 have hk:Zix [tbI P ch M mat b F q]:=by
  intro x hx
  rw [List.mem_singleton] at hx
  subst hx
  unfold tbI
  simp only [t5]
  omega
 obtain ⟨p1,p2,p3,p4,p5,p6⟩:=Zue hcb H.hm rfl hkl
 rw [hdv] at p3 p5
 have hP:paO M 16 (tbI P ch M mat b F q)=apL ch.toNat M.toNat mat (Zc7 ch (tbO P ch b F) (16*q) (16*(q+1))) (16*M.toNat):=by
  unfold paO
  rw [if_pos hI]
  unfold tbI
  simp only [t5]
  unfold grO grE
  rw [Zro (a:=65536) (b:=65536) (c:=0) (d:=0) (by decide) (by decide) (by decide) (by decide),p4]
  simp only [if_true]
  have hdc:(Zc7 ch (tbO P ch b F) (16*q) (16*(q+1))).length / ch.toNat*M.toNat=16*M.toNat:=by rw [hdv]
  have pa:=Zsp ch.toNat M.toNat mat (Zc7 ch (tbO P ch b F) (16*q) (16*(q+1))) (16*M.toNat)
  rw [← p3] at pa
  rw [ZF0 pa,p3]
 obtain ⟨c1,c2,c3⟩:=ZHN (ch:=M) (fr:=16) (xs:=[tbI P ch M mat b F q]) (by simp only [muB,Bool.or_eq_false_iff,decide_eq_false_iff_not]; omega) hk (by intro x hx; rw [List.mem_singleton] at hx; rw [hx]; exact hI) (by simp)
 refine ⟨hk,c1,?_⟩
 have hpt:=Zph (A:=ch.toNat) (B:=M.toNat) (M:=mat) (k:=ch) (l:=tbO P ch b F) (q:=16*q) (m:=16*(q+1)) rfl (by omega) (by omega) (by omega) hle
 rw [show 16*(q+1) - 16*q=16 by omega] at hpt
 have hall:=Zph (A:=ch.toNat) (B:=M.toNat) (M:=mat) (k:=ch) (l:=tbO P ch b F) (q:=16*(q+1)) (m:=tbA P F) rfl (by omega) (by omega) hq (by rw [o1]; exact Nat.le_refl _)
 have hX:tbX P ch M mat b F=apL ch.toNat M.toNat mat (tbO P ch b F) (16*q*M.toNat)++(apL ch.toNat M.toNat mat (Zc7 ch (tbO P ch b F) (16*q) (16*(q+1))) (16*M.toNat)++apL ch.toNat M.toNat mat (Zc7 ch (tbO P ch b F) (16*(q+1)) (tbA P F)) ((tbA P F - 16*(q+1))*M.toNat)):=by
  unfold tbX
  rw [← hall,← hpt,List.append_assoc]
 have hsub:ZvC M.toNat (tbX P ch M mat b F) (16*q) 16=paO M 16 (tbI P ch M mat b F q):=by
  rw [hP]
  unfold ZvC
  rw [hX,List.drop_append_of_le_length (by rw [Zd1]; exact Nat.le_refl _),List.drop_eq_nil_of_le (by rw [Zd1]; exact Nat.le_refl _),List.nil_append,List.take_append_of_le_length (by rw [Zd1]; exact Nat.le_refl _)]
  have:=Zd1 ch.toNat M.toNat mat (Zc7 ch (tbO P ch b F) (16*q) (16*(q+1))) (16*M.toNat)
  rw [List.take_of_length_le (by rw [this]; exact Nat.le_refl _)]
 rw [hsub]
 refine ZDs ?_ fun j=>by rw [c3,Zrk,ZvE,Int.add_zero]
 rw [c2,hP,Zd1,Nat.mul_comm]
 rfl
theorem ZIb {P:Ph} {ch M:Int} {mat b:List Int} {F q:Nat} {t r g:Int} (H:tbH P ch M mat b F) (hv:Zao t r g=true) (hq:16*(q+1)≤tbA P F) :
  mxE M 16 [tbI P ch M mat b F q] t r (tbG P ch M mat b F t r g q)=0∧mxC M 16 [tbI P ch M mat b F q] t r (tbG P ch M mat b F t r g q)=M∧mxT M 16 [tbI P ch M mat b F q] t r (tbG P ch M mat b F t r g q)=t∧mxR M 16 [tbI P ch M mat b F q] t r (tbG P ch M mat b F t r g q)=r∧mxG M 16 [tbI P ch M mat b F q] t r (tbG P ch M mat b F t r g q)=tbG P ch M mat b F t r g (q+1)∧tbS P ch M mat b F t r g q++mxO M 16 [tbI P ch M mat b F q] t r (tbG P ch M mat b F t r g q)=tbS P ch M mat b F t r g (q+1)∧(mxO M 16 [tbI P ch M mat b F q] t r (tbG P ch M mat b F t r g q)).length=16*M.toNat∧(mxO M 16 [tbI P ch M mat b F q] t r (tbG P ch M mat b F t r g q)).all ZbI=true:=by
 obtain ⟨o1,o2,o3,o4,o5,o6,o7⟩:=ZH9 H
 obtain ⟨k1,k2,k3⟩:=ZFk H hq
 have hM:=H.hM
 have hvq:Zao t r (tbG P ch M mat b F t r g q)=true:=ZuY hv _
 have hE:=ZF9 (ch:=M) (fr:=16) (t:=t) (r:=r) (g:=tbG P ch M mat b F t r g q) (by simp only [muB,Bool.or_eq_false_iff,decide_eq_false_iff_not]; omega) k1 (by simp) k2 hvq
 have hcb:chB M (muS M 16 [tbI P ch M mat b F q])=false:=by
  unfold Zhb at hE
  rw [if_neg (by rw [hvq]; decide)] at hE
  split at hE
  ·cases hE
  ·rename_i h1; simpa using h1
 have hml:(muS M 16 [tbI P ch M mat b F q]).length=16*M.toNat:=by rw [ZsN k2,Nat.mul_comm]; rfl
 have hl:(muS M 16 [tbI P ch M mat b F q]).length / M.toNat=16:=by rw [hml,Nat.mul_div_cancel _ (by omega)]
 have hO:mxO M 16 [tbI P ch M mat b F q] t r (tbG P ch M mat b F t r g q)=oAt t r (tbG P ch M mat b F t r g q) M (ZvC M.toNat (tbX P ch M mat b F) (16*q) 16) 16:=by
  unfold mxO Zql
  rw [if_pos k2,if_pos hE,hl,k3]
 have hs:=ZsR (t:=t) (r:=r) (g:=g) (c:=M) (s:=tbX P ch M mat b F) (q:=16*q) (m:=16) 16 (Nat.le_refl _)
 have hg:=ZsH (t:=t) (r:=r) (g:=g) (c:=M) (s:=tbX P ch M mat b F) (q:=16*q) (m:=16) 16 (Nat.le_refl _)
 refine ⟨?_,?_,?_,?_,?_,?_,?_,?_⟩
 ·unfold mxE; rw [if_pos k2,hE]
 ·unfold mxC Zrt; rw [if_pos k2,if_pos hE]
 ·unfold mxT Zvv; rw [if_pos k2,if_pos hE]
 ·unfold mxR Zvu; rw [if_pos k2,if_pos hE]
 ·unfold mxG Zvq; rw [if_pos k2,if_pos hE,hl,k3]; exact hg
 ·rw [hO]
  unfold tbS
  rw [List.append_assoc]
  congr 1
 ·unfold mxO Zql
  rw [if_pos k2,if_pos hE,hl,ZfU hcb 16 (by rw [hl]; exact Nat.le_refl _)]
 ·rw [hO]; exact Znd _
theorem ZNY {P:Ph} {ch M:Int} {mat b:List Int} {F q:Nat} {t r g:Int} (H:tbH P ch M mat b F) (hq:16*q≤tbA P F):(tbS P ch M mat b F t r g q).length=(13+16*q)*M.toNat∧(tbS P ch M mat b F t r g q).all ZbI=true:=by
 obtain ⟨o1,o2,o3,o4,o5,o6,o7⟩:=ZH9 H
 unfold tbS
 refine ⟨?_,?_⟩
 ·rw [List.length_append,List.length_replicate,ZfU o5 _ (by omega),← Nat.add_mul]
 ·rw [List.all_append,ZsV,Znd]
  rfl
theorem ZIa {P:Ph} {ch M:Int} {mat b:List Int} {F q:Nat} {t r g:Int} (H:tbH P ch M mat b F) (hq:16*q≤tbA P F):(tbS P ch M mat b F t r g q).take (16*q*M.toNat)=(List.replicate (13*M.toNat) 0++oAt t r g M (tbX P ch M mat b F) (tbA P F)).take (16*q*M.toNat):=by
 obtain ⟨o1,o2,o3,o4,o5,o6,o7⟩:=ZH9 H
 unfold tbS
 rw [← ZDG (t:=t) (r:=r) (g:=g) o5 hq (by omega)]
 rw [List.take_append,List.take_append,List.take_take,List.length_replicate,Nat.min_eq_left (by omega)]
theorem ZGH {P:Ph} {ch M:Int} {mat b:List Int} {F q:Nat} (H:tbH P ch M mat b F) (hq:16*q≤tbA P F):owE (pcS P ch b 3 F (16*q)) 16=0∧(owN (pcS P ch b 3 F (16*q)) 16=0↔16*(q+1)≤tbA P F):=by
 have hA:tbA P F≤400:=Zrl H H.hF
 have hF:=H.hF
 have hned:ned P ((16*q:Nat):Int)≤(F:Int):=(Zaz H.hp (n:=(F:Int)) (by omega) (k:=16*q) (by omega)).1 hq
 have ok:=(ZDL (ZEq H) (st:=3) (T:=F) (N:=16*q) (by decide) (Nat.le_refl _) (by omega) hned).1
 obtain ⟨w1,w2⟩:=ZGg ok (by decide) rfl (i:=16) (by decide)
 obtain ⟨t1,t2,t3⟩:=ZBc (ZEq H) (N:=16*q) (i:=16) hned (by omega)
 have hif:=Zaz H.hp (n:=(F:Int)) (by omega) (k:=16*q+16) (by omega)
 refine ⟨w1,w2.trans (t2.trans ?_)⟩
 rw [← hif]
 show 16*q+16≤tbA P F↔_
 omega
def fz (x:Fm):Nat:=(szK x.k).toNat*x.m.length
theorem ZDm (k:Int) (b:List UInt8) (n:Nat):(ZsB k b n).all ZbI=true:=by
 rw [List.all_eq_true]
 intro x hx
 simp only [ZsB,List.mem_map] at hx
 obtain ⟨i,_,rfl⟩:=hx
 have:=ZhL (ZAc (szK k) (rdF (szK k) (ZEM k) (chk (szK k).toNat b i)))
 simp only [ZbI,Bool.and_eq_true,decide_eq_true_eq]
 exact this
theorem ZHo {x:Fm} (hx:fmV x=true) {V:Nat} (hV:V≤300) {b:List UInt8} (hb:b.length=V*fz x):ZuL x.k b.length=0∧ZDn x.k b=ZsB x.k b (V*x.m.length):=by
 have h1:=ZpH hx
 have e:b.length=V*x.m.length*(szK x.k).toNat:=by rw [hb]; unfold fz; rw [Nat.mul_assoc,Nat.mul_comm x.m.length]
 have h2:0 < (szK x.k).toNat:=by omega
 have h3:V*x.m.length≤300*8:=Nat.mul_le_mul hV h1.2.2.2.2
 have hE:ZuL x.k b.length=0:=by
  unfold ZuL
  rw [if_neg (by omega),e,Nat.mul_div_cancel _ h2,if_neg (by omega),Nat.mul_mod_left,if_neg (by simp)]
 refine ⟨hE,?_⟩
 unfold ZDn
 rw [if_pos hE,e,Nat.mul_div_cancel _ h2]
def btR (l:List UInt8):Nat→List UInt8
 | 0=>l
 | n+1=>dT (btR l n) 256
def btO (l:List UInt8) (n:Nat):List UInt8:=(List.range n).map fun i=>byt (dN (btR l i) 256)
def btP (l:List UInt8) (n g:Nat):List UInt8:=(List.range n).map fun i=>if i < g then byt (dN (btR l i) 256) else 0
theorem ZzN (l:List UInt8) (n:Nat):(btO l n).length=n:=by simp [btO]
theorem ZzO (l:List UInt8) (n g:Nat):(btP l n g).length=n:=by simp [btP]
theorem ZDb (l:List UInt8) (n:Nat):btP l n 0=List.replicate n 0:=by
 apply List.ext_getElem
 ·simp [btP]
 ·intro i h1 h2
  simp [btP]
theorem ZFO (l:List UInt8) (n:Nat):btP l n n=btO l n:=by
 unfold btP btO
 apply List.map_congr_left
 intro i hi
 rw [List.mem_range] at hi
 rw [if_pos hi]
theorem ZDa (l:List UInt8) (n g:Nat):btP l n (g+1)=(btP l n g).set g (byt (dN (btR l g) 256)):=by
 apply List.ext_getElem
 ·simp [btP]
 ·intro i h1 h2
  rw [List.getElem_set]
  simp only [btP,List.getElem_map,List.getElem_range]
  by_cases e:g=i
  ·subst e; simp
  ·rw [if_neg e]
   by_cases h:i < g
   ·rw [if_pos h,if_pos (by omega)]
   ·rw [if_neg h,if_neg (by omega)]
theorem ZHv (x:Fm):0≤fmZ x∧fmZ x≤32:=by
 unfold fmZ
 split
 ·rename_i h
  have:=ZAr h
  omega
 ·decide
theorem ZFX (x:Fm) {w:Int} {B:Nat} (h0:0≤w) (hB:w≤(B:Int)):0≤w*fmZ x∧w*fmZ x≤((B*32:Nat):Int):=by
 obtain ⟨h1,h2⟩:=ZHv x
 refine ⟨Int.mul_nonneg h0 h1,?_⟩
 rw [Int.natCast_mul]
 exact Int.mul_le_mul hB h2 h1 (Int.natCast_nonneg _)
theorem ZF7:∀ i,i < 7→∀ j,j < 7→mxV (Zp3[i]?.getD []).length (Zp3[j]?.getD []).length (dfO (Zp3[i]?.getD []) (Zp3[j]?.getD []))=true:=by decide +kernel
theorem ZHJ (l l':List UInt8):mxV (ZsM l).length (ZsM l').length (dfO (ZsM l) (ZsM l'))=true:=ZF7 _ (by have:=Zm0 l 7; have:=Zm1 l 7 (by decide); omega) _ (by have:=Zm0 l' 7; have:=Zm1 l' 7 (by decide); omega)
def rtT (i:Nat):Int:=([48000,44100,96000,8000]:List Int)[i]?.getD 0
def fxT (l:List UInt8):Fm:=⟨1+dN l 7,rtT (dN (dT l 7) 4).toNat,ZsM (dT (dT l 7) 4)⟩
def fxU (l:List UInt8):List UInt8:=dT (dT (dT l 7) 4) 7
def fxP (l:List UInt8):Ph:=⟨mqN (fxT l).r 48000,mqD (fxT l).r 48000,0,0,0⟩
theorem ZLX:∀ i:Nat,i < 4→phV ⟨mqN (rtT i) 48000,mqD (rtT i) 48000,0,0,0⟩=true∧mqD (rtT i) 48000≤6*mqN (rtT i) 48000∧1000≤rtT i∧rtT i≤768000:=by decide +kernel
theorem ZLY (l:List UInt8):(dN (dT l 7) 4).toNat < 4:=by
 have h1:=Zm0 (dT l 7) 4
 have h2:=Zm1 (dT l 7) 4 (by decide)
 omega
theorem ZHA (l:List UInt8):fmV (fxT l)=true:=by
 have h1:=Zm0 l 7
 have h2:=Zm1 l 7 (by decide)
 obtain ⟨_,_,h3,h3b⟩:=ZLX _ (ZLY l)
 have h4:0 < szK (1+dN l 7):=by unfold szK; omega
 unfold fmV
 show (decide (0 < szK (1+dN l 7)) && decide (1000≤rtT (dN (dT l 7) 4).toNat) && decide (rtT (dN (dT l 7) 4).toNat≤768000) && chV (ZsM (dT (dT l 7) 4)))=true
 rw [ZE6,decide_eq_true h4,decide_eq_true h3,decide_eq_true h3b]
 rfl
theorem ZE3 (l:List UInt8):phV (fxP l)=true∧(fxP l).d≤6*(fxP l).n:=⟨(ZLX _ (ZLY l)).1,(ZLX _ (ZLY l)).2.1⟩
theorem ZNF (l:List UInt8):(cnR (fxT l) ⟨(fxT l).k,48000,(fxT l).m⟩).r=⟨((fxT l).m.length:Nat),fxP l,[]⟩:=by
 have xV:=ZHA l
 have hx:=ZpH xV
 have hy:fmV ⟨(fxT l).k,48000,(fxT l).m⟩=true:=by
  show (decide (0 < szK (fxT l).k) && decide ((1000:Int)≤48000) && decide ((48000:Int)≤768000) && chV (fxT l).m)=true
  rw [hx.2.2.1,decide_eq_true (show 0 < szK (fxT l).k by omega)]
  rfl
 have hE:cnE (fxT l) ⟨(fxT l).k,48000,(fxT l).m⟩=0:=by unfold cnE; rw [xV,hy]; rfl
 unfold cnR
 rw [if_pos hE]
 exact (ZDF (c:=((fxT l).m.length:Nat)) ⟨by omega,by omega⟩ (ZE3 l).1).2
theorem ZHp {a b:List Int} (ha:chV a=true) (hb:chV b=true):dfE a b=0∧dfN a b a=a.length∧dfN a b b=b.length:=by
 have h:dfE a b=0:=by unfold dfE; rw [ha,hb]; rfl
 exact ⟨h,by unfold dfN; rw [if_pos h],by unfold dfN; rw [if_pos h]⟩
theorem ZEr {P:Ph} {ch:Int} {b:List Int} {F:Nat} (H:pcH P ch b F):doE (pcS P ch b (if F=0 then 1 else 2) F 0) 1=0∧doR (pcS P ch b (if F=0 then 1 else 2) F 0) 1=pcS P ch b 3 F 0:=by
 by_cases h0:F=0
 ·rw [if_pos h0]
  obtain ⟨ok,hw,hq⟩:=ZDL H (st:=1) (T:=F) (N:=0) (by decide) (Nat.le_refl _) (by decide) (by rw [Zdc]; omega)
  have ha:doA (pcS P ch b 1 F 0) 1=true:=by simp [doA,pcS]
  have e:=do0 ok.v (by decide:(1:Int)≤1∧(1:Int)≤7) ha (fun h=>absurd h.2.1 (by show ¬ (1:Int)=2; decide))
  refine ⟨e,?_⟩
  unfold doR
  rw [if_pos e]
  simp [doT,ZsZ,pcS]
 ·rw [if_neg h0]
  exact ZDM H
theorem ZxB (l:List UInt8):Spec Tryz.prog 0 25 [.c (.lp ⟨0,0⟩ 0)] [(⟨0,0⟩,[.d (.list (LB l))])] [] (.agg [.d (.int .i64 (fxT l).k),.d (.int .i64 (fxT l).r),.d (.list (LI .i64 (fxT l).m))]) [(⟨0,0⟩,[.d (.list (LB (fxU l)))])] []:=by
 refine spec_of_E (X:=⟨Tryz.prog,tt,Tryz.f25.ntmps,1,fun _=>0,(tab [(21,Zjk),(8,Zlv)])⟩) (M:=[(1,[0,0,0,0,0,16229,0,0,0,0,0,0])]) (m:=5) rfl rfl ⟨Z7,ZI (Za Zjl (Za Zoo Zb)) _ rfl rfl⟩ Zs Tryz.func25 rfl (by decide) (by show (1:Nat)≤_; exact Nat.le_of_ble_eq_true rfl) ⟨by simp [V.has,C.has,ZF,Zz],by simp [C.has],by simp⟩ ?_
 simp (maxSteps:=1000000) only [↓Zn,Ze,Zd,Zm,gSt,gS0,Ya,Yb,↓reduceIte,reduceCtorEq,Yc,Yd,Ye,Yf,Yg,Yj,Yk,Yl,Ym,Yn,ZeD,ZbL,gE1,gE2,gE3,Zbe,ZR,Zaq,ZQ,Zbf,Z5,Zbd,ZS,ZL,Zar,Zap,Z4,Tryz.ntmps25,Tryz.results25,gTT]
 have h1:=Zm0 l 7
 have h2:=Zm1 l 7 (by decide)
 refine ⟨by kernel_rfl,⟨Zm0 _ _,Zm1 _ _ (by decide)⟩,⟨?_,rfl,rfl⟩,rfl⟩
 rw [IntWalk.i64_in (1+dN l 7) (by omega)]
 rfl
def Zjc:List V→Zf→Zr→Name→Option Ent
 | [.c (.lp n0 0)],[(m0,[.d (.list q_l)])],[],_=>some ⟨n0.lv≤1∧m0=n0∧q_l=LB (bys q_l),.agg [.d (.int .i64 (fxT (bys q_l)).k),.d (.int .i64 (fxT (bys q_l)).r),.d (.list (LI .i64 (fxT (bys q_l)).m))],[(n0,[.d (.list (LB (fxU (bys q_l))))])],[]⟩
 | _,_,_,_=>none
def Zbs:=And.intro (@Zjc.eq_1) (@Zjc.eq_1)
theorem Zv1:Snd Tryz.prog 25 Zjc:=by
 intro vs b k n e h hn hp
 unfold Zjc at h
 split at h
 ·cases h; obtain ⟨hl0,rfl,hq0⟩:=hp; obtain ⟨_,rfl⟩:=Zpc hq0; simp only [Zi,Zo,Zj,Zp]; exact Spec.ren1 (ZxB _) 0 (by simp [Za9,V.names,C.names,ZJ,ZK,ZF,Zz]) hl0
 ·cases h
theorem Zqz (l:List UInt8) (fk fr:Int) (fm:List Int) (w:Int) (hm:fm.length≤1000000) (hw:0≤w∧w≤1000):Spec Tryz.prog 0 26 [.c (.lp ⟨0,0⟩ 0),.agg [.d (.int .i64 fk),.d (.int .i64 fr),.d (.list (LI .i64 fm))],vI .i64 w] [(⟨0,0⟩,[.d (.list (LB l))])] [] (vL (LB (btO l (w*fmZ ⟨fk,fr,fm⟩).toNat))) [(⟨0,0⟩,[.d (.list (LB (btR l (w*fmZ ⟨fk,fr,fm⟩).toNat)))])] []:=by
 refine spec_of_E (X:=⟨Tryz.prog,tt,Tryz.f26.ntmps,1,fun s=>if s=13 then 2 else 0,(tab [(73,Zgy),(21,Zjk)])⟩) (M:=[(1000007,[6])]) (m:=229847) rfl rfl ⟨Z7,ZI (Za Zr7 (Za Zjl Zb)) _ rfl rfl⟩ Zs Tryz.func26 rfl (by decide) (by show (3:Nat)≤_; exact Nat.le_of_ble_eq_true rfl) ⟨by simp [V.has,C.has,ZF,Zz],by simp [C.has],by simp⟩ ?_
 simp (maxSteps:=1000000) only [↓Zn,Ze,Zd,Zm,gSt,gS0,Ya,Yb,↓reduceIte,reduceCtorEq,Yc,Yd,Ye,Yf,Yg,Yj,Yk,Yl,Ym,Yn,ZfJ,ZeD,gE1,gE2,gE3,Zbe,ZR,Zaq,ZQ,Zbf,Z5,Zbd,ZS,ZL,Zar,Zap,Z4,Tryz.ntmps26,Tryz.results26,gTT]
 refine ⟨hm,?_⟩
 obtain ⟨z1,z2⟩:=ZFX ⟨fk,fr,fm⟩ (w:=w) (B:=1000) hw.1 (by omega)
 rw [IntWalk.i64_in (w*fmZ ⟨fk,fr,fm⟩) (by omega)]
 generalize w*fmZ ⟨fk,fr,fm⟩=z at *
 refine ⟨by omega,?_⟩
 refine Zk (fun g=>⟨[(16,vI .i64 (g:Nat))],[(⟨0,0⟩,[.d (.list (LB (btR l g)))])],[(⟨1,13⟩,⟨true,1,LB (btP l z.toNat g)⟩)]⟩) (fun g=>g≤z.toNat) (fun g=>z.toNat - g) (·+1) 0 (Nat.zero_le _) ?_ ?_
 ·simp (maxSteps:=1000000) only [↓Zn,Ze,Zd,Zm,gSt,gS0,Ya,Yb,↓reduceIte,reduceCtorEq,Yc,Yd,Ye,Yf,Yg,Yj,Yk,Yl,Ym,Yn,ZfJ,ZeD,gE1,gE2,gE3,Zbe,ZR,Zaq,ZQ,Zbf,Z5,Zbd,ZS,ZL,Zar,Zap,Z4,Tryz.ntmps26,Tryz.results26,gTT]
  simp [ZDb,LB,LI,btR]
 intro g hg
 simp (maxSteps:=1000000) only [↓Zn,Ze,Zd,Zm,gSt,gS0,Ya,Yb,↓reduceIte,reduceCtorEq,Yc,Yd,Ye,Yf,Yg,Yj,Yk,Yl,Ym,Yn,ZfJ,ZeD,gE1,gE2,gE3,Zbe,ZR,Zaq,ZQ,Zbf,Z5,Zbd,ZS,ZL,Zar,Zap,Z4,Tryz.ntmps26,Tryz.results26,gTT]
 have hl:=ZzO l z.toNat g
 have hd1:=Zm0 (btR l g) 256
 have hd2:=Zm1 (btR l g) 256 (by decide)
 have hb:UInt8.ofNat (dN (btR l g) 256).toNat=byt (dN (btR l g) 256):=by
  unfold byt
  rw [Int.emod_eq_of_lt hd1 hd2]
 refine ⟨fun h=>?_,fun h=>?_⟩
 ·have h1:=of_decide_eq_true h
  refine ⟨by omega,by omega,⟨(ZY _ (by omega)).symm,rfl,?_⟩,by omega,by omega⟩
  rw [ZDa,ZGR]
  simp [LB,LI,List.map_set]
 ·have:g=z.toNat:=by have:=of_decide_eq_false h; omega
  rw [this,ZzO]
  exact ⟨rfl,(ZFO ..).symm,rfl⟩
def Zeq:List V→Zf→Zr→Name→Option Ent
 | [.c (.lp n0 0),.agg [.d (.int .i64 fk),.d (.int .i64 fr),.d (.list q_fm)],.c (.d (.int .i64 w))],[(m0,[.d (.list q_l)])],[],_=>some ⟨(Zc q_fm).length≤1000000∧(0≤w∧w≤1000)∧n0.lv≤1∧m0=n0∧q_fm=LI .i64 (Zc q_fm)∧q_l=LB (bys q_l),vL (LB (btO (bys q_l) (w*fmZ ⟨fk,fr,(Zc q_fm)⟩).toNat)),[(n0,[.d (.list (LB (btR (bys q_l) (w*fmZ ⟨fk,fr,(Zc q_fm)⟩).toNat)))])],[]⟩
 | _,_,_,_=>none
def ZaE:=And.intro (@Zeq.eq_1) (@Zeq.eq_1)
theorem ZnV:Snd Tryz.prog 26 Zeq:=by
 intro vs b k n e h hn hp
 unfold Zeq at h
 split at h
 ·cases h; obtain ⟨hp0,hp1,hl0,rfl,hq0,hq1⟩:=hp; obtain ⟨_,rfl⟩:=Zq hq0; obtain ⟨_,rfl⟩:=Zpc hq1; simp only [Zi,Zo,Zj,Zp] at hp0 hp1 ⊢; exact Spec.ren1 (Zqz _ _ _ _ _ hp0 hp1) 0 (by simp [Za9,V.names,C.names,ZJ,ZK,ZF,Zz]) hl0
 ·cases h
end Go.Vam
