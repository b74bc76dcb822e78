/- A part of the proof. Conditions: none. -/
import Derived.Test.YtmpbpijnbmpbhaaGreatBMa
section
set_option linter.unusedVariables false
set_option linter.defProp false
set_option linter.unusedSimpArgs false
set_option maxRecDepth 40000
set_option maxHeartbeats 4000000
namespace Go.Vam
open Go.Proofs
open Nat renaming reduceShiftRight→Ya,reduceMod→Yb,reduceEqDiff→Yc,reduceLT→Yd,reduceLeDiff→Ye,reduceAdd→Yf,reduceMul→Yg
open Int renaming reduceLE→Yj,reduceLT→Yk,reduceNeg→Yl,reduceAdd→Ym,reduceToNat→Yn
def inE (ch fr:Int) (x:Inp):Int:=if (!ZaL x.c x.l || !mxV x.a x.b x.m || !Zcs x.f x.t x.n x.i)=true then 1 else if (x.a != x.c || x.b != ch)=true then 11 else if fr < ((x.l.length / x.c.toNat:Nat):Int) then 2 else 0
def paC (ch fr:Int) (x:Inp):Int:=if inE ch fr x=0 then x.b else 0
def paO (ch fr:Int) (x:Inp):List Int:=if inE ch fr x=0 then grO x.f x.t x.n x.i x.b (apO x.a x.b x.m x.c x.l) else []
theorem ZHF {ch fr:Int} {x:Inp} (h:inE ch fr x=0):ZaL x.c x.l=true∧mxV x.a x.b x.m=true∧Zcs x.f x.t x.n x.i=true∧x.a=x.c∧x.b=ch∧((x.l.length / x.c.toNat:Nat):Int)≤fr:=by
 unfold inE at h
 split at h
 ·cases h
 ·rename_i h1
  split at h
  ·cases h
  ·rename_i h2
   split at h
   ·cases h
   ·simp only [Bool.or_eq_true,Bool.not_eq_true',not_or,Bool.not_eq_false,bne_iff_ne,ne_eq,Decidable.not_not] at h1 h2
    exact ⟨h1.1.1,h1.1.2,h1.2,h2.1,h2.2,by omega⟩
theorem Zsp (a b:Nat) (m l:List Int) (n:Nat):(apL a b m l n).all ZbI=true:=by
 rw [List.all_eq_true]
 intro x hx
 simp only [apL,List.mem_map] at hx
 obtain ⟨i,_,rfl⟩:=hx
 have:=ZhL ((Ziw (fun c=>atL m (i % b*a+c)) (fun c=>atL l (i / b*a+c)) a+16384) / 32768)
 simp only [ZbI,apV,Bool.and_eq_true]
 exact ⟨decide_eq_true this.1,decide_eq_true this.2⟩
theorem Zue {a b c:Int} {m l:List Int} (hb:ZaL c l=true) (hm:mxV a b m=true) (hca:a=c) (hl:l.length≤1000000) :
  apE a b m c l=0∧apC a b m c l=b∧apO a b m c l=apL a.toNat b.toNat m l (l.length / a.toNat*b.toNat)∧ZaL b (apO a b m c l)=true∧(apO a b m c l).length=l.length / c.toNat*b.toNat∧(apO a b m c l).length≤524288:=by
 have hE:=ZzF hm hb hca.symm
 have hO:apO a b m c l=apL a.toNat b.toNat m l (l.length / a.toNat*b.toNat):=by simp [apO,hE]
 have hz:=Zkc hb hl
 have hB:=(Zp5 hm).2.1
 have hlen:(apO a b m c l).length=l.length / c.toNat*b.toNat:=by rw [hO,Zd1,hca]
 refine ⟨hE,by simp [apC,hE],hO,Za5 hB hlen hz (by rw [hO]; exact Zsp ..),hlen,?_⟩
 rw [hlen]
 exact Nat.le_trans (Nat.mul_le_mul hz (show b.toNat≤8 by omega)) (by decide)
theorem ZqR (c:Int) (l:List Int) (hl:l.length≤1000000):Spec Tryz.prog 0 223 [.agg [.d (.int .i64 c),.d (.list (LI .i32 l))]] [] [] (vI .i64 (if ZaL c l=true then ((l.length / c.toNat:Nat):Int) else 0)) [] []:=by
 refine spec_of_E (X:=⟨Tryz.prog,tt,Tryz.f223.ntmps,1,fun _=>0,(tab [(62,ZaR)])⟩) (M:=[]) (m:=39) rfl rfl ⟨Z7,ZI (Za Zax Zb) _ rfl rfl⟩ Zs Tryz.func223 rfl (by decide) (by show (1:Nat)≤_; exact Nat.le_of_ble_eq_true rfl) ⟨by simp [V.has,C.has,Zz],by simp [C.has],by simp⟩ ?_
 simp (maxSteps:=1000000) only [↓Zn,Ze,Zd,Zm,gSt,gS0,Ya,Yb,↓reduceIte,reduceCtorEq,Yc,Yd,Ye,Yf,Yg,Yj,Yk,Yl,Ym,Yn,ZD,gE1,gE2,gE3,Zbe,ZR,Zaq,ZQ,Zbf,Z5,Zbd,ZS,ZL,Zar,Zap,Z4,Tryz.ntmps223,Tryz.results223,gTT]
 refine ⟨hl,fun h=>?_,fun h=>?_⟩
 ·simp [h]
 have h1:ZaL c l=true:=by simpa using h
 have h2:ZwS c l.length=false:=by
  unfold ZaL at h1
  simp only [Bool.and_eq_true,Bool.not_eq_true'] at h1
  exact h1.1
 obtain ⟨c1,c2,_⟩:=Zd4 h2
 rw [if_pos h1,Int.tdiv_eq_ediv_of_nonneg (by omega)]
 have e:(l.length:Int) / c=((l.length / c.toNat:Nat):Int):=by
  have:c=(c.toNat:Int):=by omega
  rw [this]
  exact (Int.natCast_ediv ..).symm
 have hle:l.length / c.toNat≤l.length:=Nat.div_le_self ..
 rw [e]
 have c0:¬ c=0:=by omega
 generalize l.length / c.toNat=z at *
 rw [IntWalk.i64_in (z:Int) (by omega)]
 exact ⟨c0,rfl⟩
def ZeF:List V→Zf→Zr→Name→Option Ent
 | [.agg [.d (.int .i64 c),.d (.list q_l)]],[],[],_=>some ⟨(Zc q_l).length≤1000000∧q_l=LI .i32 (Zc q_l),vI .i64 (if ZaL c (Zc q_l)=true then (((Zc q_l).length / c.toNat:Nat):Int) else 0),[],[]⟩
 | _,_,_,_=>none
def Zov:=And.intro (@ZeF.eq_1) (@ZeF.eq_1)
theorem Zow:Snd Tryz.prog 223 ZeF:=by
 intro vs b k n e h hn hp
 unfold ZeF at h
 split at h
 ·cases h; obtain ⟨hp0,hq0⟩:=hp; obtain ⟨_,rfl⟩:=Zq hq0; simp only [Zi,Zo,Zj,Zp] at hp0 ⊢; exact (ZqR _ _ hp0).lift rfl _
 ·cases h
theorem ZB2 (c:Int) (l:List Int) (a b:Int) (m:List Int) (f t n i:Int) (ch fr:Int) (hl:l.length≤1000000) (hm:m.length≤1000000):Spec Tryz.prog 0 167 [.agg [.d (.int .i64 c),.d (.list (LI .i32 l)),.d (.int .i64 a),.d (.int .i64 b),.d (.list (LI .i64 m)),.d (.int .i64 f),.d (.int .i64 t),.d (.int .i64 n),.d (.int .i64 i)],vI .i64 ch,vI .i64 fr] [] [] (.tup [.agg [.int .i64 (paC ch fr ⟨c,l,a,b,m,f,t,n,i⟩),.list (LI .i32 (paO ch fr ⟨c,l,a,b,m,f,t,n,i⟩))],.int .i64 (inE ch fr ⟨c,l,a,b,m,f,t,n,i⟩)]) [] []:=by
 refine sE (md:=fun _=>0) (L:=[(62,ZaR),(221,Zfe),(222,Zgk),(223,ZeF),(224,Zgp),(225,Zof)]) [(1,[0,0,0,0,0,70370354665935,0,0,0,0,0,70370346408399,0,0,0,0,0]),(3,[0,0,0,0,0,105494060472783,0,0,0,0,0,103630044666319,0,0,0]),(8,[0,0,0,0,0,518814747442899066319,0,0,0,0,0,0])] 70369817926095 (Za Zax (Za Zjj (Za ZrR (Za Zow (Za ZrX (Za ZyE Zb)))))) Tryz.func167 rfl rfl rfl ?_
 simp (maxSteps:=1000000) only [↓Zn,Ze,Zd,Zm,gSt,gS0,Ya,Yb,↓reduceIte,reduceCtorEq,Yc,Yd,Ye,Yf,Yg,Yj,Yk,Yl,Ym,Yn,ZD,Zay,ZrQ,Zov,ZrW,ZyD,gE1,gE2,gE3,Zbe,ZR,Zaq,ZQ,Zbf,Z5,Zbd,ZS,ZL,Zar,Zap,Z4,Tryz.ntmps167,Tryz.results167,gTT]
 refine ⟨hl,fun _=>hm,fun h=>?_,fun h=>⟨fun h2=>?_,fun h2=>⟨hl,fun h3=>?_,fun h3=>?_⟩⟩⟩
 ·have e:inE ch fr ⟨c,l,a,b,m,f,t,n,i⟩=1:=by unfold inE; rw [if_pos h]
  simp [paC,paO,e,Zw]
 ·have e:inE ch fr ⟨c,l,a,b,m,f,t,n,i⟩=11:=by unfold inE; rw [if_neg (by simp only; rw [h]; decide),if_pos h2]
  simp [paC,paO,e,Zw]
 ·have hb:ZaL c l=true:=by simp at h; exact h.1.1
  rw [if_pos hb] at h3
  have e:inE ch fr ⟨c,l,a,b,m,f,t,n,i⟩=2:=by unfold inE; rw [if_neg (by simp only; rw [h]; decide),if_neg (by simp only; rw [h2]; decide),if_pos (of_decide_eq_true h3)]
  simp [paC,paO,e,Zw]
 ·have hb:ZaL c l=true:=by simp at h; exact h.1.1
  have hx:mxV a b m=true:=by simp at h; exact h.1.2
  have hv:Zcs f t n i=true:=by simp at h; exact h.2
  have hac:a=c:=by simp at h2; exact h2.1
  rw [if_pos hb] at h3
  have e:inE ch fr ⟨c,l,a,b,m,f,t,n,i⟩=0:=by unfold inE; rw [if_neg (by simp only; rw [h]; decide),if_neg (by simp only; rw [h2]; decide),if_neg (of_decide_eq_false h3)]
  obtain ⟨q1,q2,q3,q4,q5,q6⟩:=Zue hb hx hac hl
  have hE:grE f t n i b (apO a b m c l)=0:=by simp [grE,hv,q4]
  refine ⟨⟨hm,hl⟩,by omega,?_⟩
  rw [q2,hE,e]
  simp [paC,paO,e,grC,hE]
def Zou:List V→Zf→Zr→Name→Option Ent
 | [.agg [.d (.int .i64 c),.d (.list q_l),.d (.int .i64 a),.d (.int .i64 b),.d (.list q_m),.d (.int .i64 f),.d (.int .i64 t),.d (.int .i64 n),.d (.int .i64 i)],.c (.d (.int .i64 ch)),.c (.d (.int .i64 fr))],[],[],_=>some ⟨(Zc q_l).length≤1000000∧(Zc q_m).length≤1000000∧q_l=LI .i32 (Zc q_l)∧q_m=LI .i64 (Zc q_m),.tup [.agg [.int .i64 (paC ch fr ⟨c,(Zc q_l),a,b,(Zc q_m),f,t,n,i⟩),.list (LI .i32 (paO ch fr ⟨c,(Zc q_l),a,b,(Zc q_m),f,t,n,i⟩))],.int .i64 (inE ch fr ⟨c,(Zc q_l),a,b,(Zc q_m),f,t,n,i⟩)],[],[]⟩
 | _,_,_,_=>none
def Zjq:=And.intro (@Zou.eq_1) (@Zou.eq_1)
theorem ZyR:Snd Tryz.prog 167 Zou:=by
 intro vs b k n e h hn hp
 unfold Zou at h
 split at h
 ·cases h; obtain ⟨hp0,hp1,hq0,hq1⟩:=hp; obtain ⟨_,rfl⟩:=Zq hq0; obtain ⟨_,rfl⟩:=Zq hq1; simp only [Zi,Zo,Zj,Zp] at hp0 hp1 ⊢; exact (ZB2 _ _ _ _ _ _ _ _ _ _ _ hp0 hp1).lift rfl _
 ·cases h
def okZ (z:List Int):Prop:=∀ j:Nat,-1099511627776≤z[j]?.getD 0∧z[j]?.getD 0≤1099511627776
def Zt9 (acc ys:List Int):List Int:=(List.range acc.length).map fun j=>acc[j]?.getD 0+ys[j]?.getD 0
def ZwL (acc ys:List Int) (n:Nat):List Int:=(List.range acc.length).map fun j=>if j < n then acc[j]?.getD 0+ys[j]?.getD 0 else acc[j]?.getD 0
theorem ZgN (acc ys:List Int):(Zt9 acc ys).length=acc.length:=by simp [Zt9]
theorem ZC5 (acc ys:List Int) (n:Nat):(ZwL acc ys n).length=acc.length:=by simp [ZwL]
theorem Zzz (acc ys:List Int):ZwL acc ys 0=acc:=by
 apply List.ext_getElem
 ·simp [ZwL]
 ·intro i h1 h2; simp [ZwL,List.getElem?_eq_getElem h2]
theorem ZC3 (acc ys:List Int):ZwL acc ys ys.length=Zt9 acc ys:=by
 apply List.map_congr_left
 intro j hj
 by_cases h:j < ys.length
 ·rw [if_pos h]
 ·rw [if_neg h,List.getElem?_eq_none (Nat.le_of_not_lt h)]; simp
theorem ZC4 {acc ys:List Int} {n:Nat} (h:n < acc.length):(ZwL acc ys n)[n]?.getD 0=acc[n]?.getD 0:=by
 simp [ZwL,h]
theorem Zzy {acc ys:List Int} {n:Nat} (h:n < acc.length):ZwL acc ys (n+1)=(ZwL acc ys n).set n (acc[n]?.getD 0+ys[n]?.getD 0):=by
 apply List.ext_getElem
 ·simp [ZwL]
 ·intro i h1 h2
  simp only [ZwL,List.getElem_map,List.getElem_range,List.getElem_set]
  by_cases e:n=i
  ·subst e; simp
  ·rw [if_neg e]
   by_cases h:i < n
   ·rw [if_pos h,if_pos (by omega)]
   ·rw [if_neg h,if_neg (by omega)]
theorem ZmP (acc ys:List Int) (j:Nat) (h:ys.length≤acc.length):(Zt9 acc ys)[j]?.getD 0=acc[j]?.getD 0+ys[j]?.getD 0:=by
 unfold Zt9
 by_cases hj:j < acc.length
 ·rw [List.getElem?_map,List.getElem?_range hj]; rfl
 ·rw [List.getElem?_eq_none (by simp; omega),List.getElem?_eq_none (by omega:acc.length≤j),List.getElem?_eq_none (by omega:ys.length≤j)]; rfl
theorem ZLN (a b c d k:Int) (l:List Int) (j:Nat):-8388608≤gV a b c d k l j∧gV a b c d k l j≤8388607:=by
 unfold gV ZgP
 split
 ·decide
 ·exact ZhL _
theorem ZBb (ch fr:Int) (x:Inp) (j:Nat):-8388608≤(paO ch fr x)[j]?.getD 0∧(paO ch fr x)[j]?.getD 0≤8388607:=by
 unfold paO grO
 split
 ·split
  ·unfold gO
   rw [List.getElem?_map]
   cases h:(List.range (apO x.a x.b x.m x.c x.l).length)[j]? with
   | none=>simp
   | some y=>exact ZLN ..
  ·simp
 ·simp
theorem Zni {ch fr:Int} {x:Inp} (hf:0≤fr) (hl:x.l.length≤1000000):(paO ch fr x).length≤ch.toNat*fr.toNat:=by
 unfold paO
 split
 ·rename_i h
  obtain ⟨h1,h2,h3,h4,h5,h6⟩:=ZHF h
  obtain ⟨q1,q2,q3,q4,q5,q6⟩:=Zue h1 h2 h4 hl
  unfold grO
  split
  ·rw [ZAJ,q5,← h5,Nat.mul_comm]
   exact Nat.mul_le_mul_left _ (by omega)
  ·exact Nat.zero_le _
 ·exact Nat.zero_le _
def ZiA (ch fr:Int):List Inp→List Int→List Int×Int
 | [],acc=>(acc,0)
 | x::xs,acc=>if inE ch fr x=0 then ZiA ch fr xs (Zt9 acc (paO ch fr x)) else (Zt9 acc (paO ch fr x),inE ch fr x)
theorem ZCm (c:Int) (l:List Int) (a b:Int) (m:List Int) (f t n i:Int) (ch fr:Int) (q:Nat) (z:List Int) (hl:l.length≤1000000) (hm:m.length≤1000000) (hf:0≤fr) (hq:z.length=ch.toNat*fr.toNat) (hq2:q=z.length) (hzl:z.length≤1000000) (hz:okZ z):Spec Tryz.prog 0 166 [.agg [.d (.int .i64 c),.d (.list (LI .i32 l)),.d (.int .i64 a),.d (.int .i64 b),.d (.list (LI .i64 m)),.d (.int .i64 f),.d (.int .i64 t),.d (.int .i64 n),.d (.int .i64 i)],.c (.lp ⟨0,0⟩ 0),.c (.lp ⟨0,1⟩ 0),.c (.lp ⟨0,2⟩ 0)] [(⟨0,0⟩,[.d (.int .i64 ch)]),(⟨0,1⟩,[.d (.int .i64 fr)]),(⟨0,2⟩,[.arr ⟨0,3⟩ q])] [(⟨0,3⟩,⟨true,1,(LI .i64 z)⟩)] (vI .i64 (inE ch fr ⟨c,l,a,b,m,f,t,n,i⟩)) [(⟨0,0⟩,[.d (.int .i64 ch)]),(⟨0,1⟩,[.d (.int .i64 fr)]),(⟨0,2⟩,[.arr ⟨0,3⟩ q])] [(⟨0,3⟩,⟨true,1,(LI .i64 (Zt9 z (paO ch fr ⟨c,l,a,b,m,f,t,n,i⟩)))⟩)]:=by
 refine spec_of_E (X:=⟨Tryz.prog,tt,Tryz.f166.ntmps,1,fun _=>0,(tab [(167,Zou)])⟩) (M:=[]) (m:=3933183) rfl rfl ⟨Z7,ZI (Za ZyR Zb) _ rfl rfl⟩ Zs Tryz.func166 rfl (by decide) (by show (4:Nat)≤_; exact Nat.le_of_ble_eq_true rfl) ⟨by simp [V.has,C.has,Zz],by simp [C.has],by simp⟩ ?_
 simp (maxSteps:=1000000) only [↓Zn,Ze,Zd,Zm,gSt,gS0,Ya,Yb,↓reduceIte,reduceCtorEq,Yc,Yd,Ye,Yf,Yg,Yj,Yk,Yl,Ym,Yn,Zjq,gE1,gE2,gE3,Zbe,ZR,Zaq,ZQ,Zbf,Z5,Zbd,ZS,ZL,Zar,Zap,Z4,Tryz.ntmps166,Tryz.results166,gTT]
 refine ⟨⟨hl,hm⟩,?_⟩
 have hpl:=Zni (ch:=ch) (x:=⟨c,l,a,b,m,f,t,n,i⟩) hf hl
 have hpi:=ZBb ch fr ⟨c,l,a,b,m,f,t,n,i⟩
 generalize paO ch fr ⟨c,l,a,b,m,f,t,n,i⟩=y at *
 rw [← hq] at hpl
 refine Zk (fun g=>⟨[(20,vI .i64 (g:Nat))],[],[(⟨0,3⟩,⟨true,1,LI .i64 (ZwL z y g)⟩)]⟩) (fun g=>g≤y.length) (fun g=>y.length - g) (·+1) 0 (Nat.zero_le _) ?_ ?_
 ·simp (maxSteps:=1000000) only [↓Zn,Ze,Zd,Zm,gSt,gS0,Ya,Yb,↓reduceIte,reduceCtorEq,Yc,Yd,Ye,Yf,Yg,Yj,Yk,Yl,Ym,Yn,Zjq,gE1,gE2,gE3,Zbe,ZR,Zaq,ZQ,Zbf,Z5,Zbd,ZS,ZL,Zar,Zap,Z4,Tryz.ntmps166,Tryz.results166,gTT]
  rw [Zzz]
  exact ⟨rfl,rfl⟩
 intro g hg
 simp (maxSteps:=1000000) only [↓Zn,Ze,Zd,Zm,gSt,gS0,Ya,Yb,↓reduceIte,reduceCtorEq,Yc,Yd,Ye,Yf,Yg,Yj,Yk,Yl,Ym,Yn,Zjq,gE1,gE2,gE3,Zbe,ZR,Zaq,ZQ,Zbf,Z5,Zbd,ZS,ZL,Zar,Zap,Z4,Tryz.ntmps166,Tryz.results166,gTT]
 have hal:=ZC5 z y g
 refine ⟨fun h1=>?_,fun h1=>?_⟩
 ·have hgy:g < y.length:=by have:=of_decide_eq_true h1; omega
  have b1:=hz g
  have b2:=hpi g
  rw [ZC4 (by omega),IntWalk.i64_in (y[g]?.getD 0) (by omega),IntWalk.i64_in (z[g]?.getD 0+y[g]?.getD 0) (by omega),Zzy (by omega)]
  exact ⟨by omega,by omega,by omega,by omega,by omega,⟨(ZY _ (by omega)).symm,rfl⟩,by omega,by omega⟩
 ·have:g=y.length:=by have:=of_decide_eq_false h1; omega
  rw [this,ZC3]
def Zo2:List V→Zf→Zr→Name→Option Ent
 | [.agg [.d (.int .i64 c),.d (.list q_l),.d (.int .i64 a),.d (.int .i64 b),.d (.list q_m),.d (.int .i64 f),.d (.int .i64 t),.d (.int .i64 n),.d (.int .i64 i)],.c (.lp n0 0),.c (.lp n1 0),.c (.lp n2 0)],[(m0,[.d (.int .i64 ch)]),(m1,[.d (.int .i64 fr)]),(m2,[.arr n3 q])],[(j0,⟨true,1,q_z⟩)],_=>some ⟨(Zc q_l).length≤1000000∧(Zc q_m).length≤1000000∧0≤fr∧(Zc q_z).length=ch.toNat*fr.toNat∧q=(Zc q_z).length∧(Zc q_z).length≤1000000∧okZ (Zc q_z)∧n0.lv≤1∧n1.lv≤1∧n2.lv≤1∧n3.lv≤1∧m0=n0∧m1=n1∧m2=n2∧j0=n3∧n1≠n0∧n2≠n0∧n2≠n1∧n3≠n0∧n3≠n1∧n3≠n2∧q_l=LI .i32 (Zc q_l)∧q_m=LI .i64 (Zc q_m)∧q_z=LI .i64 (Zc q_z),vI .i64 (inE ch fr ⟨c,(Zc q_l),a,b,(Zc q_m),f,t,n,i⟩),[(n0,[.d (.int .i64 ch)]),(n1,[.d (.int .i64 fr)]),(n2,[.arr n3 q])],[(n3,⟨true,1,(LI .i64 (Zt9 (Zc q_z) (paO ch fr ⟨c,(Zc q_l),a,b,(Zc q_m),f,t,n,i⟩)))⟩)]⟩
 | _,_,_,_=>none
def ZjY:=And.intro (@Zo2.eq_1) (@Zo2.eq_1)
theorem Zzd:Snd Tryz.prog 166 Zo2:=by
 intro vs b k n e h hn hp
 unfold Zo2 at h
 split at h
 ·cases h; obtain ⟨hp0,hp1,hp2,hp3,hp4,hp5,hp6,hl0,hl1,hl2,hl3,rfl,rfl,rfl,rfl,hd10,hd20,hd21,hd30,hd31,hd32,hq0,hq1,hq2⟩:=hp; obtain ⟨_,rfl⟩:=Zq hq0; obtain ⟨_,rfl⟩:=Zq hq1; obtain ⟨_,rfl⟩:=Zq hq2; simp only [Zi,Zo,Zj,Zp] at hp0 hp1 hp2 hp3 hp4 hp5 hp6 ⊢; exact Spec.ren4 (ZCm _ _ _ _ _ _ _ _ _ _ _ _ _ hp0 hp1 hp2 hp3 hp4 hp5 hp6) 0 1 2 3 (by simp [Za9,V.names,C.names,ZJ,ZK,Zz]) hl0 hl1 hl2 hl3 hd10 hd20 hd21 hd30 hd31 hd32
 ·cases h
theorem ZiM (ch fr:Int):∀ (xs:List Inp) (z:List Int),(ZiA ch fr xs z).1.length=z.length
 | [],z=>rfl
 | x::xs,z=>by
  unfold ZiA
  split
  ·rw [ZiM ch fr xs,ZgN]
  ·exact ZgN ..
def ZNr (z:List Int):Prop:=∀ j:Nat,z[j]?.getD 0=0
def Zix (xs:List Inp):Prop:=∀ x∈xs,x.l.length≤1000000∧x.m.length≤1000000
theorem ZBO (xs:List Inp) (ch fr:Int) (q:Nat) (z:List Int) (hf:0≤fr) (hq:z.length=ch.toNat*fr.toNat) (hq2:q=z.length) (hzl:z.length≤1000000) (hz:ZNr z) (hk:Zix xs) (hx:xs.length≤32):Spec Tryz.prog 0 165 [.c (.fn 166 [(⟨0,0⟩,0),(⟨0,1⟩,0),(⟨0,2⟩,0)]),vL (LX xs)] [(⟨0,0⟩,[.d (.int .i64 ch)]),(⟨0,1⟩,[.d (.int .i64 fr)]),(⟨0,2⟩,[.arr ⟨0,3⟩ q])] [(⟨0,3⟩,⟨true,1,(LI .i64 z)⟩)] (vI .i64 (ZiA ch fr xs z).2) [(⟨0,0⟩,[.d (.int .i64 ch)]),(⟨0,1⟩,[.d (.int .i64 fr)]),(⟨0,2⟩,[.arr ⟨0,3⟩ q])] [(⟨0,3⟩,⟨true,1,(LI .i64 (ZiA ch fr xs z).1)⟩)]:=by
 refine spec_of_E (X:=⟨Tryz.prog,tt,Tryz.f165.ntmps,1,fun _=>0,(tab [(166,Zo2)])⟩) (M:=[]) (m:=266195) rfl rfl ⟨Z7,ZI (Za Zzd Zb) _ rfl rfl⟩ Zs Tryz.func165 rfl (by decide) (by show (2:Nat)≤_; exact Nat.le_of_ble_eq_true rfl) ⟨by simp [V.has,C.has,Zz],by simp [C.has],by simp⟩ ?_
 simp (maxSteps:=1000000) only [↓Zn,Ze,Zd,Zm,gSt,gS0,Ya,Yb,↓reduceIte,reduceCtorEq,Yc,Yd,Ye,Yf,Yg,Yj,Yk,Yl,Ym,Yn,ZjY,gE1,gE2,gE3,Zbe,ZR,Zaq,ZQ,Zbf,Z5,Zbd,ZS,ZL,Zar,Zap,Z4,Tryz.ntmps165,Tryz.results165,gTT]
 refine Zk (fun g:Nat×List Int=>⟨[(10,vI .i64 (g.1:Nat))],[],[(⟨0,3⟩,⟨true,1,LI .i64 g.2⟩)]⟩) (fun g=>g.1≤xs.length∧ZiA ch fr (xs.drop g.1) g.2=ZiA ch fr xs z∧g.2.length=z.length∧∀ j:Nat,-((g.1:Int)*8388608)≤g.2[j]?.getD 0∧g.2[j]?.getD 0≤(g.1:Int)*8388608) (fun g=>xs.length - g.1) (fun g=>(g.1+1,Zt9 g.2 (paO ch fr (xs[g.1]?.getD Zym)))) (0,z) ⟨Nat.zero_le _,rfl,rfl,fun j=>by rw [hz j]; omega⟩ ?_ ?_
 ·simp (maxSteps:=1000000) only [↓Zn,Ze,Zd,Zm,gSt,gS0,Ya,Yb,↓reduceIte,reduceCtorEq,Yc,Yd,Ye,Yf,Yg,Yj,Yk,Yl,Ym,Yn,ZjY,gE1,gE2,gE3,Zbe,ZR,Zaq,ZQ,Zbf,Z5,Zbd,ZS,ZL,Zar,Zap,Z4,Tryz.ntmps165,Tryz.results165,gTT]
  rfl
 rintro ⟨g,w⟩ ⟨hg,hr,hw,hb⟩
 simp (maxSteps:=1000000) only [↓Zn,Ze,Zd,Zm,gSt,gS0,Ya,Yb,↓reduceIte,reduceCtorEq,Yc,Yd,Ye,Yf,Yg,Yj,Yk,Yl,Ym,Yn,ZjY,gE1,gE2,gE3,Zbe,ZR,Zaq,ZQ,Zbf,Z5,Zbd,ZS,ZL,Zar,Zap,Z4,Tryz.ntmps165,Tryz.results165,gTT]
 replace hg:g≤xs.length:=hg
 replace hr:ZiA ch fr (xs.drop g) w=ZiA ch fr xs z:=hr
 replace hw:w.length=z.length:=hw
 replace hb:∀ j:Nat,-((g:Int)*8388608)≤w[j]?.getD 0∧w[j]?.getD 0≤(g:Int)*8388608:=hb
 refine ⟨fun h1=>?_,fun h1=>?_⟩
 ·have hgl:g < xs.length:=by have:=of_decide_eq_true h1; omega
  have hgx:xs[g]?.getD Zym=xs[g]:=by rw [List.getElem?_eq_getElem hgl]; rfl
  rw [hgx]
  have hk2:=hk _ (List.getElem_mem hgl)
  rw [List.drop_eq_getElem_cons hgl] at hr
  generalize hX:xs[g]=x at *
  have hpl:=Zni (ch:=ch) (x:=x) hf hk2.1
  have hpi:=ZBb ch fr x
  have hrun:ZiA ch fr (x::xs.drop (g+1)) w=if inE ch fr x=0 then ZiA ch fr (xs.drop (g+1)) (Zt9 w (paO ch fr x)) else (Zt9 w (paO ch fr x),inE ch fr x):=rfl
  rw [hrun] at hr
  rw [show Inp.mk x.c x.l x.a x.b x.m x.f x.t x.n x.i=x from rfl]
  refine ⟨by omega,⟨hk2.1,hk2.2,hf,by omega,by omega,by omega,fun j=>?_⟩,fun h2=>?_,fun h2=>?_⟩
  ·have:=hb j; omega
  ·have hne:inE ch fr x≠0:=by simpa using h2
   rw [if_neg hne] at hr
   rw [← hr]
   exact ⟨rfl,rfl⟩
  ·have he:inE ch fr x=0:=by simpa using h2
   rw [if_pos he] at hr
   refine ⟨(ZY _ (by omega)).symm,⟨by omega,hr,by rw [ZgN]; exact hw,fun j=>?_⟩,by omega⟩
   rw [ZmP _ _ _ (by omega)]
   have h3:=hb j
   have h4:=hpi j
   omega
 ·have:g=xs.length:=by have:=of_decide_eq_false h1; omega
  rw [this,List.drop_length] at hr
  rw [← hr]
  exact ⟨rfl,rfl⟩
def Zod:List V→Zf→Zr→Name→Option Ent
 | [.c (.fn 166 [(n0,0),(n1,0),(n2,0)]),.c (.d (.list q_xs))],[(m0,[.d (.int .i64 ch)]),(m1,[.d (.int .i64 fr)]),(m2,[.arr n3 q])],[(j0,⟨true,1,q_z⟩)],_=>some ⟨0≤fr∧(Zc q_z).length=ch.toNat*fr.toNat∧q=(Zc q_z).length∧(Zc q_z).length≤1000000∧ZNr (Zc q_z)∧Zix (Zk9 q_xs)∧(Zk9 q_xs).length≤32∧n0.lv≤1∧n1.lv≤1∧n2.lv≤1∧n3.lv≤1∧m0=n0∧m1=n1∧m2=n2∧j0=n3∧n1≠n0∧n2≠n0∧n2≠n1∧n3≠n0∧n3≠n1∧n3≠n2∧q_xs=LX (Zk9 q_xs)∧q_z=LI .i64 (Zc q_z),vI .i64 (ZiA ch fr (Zk9 q_xs) (Zc q_z)).2,[(n0,[.d (.int .i64 ch)]),(n1,[.d (.int .i64 fr)]),(n2,[.arr n3 q])],[(n3,⟨true,1,(LI .i64 (ZiA ch fr (Zk9 q_xs) (Zc q_z)).1)⟩)]⟩
 | _,_,_,_=>none
def ZyA:=And.intro (@Zod.eq_1) (@Zod.eq_1)
theorem ZyB:Snd Tryz.prog 165 Zod:=by
 intro vs b k n e h hn hp
 unfold Zod at h
 split at h
 ·cases h; obtain ⟨hp0,hp1,hp2,hp3,hp4,hp5,hp6,hl0,hl1,hl2,hl3,rfl,rfl,rfl,rfl,hd10,hd20,hd21,hd30,hd31,hd32,hq0,hq1⟩:=hp; obtain ⟨_,rfl⟩:=ZFE hq0; obtain ⟨_,rfl⟩:=Zq hq1; simp only [Zi,Zo,Zj,Zp,Z4] at hp0 hp1 hp2 hp3 hp4 hp5 hp6 ⊢; exact Spec.ren4 (ZBO _ _ _ _ _ hp0 hp1 hp2 hp3 hp4 hp5 hp6) 0 1 2 3 (by simp [Za9,V.names,C.names,ZJ,ZK,Zz]) hl0 hl1 hl2 hl3 hd10 hd20 hd21 hd30 hd31 hd32
 ·cases h
end Go.Vam
end
section
set_option linter.unusedVariables false
set_option linter.defProp false
set_option linter.unusedSimpArgs false
set_option maxRecDepth 40000
set_option maxHeartbeats 4000000
namespace Go.Vam
open Go.Proofs
open Nat renaming reduceShiftRight→Ya,reduceMod→Yb,reduceEqDiff→Yc,reduceLT→Yd,reduceLeDiff→Ye,reduceAdd→Yf,reduceMul→Yg
open Int renaming reduceLE→Yj,reduceLT→Yk,reduceNeg→Yl,reduceAdd→Ym,reduceToNat→Yn
def muB (ch fr:Int):Bool:=decide (ch < 1) || decide (8 < ch) || decide (fr < 0) || decide (65536 < fr)
def ZhP (ch fr:Int):List Int:=List.replicate (ch.toNat*fr.toNat) 0
def muE (ch fr:Int) (xs:List Inp):Int:=if muB ch fr=true then 2 else if 32 < xs.length then 3 else (ZiA ch fr xs (ZhP ch fr)).2
def muS (ch fr:Int) (xs:List Inp):List Int:=if muE ch fr xs=0 then (ZiA ch fr xs (ZhP ch fr)).1 else []
theorem Zk8 (ch fr:Int):ZNr (ZhP ch fr):=fun j=>by
 unfold ZhP
 rw [List.getElem?_replicate]
 split <;> rfl
theorem Ze4 (ch fr:Int):(ZhP ch fr).length=ch.toNat*fr.toNat:=by simp [ZhP]
theorem Zvd {ch fr:Int} (h:muB ch fr=false):(1≤ch∧ch≤8)∧(0≤fr∧fr≤65536)∧ch.toNat*fr.toNat≤524288∧ch*fr=((ch.toNat*fr.toNat:Nat):Int):=by
 simp only [muB,Bool.or_eq_false_iff,decide_eq_false_iff_not] at h
 have h8:=Nat.mul_le_mul (show ch.toNat≤8 by omega) (show fr.toNat≤65536 by omega)
 have e1:((ch.toNat:Nat):Int)=ch:=by omega
 have e2:((fr.toNat:Nat):Int)=fr:=by omega
 have h9:ch.toNat*fr.toNat≤524288:=by omega
 have h10:ch*fr=((ch.toNat*fr.toNat:Nat):Int):=by rw [Int.natCast_mul,e1,e2]
 exact ⟨⟨by omega,by omega⟩,⟨by omega,by omega⟩,h9,h10⟩
def ZGT (k:Nat) (z:List Int):Prop:=∀ j:Nat,-((k:Int)*8388608)≤z[j]?.getD 0∧z[j]?.getD 0≤(k:Int)*8388608
theorem ZFL {k n:Nat} {z:List Int} (h:ZGT k z) (hn:k≤n):ZGT n z:=fun j=>by have:=h j; omega
theorem ZC9 {k:Nat} {z y:List Int} (h:ZGT k z) (hl:y.length≤z.length) (hy:∀ j:Nat,-8388608≤y[j]?.getD 0∧y[j]?.getD 0≤8388607):ZGT (k+1) (Zt9 z y):=fun j=>by
 rw [ZmP _ _ _ hl]
 have h3:=h j
 have h4:=hy j
 omega
theorem ZGy {ch fr:Int} (hf:0≤fr) {xs:List Inp}:∀ {z:List Int} {k:Nat},Zix xs→z.length=ch.toNat*fr.toNat→ZGT k z→ZGT (k+xs.length) (ZiA ch fr xs z).1:=by
 induction xs with
 | nil=>intro z k _ _ hb; exact hb
 | cons x xs ih =>
  intro z k hk hz hb
  have hk2:=hk x List.mem_cons_self
  have hpl:=Zni (ch:=ch) (x:=x) hf hk2.1
  have hstep:=ZC9 hb (by rw [hz]; exact hpl) (ZBb ch fr x)
  unfold ZiA
  rw [List.length_cons]
  split
  ·have:=ih (fun y hy=>hk y (List.mem_cons_of_mem _ hy)) (by rw [ZgN]; exact hz) hstep
   rw [show k+(xs.length+1)=k+1+xs.length by omega]
   exact this
  ·exact ZFL hstep (by omega)
theorem ZsN {ch fr:Int} {xs:List Inp} (h:muE ch fr xs=0):(muS ch fr xs).length=ch.toNat*fr.toNat:=by
 unfold muS
 rw [if_pos h,ZiM,Ze4]
theorem ZB4 (ch fr:Int) (xs:List Inp) (hk:Zix xs):Spec Tryz.prog 0 95 [vI .i64 ch,vI .i64 fr,vL (LX xs)] [] [] (.tup [.list (LI .i64 (muS ch fr xs)),.int .i64 (muE ch fr xs)]) [] []:=by
 refine sE (md:=fun s=>if s=30 then 2 else 0) (L:=[(165,Zod)]) [(1,[0,0,0,0,0,34443592671,0,0,0,0,0,34442576863,0,0]),(1000009,[6])] 34435236831 (Za ZyB Zb) Tryz.func95 rfl rfl rfl ?_
 simp (maxSteps:=1000000) only [↓Zn,Ze,Zd,Zm,gSt,gS0,Ya,Yb,↓reduceIte,reduceCtorEq,Yc,Yd,Ye,Yf,Yg,Yj,Yk,Yl,Ym,Yn,ZyA,gE1,gE2,gE3,Zbe,ZR,Zaq,ZQ,Zbf,Z5,Zbd,ZS,ZL,Zar,Zap,Z4,Tryz.ntmps95,Tryz.results95,gTT]
 refine ⟨fun h=>?_,fun h=>⟨fun h2=>?_,fun h2=>?_⟩⟩
 ·have e:muE ch fr xs=2:=by unfold muE; rw [if_pos (show muB ch fr=true from h)]
  simp [muS,e,Zw]
 ·have e:muE ch fr xs=3:=by unfold muE; rw [if_neg (by rw [show muB ch fr=false from h]; decide),if_pos (by have:=of_decide_eq_true h2; omega)]
  simp [muS,e,Zw]
 have hB:muB ch fr=false:=h
 obtain ⟨hc,hf,hq,hcf⟩:=Zvd hB
 have hx:xs.length≤32:=by have:=of_decide_eq_false h2; omega
 have hw:IntKind.i64.wrap (ch*fr)=((ch.toNat*fr.toNat:Nat):Int):=by rw [hcf,IntWalk.i64_in _ (by omega)]
 have e3:List.replicate (ch.toNat*fr.toNat) (0:Int)=ZhP ch fr:=rfl
 rw [hw,Int.toNat_natCast,e3]
 have hzl:=Ze4 ch fr
 have hzz:=Zk8 ch fr
 have hE:muE ch fr xs=(ZiA ch fr xs (ZhP ch fr)).2:=by unfold muE; rw [if_neg (by rw [hB]; decide),if_neg (by omega)]
 refine ⟨by omega,⟨hf.1,hzl,hzl.symm,by omega,hzz,hk,hx⟩,fun h3=>?_,fun h3=>?_⟩
 ·have hne:(ZiA ch fr xs (ZhP ch fr)).2≠0:=by simpa using h3
  unfold muS
  rw [if_neg (by rw [hE]; exact hne),hE,Zw]
 ·have he:(ZiA ch fr xs (ZhP ch fr)).2=0:=by simpa using h3
  refine ⟨by rw [ZiM,hzl],?_⟩
  unfold muS
  rw [if_pos (by rw [hE]; exact he),hE,he]
def ZoA:List V→Zf→Zr→Name→Option Ent
 | [.c (.d (.int .i64 ch)),.c (.d (.int .i64 fr)),.c (.d (.list q_xs))],[],[],_=>some ⟨Zix (Zk9 q_xs)∧q_xs=LX (Zk9 q_xs),.tup [.list (LI .i64 (muS ch fr (Zk9 q_xs))),.int .i64 (muE ch fr (Zk9 q_xs))],[],[]⟩
 | _,_,_,_=>none
def ZyU:=And.intro (@ZoA.eq_1) (@ZoA.eq_1)
theorem ZyV:Snd Tryz.prog 95 ZoA:=by
 intro vs b k n e h hn hp
 unfold ZoA at h
 split at h
 ·cases h; obtain ⟨hp0,hq0⟩:=hp; obtain ⟨_,rfl⟩:=ZFE hq0; simp only [Zi,Zo,Zj,Zp,Z4] at hp0 ⊢; exact (ZB4 _ _ _ hp0).lift rfl _
 ·cases h
def mxE (ch fr:Int) (xs:List Inp) (t r g:Int):Int:=if muE ch fr xs=0 then Zhb t r g ch (muS ch fr xs) else muE ch fr xs
def mxC (ch fr:Int) (xs:List Inp) (t r g:Int):Int:=if muE ch fr xs=0 then Zrt t r g ch (muS ch fr xs) else 0
def mxO (ch fr:Int) (xs:List Inp) (t r g:Int):List Int:=if muE ch fr xs=0 then Zql t r g ch (muS ch fr xs) else []
def mxT (ch fr:Int) (xs:List Inp) (t r g:Int):Int:=if muE ch fr xs=0 then Zvv t r g ch (muS ch fr xs) else 0
def mxR (ch fr:Int) (xs:List Inp) (t r g:Int):Int:=if muE ch fr xs=0 then Zvu t r g ch (muS ch fr xs) else 0
def mxG (ch fr:Int) (xs:List Inp) (t r g:Int):Int:=if muE ch fr xs=0 then Zvq t r g ch (muS ch fr xs) else 0
theorem ZHM (ch fr:Int) (xs:List Inp):(muS ch fr xs).length≤524288:=by
 unfold muS
 split
 ·rename_i h
  rw [ZiM,Ze4]
  unfold muE at h
  split at h
  ·cases h
  ·rename_i hB
   exact (Zvd (by simpa using hB)).2.2.1
 ·exact Nat.zero_le _
theorem ZD8 (ch fr:Int) (xs:List Inp) (t r g:Int) (hk:Zix xs):Spec Tryz.prog 0 36 [vI .i64 ch,vI .i64 fr,vL (LX xs),.agg [.d (.int .i64 t),.d (.int .i64 r),.d (.int .i64 g)]] [] [] (.tup [.agg [.int .i64 (mxC ch fr xs t r g),.list (LI .i32 (mxO ch fr xs t r g))],.agg [.int .i64 (mxT ch fr xs t r g),.int .i64 (mxR ch fr xs t r g),.int .i64 (mxG ch fr xs t r g)],.int .i64 (mxE ch fr xs t r g)]) [] []:=by
 refine sE (md:=fun _=>0) (L:=[(95,ZoA),(96,Zol)]) [] 2105231 (Za ZyV (Za ZyJ Zb)) Tryz.func36 rfl rfl rfl ?_
 simp (maxSteps:=1000000) only [↓Zn,Ze,Zd,Zm,gSt,gS0,Ya,Yb,↓reduceIte,reduceCtorEq,Yc,Yd,Ye,Yf,Yg,Yj,Yk,Yl,Ym,Yn,ZyU,ZyI,gE1,gE2,gE3,Zbe,ZR,Zaq,ZQ,Zbf,Z5,Zbd,ZS,ZL,Zar,Zap,Z4,Tryz.ntmps36,Tryz.results36,gTT]
 exact ⟨hk,fun h=>by
   have hne:muE ch fr xs≠0:=by simpa using h
   simp [mxC,mxO,mxT,mxR,mxG,mxE,hne,Zw],fun h=>by
   have he:muE ch fr xs=0:=by simpa using h
   have:=ZHM ch fr xs
   refine ⟨by omega,?_⟩
   simp [mxC,mxO,mxT,mxR,mxG,mxE,he]⟩
def ZyN:List V→Zf→Zr→Name→Option Ent
 | [.c (.d (.int .i64 ch)),.c (.d (.int .i64 fr)),.c (.d (.list q_xs)),.agg [.d (.int .i64 t),.d (.int .i64 r),.d (.int .i64 g)]],[],[],_=>some ⟨Zix (Zk9 q_xs)∧q_xs=LX (Zk9 q_xs),.tup [.agg [.int .i64 (mxC ch fr (Zk9 q_xs) t r g),.list (LI .i32 (mxO ch fr (Zk9 q_xs) t r g))],.agg [.int .i64 (mxT ch fr (Zk9 q_xs) t r g),.int .i64 (mxR ch fr (Zk9 q_xs) t r g),.int .i64 (mxG ch fr (Zk9 q_xs) t r g)],.int .i64 (mxE ch fr (Zk9 q_xs) t r g)],[],[]⟩
 | _,_,_,_=>none
def ZcY:=And.intro (@ZyN.eq_1) (@ZyN.eq_1)
theorem ZCU:Snd Tryz.prog 36 ZyN:=by
 intro vs b k n e h hn hp
 unfold ZyN at h
 split at h
 ·cases h; obtain ⟨hp0,hq0⟩:=hp; obtain ⟨_,rfl⟩:=ZFE hq0; simp only [Zi,Zo,Zj,Zp,Z4] at hp0 ⊢; exact (ZD8 _ _ _ _ _ _ hp0).lift rfl _
 ·cases h
end Go.Vam
end
