/- A part of the proof. Conditions: none. -/
import Derived.Test.YtmpbpijnbmpbhaaGreatSSa
set_option linter.unusedVariables false
set_option linter.defProp false
set_option linter.unusedSimpArgs false
set_option maxRecDepth 40000
set_option maxHeartbeats 4000000
namespace Go.Vam
open Go.Proofs
open Nat renaming reduceShiftRight→Ya,reduceMod→Yb,reduceEqDiff→Yc,reduceLT→Yd,reduceLeDiff→Ye,reduceAdd→Yf,reduceMul→Yg
open Int renaming reduceLE→Yj,reduceLT→Yk,reduceNeg→Yl,reduceAdd→Ym,reduceToNat→Yn,reduceSub→Yo,reduceMul→Yp
def smI:D→Sm
 | .agg [.int _ di,.int _ st,.int _ q,.int _ s0,.int _ rc,.int _ rn,.int _ rd,.int _ ra,.int _ rp,.int _ rf,.list rl,.int _ gc,.int _ gq,.int _ gw,.int _ gr,.list gl,.int _ wr,.int _ pl,.int _ mi]=>⟨di,st,q,s0,⟨rc,⟨rn,rd,ra,rp,rf⟩,Zc rl⟩,⟨gc,gq,gw,gr,Zc gl⟩,wr,pl,mi⟩
 | _=>sm0
def SX (l:List Sm):List D:=l.map fun x=>D.agg [D.int .i64 x.di,D.int .i64 x.st,D.int .i64 x.q,D.int .i64 x.s0,D.int .i64 x.r.c,D.int .i64 x.r.p.n,D.int .i64 x.r.p.d,D.int .i64 x.r.p.a,D.int .i64 x.r.p.p,D.int .i64 x.r.p.f,D.list (LI .i32 x.r.l),D.int .i64 x.g.c,D.int .i64 x.g.q,D.int .i64 x.g.w,D.int .i64 x.g.r,D.list (LI .i32 x.g.l),D.int .i64 x.wr,D.int .i64 x.pl,D.int .i64 x.mi]
def SU (l:List D):List Sm:=l.map smI
theorem ZFr (x:Sm):smI (D.agg [D.int .i64 x.di,D.int .i64 x.st,D.int .i64 x.q,D.int .i64 x.s0,D.int .i64 x.r.c,D.int .i64 x.r.p.n,D.int .i64 x.r.p.d,D.int .i64 x.r.p.a,D.int .i64 x.r.p.p,D.int .i64 x.r.p.f,D.list (LI .i32 x.r.l),D.int .i64 x.g.c,D.int .i64 x.g.q,D.int .i64 x.g.w,D.int .i64 x.g.r,D.list (LI .i32 x.g.l),D.int .i64 x.wr,D.int .i64 x.pl,D.int .i64 x.mi])=x:=by
 show (⟨x.di,x.st,x.q,x.s0,⟨x.r.c,⟨x.r.p.n,x.r.p.d,x.r.p.a,x.r.p.p,x.r.p.f⟩,Zc (LI .i32 x.r.l)⟩,⟨x.g.c,x.g.q,x.g.w,x.g.r,Zc (LI .i32 x.g.l)⟩,x.wr,x.pl,x.mi⟩:Sm)=x
 rw [Zi,Zi]
theorem ZeL (l:List Sm):SU (SX l)=l:=by
 unfold SU SX
 rw [List.map_map]
 have e:smI ∘ (fun x:Sm=>D.agg [D.int .i64 x.di,D.int .i64 x.st,D.int .i64 x.q,D.int .i64 x.s0,D.int .i64 x.r.c,D.int .i64 x.r.p.n,D.int .i64 x.r.p.d,D.int .i64 x.r.p.a,D.int .i64 x.r.p.p,D.int .i64 x.r.p.f,D.list (LI .i32 x.r.l),D.int .i64 x.g.c,D.int .i64 x.g.q,D.int .i64 x.g.w,D.int .i64 x.g.r,D.list (LI .i32 x.g.l),D.int .i64 x.wr,D.int .i64 x.pl,D.int .i64 x.mi])=id:=funext fun x=>ZFr x
 rw [e,List.map_id]
theorem Zcd:SX []=[]:=rfl
theorem Zae (l:List Sm):(SX l).length=l.length:=List.length_map ..
theorem Zad (l m:List Sm):SX l++SX m=SX (l++m):=(List.map_append ..).symm
theorem Zce {di st q s0 rc rn rd ra rp rf gc gq gw gr wr pl mi:Int} {rl gl:List Int}:[D.agg [D.int .i64 di,D.int .i64 st,D.int .i64 q,D.int .i64 s0,D.int .i64 rc,D.int .i64 rn,D.int .i64 rd,D.int .i64 ra,D.int .i64 rp,D.int .i64 rf,D.list (LI .i32 rl),D.int .i64 gc,D.int .i64 gq,D.int .i64 gw,D.int .i64 gr,D.list (LI .i32 gl),D.int .i64 wr,D.int .i64 pl,D.int .i64 mi]]=SX [⟨di,st,q,s0,⟨rc,⟨rn,rd,ra,rp,rf⟩,rl⟩,⟨gc,gq,gw,gr,gl⟩,wr,pl,mi⟩]:=rfl
theorem Za2 {di st q s0 rc rn rd ra rp rf gc gq gw gr wr pl mi:Int} {rl gl:List Int} (l:List Sm):D.agg [D.int .i64 di,D.int .i64 st,D.int .i64 q,D.int .i64 s0,D.int .i64 rc,D.int .i64 rn,D.int .i64 rd,D.int .i64 ra,D.int .i64 rp,D.int .i64 rf,D.list (LI .i32 rl),D.int .i64 gc,D.int .i64 gq,D.int .i64 gw,D.int .i64 gr,D.list (LI .i32 gl),D.int .i64 wr,D.int .i64 pl,D.int .i64 mi]::SX l=SX (⟨di,st,q,s0,⟨rc,⟨rn,rd,ra,rp,rf⟩,rl⟩,⟨gc,gq,gw,gr,gl⟩,wr,pl,mi⟩::l):=rfl
theorem Zcf {di st q s0 rc rn rd ra rp rf gc gq gw gr wr pl mi:Int} {rl gl:List Int} (l:List Sm) (i:Nat):(SX l).set i (D.agg [D.int .i64 di,D.int .i64 st,D.int .i64 q,D.int .i64 s0,D.int .i64 rc,D.int .i64 rn,D.int .i64 rd,D.int .i64 ra,D.int .i64 rp,D.int .i64 rf,D.list (LI .i32 rl),D.int .i64 gc,D.int .i64 gq,D.int .i64 gw,D.int .i64 gr,D.list (LI .i32 gl),D.int .i64 wr,D.int .i64 pl,D.int .i64 mi])=SX (l.set i ⟨di,st,q,s0,⟨rc,⟨rn,rd,ra,rp,rf⟩,rl⟩,⟨gc,gq,gw,gr,gl⟩,wr,pl,mi⟩):=by
 unfold SX
 rw [List.map_set]
theorem Za4 (l:List Sm) (n:Nat):(SX l).take n=SX (l.take n):=(List.map_take ..).symm
theorem Za3 (l:List Sm) (n:Nat):(SX l).drop n=SX (l.drop n):=(List.map_drop ..).symm
theorem Zaf (l:List Sm):(SX l=[])=(l=[]):=by cases l <;> simp [SX]
theorem Zat (l:List Sm):(∀ y∈SX l,y.cells.length=19)=True:=by
 refine eq_true fun y hy=>?_
 simp only [SX,List.mem_map] at hy
 obtain ⟨x,_,rfl⟩:=hy
 rfl
theorem ZFM {A B:List Sm} {z:Nat} (hA:A.length=B.length) (hz:z < B.length):B.take (z+1)++A.drop (z+1)=(B.take z++A.drop z).set z B[z]:=by
 have h1:A.drop z=A[z]::A.drop (z+1):=List.drop_eq_getElem_cons (by omega)
 have h2:(B.take z).length=z:=by rw [List.length_take]; omega
 rw [h1,List.set_append_right _ _ (by omega),h2,Nat.sub_self,List.set_cons_zero,List.take_add_one,List.getElem?_eq_getElem hz,List.append_assoc]
 rfl
theorem ZF9 {l:List Sm} {i:Nat} (h:i < l.length):(SX l)[i]?=some (D.agg [D.int .i64 (l[i]?.getD sm0).di,D.int .i64 (l[i]?.getD sm0).st,D.int .i64 (l[i]?.getD sm0).q,D.int .i64 (l[i]?.getD sm0).s0,D.int .i64 (l[i]?.getD sm0).r.c,D.int .i64 (l[i]?.getD sm0).r.p.n,D.int .i64 (l[i]?.getD sm0).r.p.d,D.int .i64 (l[i]?.getD sm0).r.p.a,D.int .i64 (l[i]?.getD sm0).r.p.p,D.int .i64 (l[i]?.getD sm0).r.p.f,D.list (LI .i32 (l[i]?.getD sm0).r.l),D.int .i64 (l[i]?.getD sm0).g.c,D.int .i64 (l[i]?.getD sm0).g.q,D.int .i64 (l[i]?.getD sm0).g.w,D.int .i64 (l[i]?.getD sm0).g.r,D.list (LI .i32 (l[i]?.getD sm0).g.l),D.int .i64 (l[i]?.getD sm0).wr,D.int .i64 (l[i]?.getD sm0).pl,D.int .i64 (l[i]?.getD sm0).mi]):=by
 unfold SX
 rw [List.getElem?_map,List.getElem?_eq_getElem h]
 rfl
theorem ZsC (l:List D) (q:Int) (hx:SX (SU l)=l) (hk:okL (SU l) 800) (hq:0≤q∧q≤7) (hne:SU l≠[]):Spec Tryz.prog 0 23 [vL l,vI .i64 q] [] [] (.tup [.agg [.int .i64 2,.list (LI .i32 ((hbM (SU l) q.toNat).s.take (16*q.toNat*2)))],.bool true]) [] []:=by
 refine spec_of_E (X:=⟨Tryz.prog,tt,Tryz.f23.ntmps,1,fun s=>if s=46 then 2 else 0,(tab [(9,ZdJ),(33,Zhj),(71,ZbP),(35,Zhr),(36,Zvb),(37,ZdH),(18,Zgk)])⟩) (M:=[(14,[0,0,0,0,0,10384593717069872650881556486281203,0,0,0,0,0,10384593717069839792618675191142387,0]),(20,[0,0,0,0,0,10384593990287038132036721255634931,0,0,0,0,0,0]),(21,[0,0,0,0,0,10389651630585313141588696868837363,0,0,0,0,0,10389506172630697109406396221741043,0,0,0,0,0,10389030494170601702035766233257971,0,0,0]),(22,[0,0,0,0,0,20606928157310244792799942420191219,0,0,0,0,0,0])]) (m:=10384593717069802899130527772039155) rfl rfl ⟨Zah,ZU (Za ZfD (Za Zlg (Za Zfq (Za Zlt (Za Ztl (Za ZfB (Za Zeq Zb))))))) _ rfl rfl⟩ ZB Tryz.func23 rfl (by decide) (by show (2:Nat)≤_; exact Nat.le_of_ble_eq_true rfl) ⟨by simp [V.has,C.has,Z6,ZH],by simp [C.has],by simp⟩ ?_
 have hv0:=True.intro
 have hv1:=True.intro
 have hv2:=True.intro
 generalize SU l=ss at *
 subst hx
 obtain ⟨i1,i2,i3,i4⟩:=ZEU (n:=2) (by decide)
 have hbn:bnR 2 1 1 ⟨29,4,16,0⟩ 37 13=eqB 37 ctT 2 (List.replicate 26 0) 0:=Zzb (m:=[1,2]) (by decide)
 simp (maxSteps:=1000000) only [↓Zo,Ze,Zd,Zn,gSt,gS0,Ya,Yb,↓reduceIte,reduceCtorEq,Yc,Yd,Ye,Yf,Yg,Yj,Yk,Yl,Ym,Yn,Z2,Zam,ZX,Zan,Za9,Z1,Zak,gE1,gE2,gE3,ZM,Zs,ZF,Zr,ZN,Zz,ZL,Zt,Zm,ZG,ZE,ZC,Zcd,Zae,Zad,Zce,Za2,Zcf,Za4,Za3,Zaf,Zat,ZeL,hv0,hv1,hv2,Option.some.injEq,exists_eq_left',ZaQ,Int.natCast_zero,Int.natCast_one,Int.cast_ofNat_Int,Yo,Yp,Tryz.ntmps23,Tryz.results23,gTT]
 simp only [hbn]
 refine ⟨by decide,⟨hne,by have:=hk.len; unfold Zag; omega⟩,?_⟩
 refine Zl (fun g:Nat=>⟨[(14,vI .i64 (g:Nat))],[(⟨1,7⟩,[.d (.int .u64 7),.d (.str dacS),.d (.int .i64 1),.d (.int .i64 0),.d (.int .i64 0),.d (.int .i64 0),.d (.int .i64 0),.d (.list (ZqQ [1,2])),.d (.int .i64 2),.d (.int .i64 48000),.d (.list (LI .i64 [1,2])),.d (.int .i64 48000),.d (.int .i64 48000),.d (.int .i64 16),.d (.list ZpK),.d (.bool true),.d (.int .i64 0),.d (.int .i64 (eqB 37 ctT 2 (hbM ss g).s (16*g)).q),.d (.int .i64 (eqB 37 ctT 2 (hbM ss g).s (16*g)).c.t),.d (.int .i64 (eqB 37 ctT 2 (hbM ss g).s (16*g)).c.d),.d (.int .i64 (eqB 37 ctT 2 (hbM ss g).s (16*g)).c.g),.d (.int .i64 (eqB 37 ctT 2 (hbM ss g).s (16*g)).c.m),.d (.int .i64 (eqB 37 ctT 2 (hbM ss g).s (16*g)).r.c),.d (.int .i64 (eqB 37 ctT 2 (hbM ss g).s (16*g)).r.p.n),.d (.int .i64 (eqB 37 ctT 2 (hbM ss g).s (16*g)).r.p.d),.d (.int .i64 (eqB 37 ctT 2 (hbM ss g).s (16*g)).r.p.a),.d (.int .i64 (eqB 37 ctT 2 (hbM ss g).s (16*g)).r.p.p),.d (.int .i64 (eqB 37 ctT 2 (hbM ss g).s (16*g)).r.p.f),.d (.list (LI .i32 (eqB 37 ctT 2 (hbM ss g).s (16*g)).r.l)),.d (.int .i64 (eqB 37 ctT 2 (hbM ss g).s (16*g)).lo),.d (.int .i64 (eqB 37 ctT 2 (hbM ss g).s (16*g)).mi)]),(⟨1,10⟩,[.d (.int .i64 (hbM ss g).t),.d (.int .i64 (hbM ss g).r),.d (.int .i64 (hbM ss g).g)]),(⟨1,9⟩,[.d (.int .i64 2),.d (.list (LI .i32 ((hbM ss g).s.take (16*g*2))))])],[(⟨1,46⟩,⟨true,19,SX (ss.map (stG g))⟩)]⟩) (fun g=>(g:Int)≤q) (fun g=>8 - g) (·+1) 0 hq.1 ?_ ?_
 ·simp (maxSteps:=1000000) only [↓Zo,Ze,Zd,Zn,gSt,gS0,Ya,Yb,↓reduceIte,reduceCtorEq,Yc,Yd,Ye,Yf,Yg,Yj,Yk,Yl,Ym,Yn,Z2,Zam,ZX,Zan,Za9,Z1,Zak,gE1,gE2,gE3,ZM,Zs,ZF,Zr,ZN,Zz,ZL,Zt,Zm,ZG,ZE,ZC,Zcd,Zae,Zad,Zce,Za2,Zcf,Za4,Za3,Zaf,Zat,ZeL,hv0,hv1,hv2,Option.some.injEq,exists_eq_left',ZaQ,Int.natCast_zero,Int.natCast_one,Int.cast_ofNat_Int,Yo,Yp,Tryz.ntmps23,Tryz.results23,gTT]
  have e0:ss.map (stG 0)=ss:=by
   have:stG 0=id:=funext fun x=>rfl
   rw [this,List.map_id]
  rw [e0]
  exact ⟨⟨⟨rfl,rfl,rfl,rfl,rfl,rfl,rfl,rfl,rfl,rfl,rfl,rfl,rfl,rfl,rfl⟩,rfl,rfl,rfl⟩,rfl⟩
 intro g hg
 simp (maxSteps:=1000000) only [↓Zo,Ze,Zd,Zn,gSt,gS0,Ya,Yb,↓reduceIte,reduceCtorEq,Yc,Yd,Ye,Yf,Yg,Yj,Yk,Yl,Ym,Yn,Z2,Zam,ZX,Zan,Za9,Z1,Zak,gE1,gE2,gE3,ZM,Zs,ZF,Zr,ZN,Zz,ZL,Zt,Zm,ZG,ZE,ZC,Zcd,Zae,Zad,Zce,Za2,Zcf,Za4,Za3,Zaf,Zat,ZeL,hv0,hv1,hv2,Option.some.injEq,exists_eq_left',ZaQ,Int.natCast_zero,Int.natCast_one,Int.cast_ofNat_Int,Yo,Yp,Tryz.ntmps23,Tryz.results23,gTT]
 refine ⟨fun h1=>?_,fun h1=>?_⟩
 rotate_left
 ·have hgq:g=q.toNat:=by have:=of_decide_eq_false h1; omega
  rw [hgq]
 have hgq:=of_decide_eq_true h1
 obtain ⟨b1,b2,b3,b4,b5,b6,b7⟩:=ZEP hk g (by omega)
 obtain ⟨k1,k2,k3⟩:=Zpm hk (g:=g) (by omega)
 have hkl:=hk.len
 have hL1:(ss.map (stG g)).length=ss.length:=List.length_map ..
 have hL2:(ss.map (stG (g+1))).length=ss.length:=List.length_map ..
 refine Ze4 15 9 ⟨1,99⟩ rfl (by simp (maxSteps:=1000000) only [↓Zo,Ze,Zd,Zn,gSt,gS0,Ya,Yb,↓reduceIte,reduceCtorEq,Yc,Yd,Ye,Yf,Yg,Yj,Yk,Yl,Ym,Yn,Z2,Zam,ZX,Zan,Za9,Z1,Zak,gE1,gE2,gE3,ZM,Zs,ZF,Zr,ZN,Zz,ZL,Zt,Zm,ZG,ZE,ZC,Zcd,Zae,Zad,Zce,Za2,Zcf,Za4,Za3,Zaf,Zat,ZeL,hv0,hv1,hv2,Option.some.injEq,exists_eq_left',ZaQ,Int.natCast_zero,Int.natCast_one,Int.cast_ofNat_Int,Yo,Yp,Tryz.ntmps23,Tryz.results23,gTT]) (Nat.le_refl _) ?_
 refine Zl (fun z:Nat=>⟨[(54,vI .i64 (z:Nat)),(15,.c (.own ⟨1,99⟩ (LX ((inG ss g).take z))))],[],[(⟨1,46⟩,⟨true,19,SX ((ss.map (stG (g+1))).take z++(ss.map (stG g)).drop z)⟩),(⟨1,99⟩,⟨false,9,LX ((inG ss g).take z)⟩)]⟩) (fun z=>z≤ss.length) (fun z=>ss.length - z) (·+1) 0 (Nat.zero_le _) ?_ ?_
 ·simp (maxSteps:=1000000) only [↓Zo,Ze,Zd,Zn,gSt,gS0,Ya,Yb,↓reduceIte,reduceCtorEq,Yc,Yd,Ye,Yf,Yg,Yj,Yk,Yl,Ym,Yn,Z2,Zam,ZX,Zan,Za9,Z1,Zak,gE1,gE2,gE3,ZM,Zs,ZF,Zr,ZN,Zz,ZL,Zt,Zm,ZG,ZE,ZC,Zcd,Zae,Zad,Zce,Za2,Zcf,Za4,Za3,Zaf,Zat,ZeL,hv0,hv1,hv2,Option.some.injEq,exists_eq_left',ZaQ,Int.natCast_zero,Int.natCast_one,Int.cast_ofNat_Int,Yo,Yp,Tryz.ntmps23,Tryz.results23,gTT]
 intro z hz
 by_cases hlt:z < ss.length
 ·have hx:=ZBj (hk.ok _ (List.getElem_mem hlt)) hk.k g (by omega)
  have hv0:decide ((z:Int) < (ss.length:Int))=true:=decide_eq_true (by omega)
  have hMl:((ss.map (stG (g+1))).take z++(ss.map (stG g)).drop z).length=ss.length:=by rw [List.length_append,List.length_take,List.length_drop]; omega
  have hMz:((ss.map (stG (g+1))).take z++(ss.map (stG g)).drop z)[z]?.getD sm0=stG g ss[z]:=by
   rw [List.getElem?_append_right (by rw [List.length_take]; omega),List.length_take,List.getElem?_drop,List.getElem?_map,Nat.min_eq_left (by omega),Nat.sub_self,Nat.add_zero,List.getElem?_eq_getElem hlt]
   rfl
  have hv1:=ZF9 (l:=(ss.map (stG (g+1))).take z++(ss.map (stG g)).drop z) (i:=z) (by rw [hMl]; exact hlt)
  rw [hMz] at hv1
  have hv2:(skE (stG g ss[z]) 16 != 0)=false:=by rw [ZAp hx (by omega) (by decide)]; rfl
  simp (maxSteps:=1000000) only [↓Zo,Ze,Zd,Zn,gSt,gS0,Ya,Yb,↓reduceIte,reduceCtorEq,Yc,Yd,Ye,Yf,Yg,Yj,Yk,Yl,Ym,Yn,Z2,Zam,ZX,Zan,Za9,Z1,Zak,gE1,gE2,gE3,ZM,Zs,ZF,Zr,ZN,Zz,ZL,Zt,Zm,ZG,ZE,ZC,Zcd,Zae,Zad,Zce,Za2,Zcf,Za4,Za3,Zaf,Zat,ZeL,hv0,hv1,hv2,Option.some.injEq,exists_eq_left',ZaQ,Int.natCast_zero,Int.natCast_one,Int.cast_ofNat_Int,Yo,Yp,Tryz.ntmps23,Tryz.results23,gTT]
  have hT:(inG ss g).take (z+1)=(inG ss g).take z++[ZBJ (stG g ss[z])]:=by
   rw [List.take_add_one]
   congr 1
   unfold inG
   rw [List.getElem?_map,List.getElem?_eq_getElem hlt]
   rfl
  have hS:=ZFM (A:=ss.map (stG g)) (B:=ss.map (stG (g+1))) (z:=z) (by rw [hL1,hL2]) (by rw [hL2]; exact hlt)
  have hB:(ss.map (stG (g+1)))[z]'(by rw [hL2]; exact hlt)=skR (stG g ss[z]) 16:=by rw [List.getElem_map]; rfl
  rw [hB] at hS
  have hIl:(List.take z (inG ss g)).length≤32:=by rw [List.length_take]; omega
  rw [hS,hT]
  exact ⟨⟨by omega,by omega⟩,⟨hx.lr,hx.lg⟩,⟨by omega,by omega⟩,by unfold Zag; omega,⟨⟨(Zaz _ (by omega)).symm,rfl⟩,rfl,rfl⟩,by omega,by omega⟩
 ·have hv0:decide ((z:Int) < (ss.length:Int))=false:=decide_eq_false (by omega)
  simp (maxSteps:=1000000) only [↓Zo,Ze,Zd,Zn,gSt,gS0,Ya,Yb,↓reduceIte,reduceCtorEq,Yc,Yd,Ye,Yf,Yg,Yj,Yk,Yl,Ym,Yn,Z2,Zam,ZX,Zan,Za9,Z1,Zak,gE1,gE2,gE3,ZM,Zs,ZF,Zr,ZN,Zz,ZL,Zt,Zm,ZG,ZE,ZC,Zcd,Zae,Zad,Zce,Za2,Zcf,Za4,Za3,Zaf,Zat,ZeL,hv0,hv1,hv2,Option.some.injEq,exists_eq_left',ZaQ,Int.natCast_zero,Int.natCast_one,Int.cast_ofNat_Int,Yo,Yp,Tryz.ntmps23,Tryz.results23,gTT]
  have hzl:z=ss.length:=by omega
  have hGl:(inG ss g).length=ss.length:=List.length_map ..
  have hI:List.take z (inG ss g)=inG ss g:=List.take_of_length_le (by omega)
  have hA:List.take z (ss.map (stG (g+1)))++List.drop z (ss.map (stG g))=ss.map (stG (g+1)):=by
   rw [List.take_of_length_le (by omega),List.drop_eq_nil_of_le (by omega),List.append_nil]
  have j1:IntKind.i64.wrap (16*(g:Int))=16*(g:Int):=IntWalk.i64_in _ (by omega)
  have j2:IntKind.i64.wrap (16*(g:Int)+16)=16*(g:Int)+16:=IntWalk.i64_in _ (by omega)
  have j3:16*(g:Int)+16 - 16*(g:Int)=16:=by omega
  have hM:hbM ss (g+1)=⟨mxT 2 16 (inG ss g) (hbM ss g).t (hbM ss g).r (hbM ss g).g,mxR 2 16 (inG ss g) (hbM ss g).t (hbM ss g).r (hbM ss g).g,mxG 2 16 (inG ss g) (hbM ss g).t (hbM ss g).r (hbM ss g).g,(hbM ss g).s++mxO 2 16 (inG ss g) (hbM ss g).t (hbM ss g).r (hbM ss g).g⟩:=rfl
  have ht:(2:Int).toNat=2:=rfl
  obtain ⟨d1,d2,d3,d4,d5,d6,d7,d8,d9,d10,d11,d12⟩:=Zr2 (c:=2) (s:=(hbM ss g).s) (y:=mxO 2 16 (inG ss g) (hbM ss g).t (hbM ss g).r (hbM ss g).g) (k:=g) (by decide) b2 b3 b6 b7 (by omega)
  rw [ht] at d7 d11 b2 b6
  rw [hI,hA,j1,j2,j3,hM,b4,b5,d1,d2,d3,d4,d6,d7]
  generalize mxO 2 16 (inG ss g) (hbM ss g).t (hbM ss g).r (hbM ss g).g=Y at *
  have hYb:ZaR 2 Y=true:=Zbg (z:=16) (by decide) b6 (by decide) b7
  refine ⟨k1,⟨⟨rfl,.inl rfl,rfl,rfl,rfl,rfl⟩,⟨rfl,by decide,rfl,rfl,rfl,rfl,rfl,rfl⟩,d9,d10,⟨rfl,rfl,rfl⟩,⟨by omega,by omega,by omega,by decide⟩,⟨rfl,hYb,by omega⟩,rfl,rfl,d8⟩,fun h=>absurd h (by decide),fun _=>⟨by kernel_rfl,?_,⟨(Zaz _ (by omega)).symm,⟨⟨rfl,rfl,rfl,rfl,rfl,rfl,rfl,rfl,rfl,rfl,rfl,rfl,rfl,rfl,rfl⟩,⟨rfl,rfl,rfl⟩,?_⟩,rfl⟩,by omega,by omega⟩⟩
  ·simp only [List.length_take,List.length_drop]
   omega
  ·have e:16*(g+1)*2=16*g*2+16*2:=by omega
   rw [e,List.take_add,List.take_append_of_le_length (by rw [b2]; omega)]
end Go.Vam
