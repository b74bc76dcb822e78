/- A part of the proof. Conditions: none. -/
import Derived.Test.YtmpbpijnbmpbhaaGreatSSb
section
set_option linter.unusedVariables false
set_option linter.defProp false
set_option linter.unusedSimpArgs false
set_option maxRecDepth 40000
set_option maxHeartbeats 4000000
namespace Go.Vam
open Go.Proofs
open Nat renaming reduceShiftRight→Ya,reduceMod→Yb,reduceEqDiff→Yc,reduceLT→Yd,reduceLeDiff→Ye,reduceAdd→Yf,reduceMul→Yg
open Int renaming reduceLE→Yj,reduceLT→Yk,reduceNeg→Yl,reduceAdd→Ym,reduceToNat→Yn,reduceSub→Yo,reduceMul→Yp
theorem ZsB (l:List D) (q:Int) (hx:SX (SU l)=l) (hk:okL (SU l) 800) (hq:0≤q∧q≤7) (hne:SU l=[]):Spec Tryz.prog 0 23 [vL l,vI .i64 q] [] [] (.tup [.agg [.int .i64 2,.list (LI .i32 ((hbM (SU l) q.toNat).s.take (16*q.toNat*2)))],.bool true]) [] []:=by
 refine spec_of_E (X:=⟨Tryz.prog,tt,Tryz.f23.ntmps,1,fun _=>0,(tab [(9,ZdJ),(33,Zhj),(71,ZbP),(35,Zhr),(36,Zvb),(37,ZdH),(18,Zgk)])⟩) (M:=[(14,[0,0,0,0,0,10384593717069872650881556486281203,0,0,0,0,0,10384593717069839792618675191142387,0]),(20,[0,0,0,0,0,10384593990287038132036721255634931,0,0,0,0,0,0]),(21,[0,0,0,0,0,10389651630585313141588696868837363,0,0,0,0,0,10389506172630697109406396221741043,0,0,0,0,0,10389030494170601702035766233257971,0,0,0]),(22,[0,0,0,0,0,20606928157310244792799942420191219,0,0,0,0,0,0])]) (m:=10384593717069802899130527772039155) rfl rfl ⟨Zah,ZU (Za ZfD (Za Zlg (Za Zfq (Za Zlt (Za Ztl (Za ZfB (Za Zeq Zb))))))) _ rfl rfl⟩ ZB Tryz.func23 rfl (by decide) (by show (2:Nat)≤_; exact Nat.le_of_ble_eq_true rfl) ⟨by simp [V.has,C.has,Z6,ZH],by simp [C.has],by simp⟩ ?_
 have hv0:=True.intro
 generalize SU l=ss at *
 subst hx
 subst hne
 obtain ⟨i1,i2,i3,i4⟩:=ZEU (n:=2) (by decide)
 have hbn:bnR 2 1 1 ⟨29,4,16,0⟩ 37 13=eqB 37 ctT 2 (List.replicate 26 0) 0:=Zzb (m:=[1,2]) (by decide)
 simp (maxSteps:=1000000) only [↓Zo,Ze,Zd,Zn,gSt,gS0,Ya,Yb,↓reduceIte,reduceCtorEq,Yc,Yd,Ye,Yf,Yg,Yj,Yk,Yl,Ym,Yn,Z2,Zam,ZX,Zan,Za9,Z1,Zak,gE1,gE2,gE3,ZM,Zs,ZF,Zr,ZN,Zz,ZL,Zt,Zm,ZG,ZE,ZC,Zcd,Zae,Zad,Zce,Za2,Zcf,Za4,Za3,Zaf,Zat,ZeL,hv0,Option.some.injEq,exists_eq_left',Int.natCast_zero,Int.natCast_one,Int.cast_ofNat_Int,Yo,Yp,Tryz.ntmps23,Tryz.results23,gTT]
 simp only [hbn]
 refine ⟨by decide,by unfold Zag; decide,?_⟩
 refine Zl (fun g:Nat=>⟨[(14,vI .i64 (g:Nat))],[(⟨1,7⟩,[.d (.int .u64 7),.d (.str dacS),.d (.int .i64 1),.d (.int .i64 0),.d (.int .i64 0),.d (.int .i64 0),.d (.int .i64 0),.d (.list (ZqQ [1,2])),.d (.int .i64 2),.d (.int .i64 48000),.d (.list (LI .i64 [1,2])),.d (.int .i64 48000),.d (.int .i64 48000),.d (.int .i64 16),.d (.list ZpK),.d (.bool true),.d (.int .i64 0),.d (.int .i64 (eqB 37 ctT 2 (hbM [] g).s (16*g)).q),.d (.int .i64 (eqB 37 ctT 2 (hbM [] g).s (16*g)).c.t),.d (.int .i64 (eqB 37 ctT 2 (hbM [] g).s (16*g)).c.d),.d (.int .i64 (eqB 37 ctT 2 (hbM [] g).s (16*g)).c.g),.d (.int .i64 (eqB 37 ctT 2 (hbM [] g).s (16*g)).c.m),.d (.int .i64 (eqB 37 ctT 2 (hbM [] g).s (16*g)).r.c),.d (.int .i64 (eqB 37 ctT 2 (hbM [] g).s (16*g)).r.p.n),.d (.int .i64 (eqB 37 ctT 2 (hbM [] g).s (16*g)).r.p.d),.d (.int .i64 (eqB 37 ctT 2 (hbM [] g).s (16*g)).r.p.a),.d (.int .i64 (eqB 37 ctT 2 (hbM [] g).s (16*g)).r.p.p),.d (.int .i64 (eqB 37 ctT 2 (hbM [] g).s (16*g)).r.p.f),.d (.list (LI .i32 (eqB 37 ctT 2 (hbM [] g).s (16*g)).r.l)),.d (.int .i64 (eqB 37 ctT 2 (hbM [] g).s (16*g)).lo),.d (.int .i64 (eqB 37 ctT 2 (hbM [] g).s (16*g)).mi)]),(⟨1,10⟩,[.d (.int .i64 (hbM [] g).t),.d (.int .i64 (hbM [] g).r),.d (.int .i64 (hbM [] g).g)]),(⟨1,9⟩,[.d (.int .i64 2),.d (.list (LI .i32 ((hbM [] g).s.take (16*g*2))))])],[]⟩) (fun g=>(g:Int)≤q) (fun g=>8 - g) (·+1) 0 hq.1 ?_ ?_
 ·simp (maxSteps:=1000000) only [↓Zo,Ze,Zd,Zn,gSt,gS0,Ya,Yb,↓reduceIte,reduceCtorEq,Yc,Yd,Ye,Yf,Yg,Yj,Yk,Yl,Ym,Yn,Z2,Zam,ZX,Zan,Za9,Z1,Zak,gE1,gE2,gE3,ZM,Zs,ZF,Zr,ZN,Zz,ZL,Zt,Zm,ZG,ZE,ZC,Zcd,Zae,Zad,Zce,Za2,Zcf,Za4,Za3,Zaf,Zat,ZeL,hv0,Option.some.injEq,exists_eq_left',Int.natCast_zero,Int.natCast_one,Int.cast_ofNat_Int,Yo,Yp,Tryz.ntmps23,Tryz.results23,gTT]
  exact ⟨⟨rfl,rfl,rfl,rfl,rfl,rfl,rfl,rfl,rfl,rfl,rfl,rfl,rfl,rfl,rfl⟩,rfl,rfl,rfl⟩
 intro g hg
 simp (maxSteps:=1000000) only [↓Zo,Ze,Zd,Zn,gSt,gS0,Ya,Yb,↓reduceIte,reduceCtorEq,Yc,Yd,Ye,Yf,Yg,Yj,Yk,Yl,Ym,Yn,Z2,Zam,ZX,Zan,Za9,Z1,Zak,gE1,gE2,gE3,ZM,Zs,ZF,Zr,ZN,Zz,ZL,Zt,Zm,ZG,ZE,ZC,Zcd,Zae,Zad,Zce,Za2,Zcf,Za4,Za3,Zaf,Zat,ZeL,hv0,Option.some.injEq,exists_eq_left',Int.natCast_zero,Int.natCast_one,Int.cast_ofNat_Int,Yo,Yp,Tryz.ntmps23,Tryz.results23,gTT]
 refine ⟨fun h1=>?_,fun h1=>?_⟩
 rotate_left
 ·have hgq:g=q.toNat:=by have:=of_decide_eq_false h1; omega
  rw [hgq]
 have hgq:=of_decide_eq_true h1
 obtain ⟨b1,b2,b3,b4,b5,b6,b7⟩:=ZEP hk g (by omega)
 obtain ⟨k1,k2,k3⟩:=Zpm hk (g:=g) (by omega)
 have hI:inG [] g=[]:=rfl
 rw [hI] at b4 b5 b6 b7 k1
 refine Ze4 15 9 ⟨1,99⟩ rfl (by simp (maxSteps:=1000000) only [↓Zo,Ze,Zd,Zn,gSt,gS0,Ya,Yb,↓reduceIte,reduceCtorEq,Yc,Yd,Ye,Yf,Yg,Yj,Yk,Yl,Ym,Yn,Z2,Zam,ZX,Zan,Za9,Z1,Zak,gE1,gE2,gE3,ZM,Zs,ZF,Zr,ZN,Zz,ZL,Zt,Zm,ZG,ZE,ZC,Zcd,Zae,Zad,Zce,Za2,Zcf,Za4,Za3,Zaf,Zat,ZeL,hv0,Option.some.injEq,exists_eq_left',Int.natCast_zero,Int.natCast_one,Int.cast_ofNat_Int,Yo,Yp,Tryz.ntmps23,Tryz.results23,gTT]) (Nat.le_refl _) ?_
 refine Zl (fun z:Nat=>⟨[(54,vI .i64 (z:Nat)),(15,.c (.own ⟨1,99⟩ (LX [])))],[],[(⟨1,99⟩,⟨false,9,LX []⟩)]⟩) (fun z=>z≤0) (fun z=>1 - z) (·+1) 0 (Nat.zero_le _) ?_ ?_
 ·simp (maxSteps:=1000000) only [↓Zo,Ze,Zd,Zn,gSt,gS0,Ya,Yb,↓reduceIte,reduceCtorEq,Yc,Yd,Ye,Yf,Yg,Yj,Yk,Yl,Ym,Yn,Z2,Zam,ZX,Zan,Za9,Z1,Zak,gE1,gE2,gE3,ZM,Zs,ZF,Zr,ZN,Zz,ZL,Zt,Zm,ZG,ZE,ZC,Zcd,Zae,Zad,Zce,Za2,Zcf,Za4,Za3,Zaf,Zat,ZeL,hv0,Option.some.injEq,exists_eq_left',Int.natCast_zero,Int.natCast_one,Int.cast_ofNat_Int,Yo,Yp,Tryz.ntmps23,Tryz.results23,gTT]
 intro z hz
 obtain rfl:z=0:=by omega
 simp (maxSteps:=1000000) only [↓Zo,Ze,Zd,Zn,gSt,gS0,Ya,Yb,↓reduceIte,reduceCtorEq,Yc,Yd,Ye,Yf,Yg,Yj,Yk,Yl,Ym,Yn,Z2,Zam,ZX,Zan,Za9,Z1,Zak,gE1,gE2,gE3,ZM,Zs,ZF,Zr,ZN,Zz,ZL,Zt,Zm,ZG,ZE,ZC,Zcd,Zae,Zad,Zce,Za2,Zcf,Za4,Za3,Zaf,Zat,ZeL,hv0,Option.some.injEq,exists_eq_left',Int.natCast_zero,Int.natCast_one,Int.cast_ofNat_Int,Yo,Yp,Tryz.ntmps23,Tryz.results23,gTT]
 have hin:Zkg []=[]:=rfl
 have j1:IntKind.i64.wrap (16*(g:Int))=16*(g:Int):=IntWalk.i64_in _ (by omega)
 have j2:IntKind.i64.wrap (16*(g:Int)+16)=16*(g:Int)+16:=IntWalk.i64_in _ (by omega)
 have j3:16*(g:Int)+16 - 16*(g:Int)=16:=by omega
 have hM:hbM [] (g+1)=⟨mxT 2 16 [] (hbM [] g).t (hbM [] g).r (hbM [] g).g,mxR 2 16 [] (hbM [] g).t (hbM [] g).r (hbM [] g).g,mxG 2 16 [] (hbM [] g).t (hbM [] g).r (hbM [] g).g,(hbM [] g).s++mxO 2 16 [] (hbM [] g).t (hbM [] g).r (hbM [] g).g⟩:=rfl
 have ht:(2:Int).toNat=2:=rfl
 obtain ⟨d1,d2,d3,d4,d5,d6,d7,d8,d9,d10,d11,d12⟩:=Zr2 (c:=2) (s:=(hbM [] g).s) (y:=mxO 2 16 [] (hbM [] g).t (hbM [] g).r (hbM [] g).g) (k:=g) (by decide) b2 b3 b6 b7 (by omega)
 rw [ht] at d7 d11 b2 b6
 rw [hin,j1,j2,j3,hM,b4,b5,d1,d2,d3,d4,d6,d7]
 generalize mxO 2 16 [] (hbM [] g).t (hbM [] g).r (hbM [] g).g=Y at *
 have hYb:ZaR 2 Y=true:=Zbg (z:=16) (by decide) b6 (by decide) b7
 refine ⟨⟨k1,rfl⟩,⟨⟨rfl,.inl rfl,rfl,rfl,rfl,rfl⟩,⟨rfl,by decide,rfl,rfl,rfl,rfl,rfl,rfl⟩,d9,d10,⟨rfl,rfl,rfl⟩,⟨by omega,by omega,by omega,by decide⟩,⟨rfl,hYb,by omega⟩,rfl,rfl,d8⟩,fun h=>absurd h (by decide),fun _=>⟨by kernel_rfl,?_,⟨(Zaz _ (by omega)).symm,⟨rfl,rfl,rfl,rfl,rfl,rfl,rfl,rfl,rfl,rfl,rfl,rfl,rfl,rfl,rfl⟩,⟨rfl,rfl,rfl⟩,?_⟩,by omega,by omega⟩⟩
 ·simp only [List.length_take,List.length_drop]
  omega
 ·have e:16*(g+1)*2=16*g*2+16*2:=by omega
  rw [e,List.take_add,List.take_append_of_le_length (by rw [b2]; omega)]
theorem Zwy (l:List D) (q:Int) (hx:SX (SU l)=l) (hk:okL (SU l) 800) (hq:0≤q∧q≤7):Spec Tryz.prog 0 23 [.c (.d (.list l)),.c (.d (.int .i64 q))] [] [] (.tup [.agg [.int .i64 2,.list (LI .i32 ((hbM (SU l) q.toNat).s.take (16*q.toNat*2)))],.bool true]) [] []:=by
 by_cases hne:SU l=[]
 ·exact ZsB l q hx hk hq hne
 ·exact ZsC l q hx hk hq hne
def Zi2:List V→Zf→Zw→Name→Option Ent
 | [.c (.d (.list l)),.c (.d (.int .i64 q))],[],[],_=>some ⟨SX (SU l)=l∧okL (SU l) 800∧(0≤q∧q≤7),.tup [.agg [.int .i64 2,.list (LI .i32 ((hbM (SU l) q.toNat).s.take (16*q.toNat*2)))],.bool true],[],[]⟩
 | _,_,_,_=>none
def Zfb:=And.intro (@Zi2.eq_1) (@Zi2.eq_1)
theorem Zu7:Snd Tryz.prog 23 Zi2:=by
 intro vs b k n e h hn hp
 unfold Zi2 at h
 split at h
 ·cases h; obtain ⟨hp0,hp1,hp2⟩:=hp; exact (Zwy _ _ hp0 hp1 hp2).lift rfl _
 ·cases h
end Go.Vam
end
section
set_option linter.unusedVariables false
set_option linter.defProp false
set_option linter.unusedSimpArgs false
set_option maxRecDepth 40000
set_option maxHeartbeats 4000000
namespace Go.Vam
open Go.Proofs
open Nat renaming reduceShiftRight→Ya,reduceMod→Yb,reduceEqDiff→Yc,reduceLT→Yd,reduceLeDiff→Ye,reduceAdd→Yf,reduceMul→Yg
open Int renaming reduceLE→Yj,reduceLT→Yk,reduceNeg→Yl,reduceAdd→Ym,reduceToNat→Yn
def stD (l:List UInt8):Nat→List UInt8
 | 0=>l
 | g+1=>msR (stD l g)
def stL (l:List UInt8):Nat→List Sm
 | 0=>[]
 | g+1=>if ((msX (stD l g) 1).di==1 && (msX (stD l g) 1).r.c==2)=true then stL l g++[msX (stD l g) 1] else stL l g
theorem ZD1 (l:List UInt8):∀ g,g≤3→(∀ x∈stL l g,okS x 1 2 800)∧(stL l g).length≤g
 | 0,_=>⟨fun x hx=>absurd hx (by simp [stL]),Nat.le_refl _⟩
 | g+1,hg=>by
  obtain ⟨h1,h2⟩:=ZD1 l g (by omega)
  unfold stL
  split
  ·rename_i h
   rw [Bool.and_eq_true] at h
   have ok:=ZGF (stD l g) (di:=1) (.inl rfl)
   have hc:1+dN (stD l g) 2=2:=by rw [← ok.c]; simpa using h.2
   rw [hc] at ok
   have hm:=ZzP (stD l g)
   have ok2:=okS.mono ok (800 - msN (stD l g))
   rw [show msN (stD l g)+(800 - msN (stD l g))=800 by omega] at ok2
   refine ⟨fun x hx=>?_,by rw [List.length_append,List.length_singleton]; omega⟩
   rcases List.mem_append.1 hx with h3 | h3
   ·exact h1 x h3
   ·rw [List.mem_singleton] at h3
    rw [h3]
    exact ok2
  ·exact ⟨h1,by omega⟩
theorem spec_topstr (s:List UInt8) (w t:Int) (hw:0≤w∧w≤255) (ht:0≤t∧t≤255):Spec Tryz.prog 0 4 [vL (LB s),vI .u8 w,vI .u8 t] [] [] (vB true) [] []:=by
 refine sE (md:=fun s=>if s=84 then 1 else 0) (L:=[(6,ZiL),(7,ZxN),(21,ZhT),(22,Zet),(10,Zoy),(23,Zi2),(24,Zou)]) [(16,[0,0,0,0,0,9676242260195496312937906119,0,0,0,0,0,7427640235712286047984418759,0,0]),(17,[0,0,0,0,0,20768870521489253456776009730752455,0,0,0,0,0,20748905024535658843702436655267783,0,0,0,0,0,20120150326822457060560071865401287,0,0,0,0])] 4398589673415 (Za ZuU (Za ZBM (Za Zgp (Za Zn0 (Za Zx8 (Za Zu7 (Za Zx4 Zb))))))) Tryz.func4 rfl rfl rfl ?_
 have d1:=Zfn (s.take 300) 3 (by decide)
 have d2:=ZhC (s.take 300) 3
 simp (maxSteps:=1000000) only [↓Zo,Ze,Zd,Zn,gSt,gS0,Ya,Yb,↓reduceIte,reduceCtorEq,Yc,Yd,Ye,Yf,Yg,Yj,Yk,Yl,Ym,Yn,Ze6,Zix,Zbz,ZcO,ZgJ,Zfb,ZgF,gE1,gE2,gE3,ZM,Zs,ZF,Zr,ZN,Zz,ZL,Zt,Zm,ZG,ZE,ZC,Zcd,Zae,Zad,Zce,Za2,Zcf,Za4,Za3,Zaf,Zat,ZeL,Tryz.ntmps4,Tryz.results4,gTT]
 rw [IntWalk.i64_in (1+dN (List.take 300 s) 3) (by omega)]
 obtain ⟨N,hN⟩:∃ N:Nat,1+dN (List.take 300 s) 3=(N:Int):=⟨(1+dN (List.take 300 s) 3).toNat,by omega⟩
 rw [hN]
 have hN3:N≤3:=by omega
 generalize dT (List.take 300 s) 3=u at *
 clear d1 d2 hN
 refine Ze4 8 19 ⟨1,99⟩ rfl (by simp (maxSteps:=1000000) only [↓Zo,Ze,Zd,Zn,gSt,gS0,Ya,Yb,↓reduceIte,reduceCtorEq,Yc,Yd,Ye,Yf,Yg,Yj,Yk,Yl,Ym,Yn,Ze6,Zix,Zbz,ZcO,ZgJ,Zfb,ZgF,gE1,gE2,gE3,ZM,Zs,ZF,Zr,ZN,Zz,ZL,Zt,Zm,ZG,ZE,ZC,Zcd,Zae,Zad,Zce,Za2,Zcf,Za4,Za3,Zaf,Zat,ZeL,Tryz.ntmps4,Tryz.results4,gTT]) (Nat.le_refl _) ?_
 refine Zl (fun g:Nat=>⟨[(9,vI .i64 ((N:Int) - (g:Nat))),(8,.c (.own ⟨1,99⟩ (SX (stL u g))))],[(⟨1,24⟩,[.d (.list (LB (stD u g)))])],[(⟨1,99⟩,⟨false,19,SX (stL u g)⟩)]⟩) (fun g=>g≤N) (fun g=>N - g) (·+1) 0 (Nat.zero_le _) ?_ ?_
 ·simp (maxSteps:=1000000) only [↓Zo,Ze,Zd,Zn,gSt,gS0,Ya,Yb,↓reduceIte,reduceCtorEq,Yc,Yd,Ye,Yf,Yg,Yj,Yk,Yl,Ym,Yn,Ze6,Zix,Zbz,ZcO,ZgJ,Zfb,ZgF,gE1,gE2,gE3,ZM,Zs,ZF,Zr,ZN,Zz,ZL,Zt,Zm,ZG,ZE,ZC,Zcd,Zae,Zad,Zce,Za2,Zcf,Za4,Za3,Zaf,Zat,ZeL,Tryz.ntmps4,Tryz.results4,gTT]
  exact ⟨⟨by simp,rfl⟩,rfl,rfl⟩
 intro g hg
 simp (maxSteps:=1000000) only [↓Zo,Ze,Zd,Zn,gSt,gS0,Ya,Yb,↓reduceIte,reduceCtorEq,Yc,Yd,Ye,Yf,Yg,Yj,Yk,Yl,Ym,Yn,Ze6,Zix,Zbz,ZcO,ZgJ,Zfb,ZgF,gE1,gE2,gE3,ZM,Zs,ZF,Zr,ZN,Zz,ZL,Zt,Zm,ZG,ZE,ZC,Zcd,Zae,Zad,Zce,Za2,Zcf,Za4,Za3,Zaf,Zat,ZeL,Tryz.ntmps4,Tryz.results4,gTT]
 obtain ⟨okx,hlen⟩:=ZD1 u g (by omega)
 refine ⟨fun h1=>⟨fun h2=>?_,fun h2=>?_⟩,fun h1=>?_⟩
 ·have h3:=of_decide_eq_true h1
  have hL:stL u (g+1)=stL u g++[msX (stD u g) 1]:=if_pos h2
  rw [hL]
  exact ⟨by unfold Zag; omega,⟨⟨by rw [IntWalk.i64_in _ (by omega)]; omega,rfl⟩,rfl,rfl⟩,by omega,by omega⟩
 ·have h3:=of_decide_eq_true h1
  have hL:stL u (g+1)=stL u g:=if_neg (by rw [h2]; decide)
  rw [hL]
  exact ⟨⟨⟨by rw [IntWalk.i64_in _ (by omega)]; omega,rfl⟩,rfl,rfl⟩,by omega,by omega⟩
 have hL3:(stL u g).length≤3:=by omega
 generalize stL u g=L at *
 have hL:okL L 800:=⟨okx,by omega,by decide⟩
 obtain ⟨n1,n2⟩:=ZCI (di:=1) (ch:=2) (n:=1) (d:=1) (q:=9) (s0:=0) ZFV (by decide) (by decide) (by decide) (.inl rfl)
 have hid:snR 1 2 1 1 9 0=idleS:=n2
 rw [hid,n1]
 obtain ⟨Q,hQ⟩:∃ Q:Nat,w.tmod 8=(Q:Int):=⟨(w.tmod 8).toNat,by rw [Int.tmod_eq_emod_of_nonneg hw.1]; omega⟩
 have hQ8:Q≤7:=by rw [Int.tmod_eq_emod_of_nonneg hw.1] at hQ; omega
 have tm:t.tmod ((L.length:Int)+1)=((t.toNat % (L.length+1):Nat):Int):=by
  have:=ZBt t.toNat (s:=((L.length+1:Nat):Int)) (by omega)
  rw [Int.toNat_natCast] at this
  rw [← this]
  congr 1
  omega
 rw [IntWalk.i64_in t (by omega),IntWalk.i64_in ((L.length:Int)+1) (by omega),tm,hQ,IntWalk.i64_in (Q:Int) (by omega)]
 have hmod:t.toNat % (L.length+1) < L.length+1:=Nat.mod_lt _ (by omega)
 generalize t.toNat % (L.length+1)=K at *
 rw [Int.toNat_natCast,Int.toNat_natCast,Nat.sub_zero]
 have e1:List.take (L.length - K) (List.drop K L)=List.drop K L:=List.take_of_length_le (by rw [List.length_drop]; omega)
 rw [e1]
 have hT:=ZEQ hL K (g:=Q) (by omega)
 obtain ⟨hI1,hI2⟩:=ZEO hL (by omega) (g:=Q) (by omega)
 have hL2:okL (List.drop K L++List.take K L) 800:=⟨fun x hx=>by
  rcases List.mem_append.1 hx with h | h
  ·exact okx x (List.mem_of_mem_drop h)
  ·exact okx x (List.mem_of_mem_take h),by rw [List.length_append,List.length_drop,List.length_take]; omega,by decide⟩
 obtain ⟨b1,b2,b3,b4⟩:=ZEP hL Q (by omega)
 have hbl:(List.take (16*Q*2) (hbM L Q).s).length≤1000000000:=by
  have ht2:(2:Int).toNat=2:=rfl
  rw [List.length_take,b2,ht2]
  omega
 rw [hT,hI2]
 have hl1:(List.drop K L).length≤3:=by rw [List.length_drop]; omega
 have hl2:(List.take K L).length≤3:=by rw [List.length_take]; omega
 refine ⟨by omega,by kernel_rfl,⟨by omega,by omega,Int.le_refl _⟩,by unfold Zag; omega,⟨by omega,Int.le_refl _,by omega⟩,by unfold Zag; omega,by decide,⟨hL,by omega,by omega⟩,by decide,⟨hL2,by omega,by omega⟩,by unfold Zag; omega,by decide,⟨hI1,by omega,by omega⟩,fun _=>hbl,fun _=>hbl,?_⟩
 simp
end Go.Vam
end
