/- A part of the proof. Conditions: none. -/
import Derived.Test.YtmpbpijnbmpbhaaGreatBDl
set_option linter.unusedVariables false
set_option linter.defProp false
set_option linter.unusedSimpArgs false
set_option maxRecDepth 40000
set_option maxHeartbeats 4000000
namespace Go.Vam
open Go.Proofs
open Nat renaming reduceShiftRight→Ya,reduceMod→Yb,reduceEqDiff→Yc,reduceLT→Yd,reduceLeDiff→Ye,reduceAdd→Yf,reduceMul→Yg
open Int renaming reduceLE→Yj,reduceLT→Yk,reduceNeg→Yl,reduceAdd→Ym,reduceToNat→Yn
theorem Zxy (di:Int) (s:ByteArray) (dd dm dl dt dj:Int) (bx:List D) (ck cr:Int) (mp:List Int) (cz:Int) (ra pe:Int) (sg:List D) (ru:Bool) (si:Int) (q ct cd cg cm c n d a p f:Int) (l:List Int) (lo mi:Int) (fr to:Int) (hs:ZhD s dd dm dl dt dj) (hv:ZgR bx ck cr mp cz ra pe sg) (hb:brV ⟨q,⟨ct,cd,cg,cm⟩,⟨c,⟨n,d,a,p,f⟩,l⟩,lo,mi⟩=true) (hl:l.length≤1000000) (hc:c=mp.length∧n=1∧d=1) (hru:ru=true∧si=0) (hft:0≤fr∧fr < to∧to≤1099511627776∧to - fr≤65536):Spec Tryz.prog 0 134 [.agg [.d (.int .u64 di),.d (.str s),.d (.int .i64 dd),.d (.int .i64 dm),.d (.int .i64 dl),.d (.int .i64 dt),.d (.int .i64 dj),.d (.list bx),.d (.int .i64 ck),.d (.int .i64 cr),.d (.list (LI .i64 mp)),.d (.int .i64 cz),.d (.int .i64 ra),.d (.int .i64 pe),.d (.list sg),.d (.bool ru),.d (.int .i64 si),.d (.int .i64 q),.d (.int .i64 ct),.d (.int .i64 cd),.d (.int .i64 cg),.d (.int .i64 cm),.d (.int .i64 c),.d (.int .i64 n),.d (.int .i64 d),.d (.int .i64 a),.d (.int .i64 p),.d (.int .i64 f),.d (.list (LI .i32 l)),.d (.int .i64 lo),.d (.int .i64 mi)],vI .i64 fr,vI .i64 to] [] [] (.tup [.int .i64 (to - fr),.int .i64 0]) [] []:=by
 refine sE (md:=fun _=>0) (L:=[(121,Zdq),(200,Zf8)]) [(3,[0,0,0,0,0,140874993386959,0,0,0,0,0,0])] 140874927326671 (Za ZhU (Za ZrB Zb)) Tryz.func134 rfl rfl rfl ?_
 simp (maxSteps:=1000000) only [↓Zn,Ze,Zd,Zm,gSt,gS0,Ya,Yb,↓reduceIte,reduceCtorEq,Yc,Yd,Ye,Yf,Yg,Yj,Yk,Yl,Ym,Yn,ZhT,ZrA,gE1,gE2,Tryz.ntmps134,Tryz.results134,gTT]
 obtain ⟨hr,h0⟩:=hru
 have e:(if fr < si then si else fr)=fr:=if_neg (by omega)
 simp only [e]
 refine ⟨⟨hs,hv,hb,hl,hc,by omega⟩,fun h=>?_,fun _=>⟨fun h=>?_,fun _=>⟨⟨hv.2.2.2.2.2.2.2,by omega,by omega,by omega⟩,fun h=>?_,fun _=>trivial⟩⟩⟩
 ·simp only [Bool.or_eq_true,decide_eq_true_eq] at h
  omega
 ·rw [hr] at h
  simp only [Bool.not_true,Bool.false_or,decide_eq_true_eq] at h
  omega
 ·have:=of_decide_eq_true h
  omega
def Zi4:List V→Zf→Zr→Name→Option Ent
 | [.agg [.d (.int .u64 di),.d (.str s),.d (.int .i64 dd),.d (.int .i64 dm),.d (.int .i64 dl),.d (.int .i64 dt),.d (.int .i64 dj),.d (.list bx),.d (.int .i64 ck),.d (.int .i64 cr),.d (.list q_mp),.d (.int .i64 cz),.d (.int .i64 ra),.d (.int .i64 pe),.d (.list sg),.d (.bool ru),.d (.int .i64 si),.d (.int .i64 q),.d (.int .i64 ct),.d (.int .i64 cd),.d (.int .i64 cg),.d (.int .i64 cm),.d (.int .i64 c),.d (.int .i64 n),.d (.int .i64 d),.d (.int .i64 a),.d (.int .i64 p),.d (.int .i64 f),.d (.list q_l),.d (.int .i64 lo),.d (.int .i64 mi)],.c (.d (.int .i64 fr)),.c (.d (.int .i64 to))],[],[],_=>some ⟨ZhD s dd dm dl dt dj∧ZgR bx ck cr (Zc q_mp) cz ra pe sg∧brV ⟨q,⟨ct,cd,cg,cm⟩,⟨c,⟨n,d,a,p,f⟩,(Zc q_l)⟩,lo,mi⟩=true∧(Zc q_l).length≤1000000∧(c=(Zc q_mp).length∧n=1∧d=1)∧(ru=true∧si=0)∧(0≤fr∧fr < to∧to≤1099511627776∧to - fr≤65536)∧q_mp=LI .i64 (Zc q_mp)∧q_l=LI .i32 (Zc q_l),.tup [.int .i64 (to - fr),.int .i64 0],[],[]⟩
 | _,_,_,_=>none
def ZvY:=And.intro (@Zi4.eq_1) (@Zi4.eq_1)
theorem ZvZ:Snd Tryz.prog 134 Zi4:=by
 intro vs b k n e h hn hp
 unfold Zi4 at h
 split at h
 ·cases h; obtain ⟨hp0,hp1,hp2,hp3,hp4,hp5,hp6,hq0,hq1⟩:=hp; obtain ⟨_,rfl⟩:=Zq hq0; obtain ⟨_,rfl⟩:=Zq hq1; simp only [Zi,Zo,Zj,Zp] at hp0 hp1 hp2 hp3 hp4 hp5 hp6 ⊢; exact (Zxy _ _ _ _ _ _ _ _ _ _ _ _ _ _ _ _ _ _ _ _ _ _ _ _ _ _ _ _ _ _ _ _ _ hp0 hp1 hp2 hp3 hp4 hp5 hp6).lift rfl _
 ·cases h
theorem ZqG (di:Int) (s:ByteArray) (dd dm dl dt dj:Int) (bx:List D) (ck cr:Int) (mp:List Int) (cz:Int) (ra pe:Int) (sg:List D) (ru:Bool) (si:Int) (q ct cd cg cm c n d a p f:Int) (l:List Int) (lo mi:Int) (x k:Int) (y:List Int) (fr to:Int) (hs:ZhD s dd dm dl dt dj) (hv:ZgR bx ck cr mp cz ra pe sg) (hb:brV ⟨q,⟨ct,cd,cg,cm⟩,⟨c,⟨n,d,a,p,f⟩,l⟩,lo,mi⟩=true) (hl:l.length≤1000000) (hc:c=mp.length∧n=1∧d=1) (hru:ru=true∧si=0) (hft:0≤fr∧fr < to∧to≤1099511627776∧to - fr≤65536) (hx:x=dd) (hk:k=c∧ZaL k y=true∧y.length≤1000000):Spec Tryz.prog 0 57 [.agg [.d (.int .u64 di),.d (.str s),.d (.int .i64 dd),.d (.int .i64 dm),.d (.int .i64 dl),.d (.int .i64 dt),.d (.int .i64 dj),.d (.list bx),.d (.int .i64 ck),.d (.int .i64 cr),.d (.list (LI .i64 mp)),.d (.int .i64 cz),.d (.int .i64 ra),.d (.int .i64 pe),.d (.list sg),.d (.bool ru),.d (.int .i64 si),.d (.int .i64 q),.d (.int .i64 ct),.d (.int .i64 cd),.d (.int .i64 cg),.d (.int .i64 cm),.d (.int .i64 c),.d (.int .i64 n),.d (.int .i64 d),.d (.int .i64 a),.d (.int .i64 p),.d (.int .i64 f),.d (.list (LI .i32 l)),.d (.int .i64 lo),.d (.int .i64 mi)],vI .i64 x,.agg [.d (.int .i64 k),.d (.list (LI .i32 y))],vI .i64 fr,vI .i64 to] [] [] (.tup [.int .i64 (to - fr),.int .i64 0]) [] []:=by
 refine sE (md:=fun _=>0) (L:=[(133,Zfo),(62,ZaR),(119,ZdZ),(134,Zi4)]) [(2,[0,0,0,0,0,8588401855,0,0,0,0,0,8472534207,0,0,0,0,0])] 4295007423 (Za Zj3 (Za Zax (Za ZfO (Za ZvZ Zb)))) Tryz.func57 rfl rfl rfl ?_
 simp (maxSteps:=1000000) only [↓Zn,Ze,Zd,Zm,gSt,gS0,Ya,Yb,↓reduceIte,reduceCtorEq,Yc,Yd,Ye,Yf,Yg,Yj,Yk,Yl,Ym,Yn,Zj2,ZD,ZfN,ZvY,gE1,gE2,Tryz.ntmps57,Tryz.results57,gTT]
 obtain ⟨k1,k2,k3⟩:=hk
 refine ⟨⟨hs,hv,hb,hl,hc,by omega⟩,k3,fun h=>?_,fun _=>⟨by kernel_rfl,fun h=>?_,fun _=>⟨hs,hv,hb,hl,hc,hru,hft⟩⟩⟩
 ·rw [k2,hx] at h
  simp at h
 ·rw [k1,hc.1] at h
  simp at h
def Zex:List V→Zf→Zr→Name→Option Ent
 | [.agg [.d (.int .u64 di),.d (.str s),.d (.int .i64 dd),.d (.int .i64 dm),.d (.int .i64 dl),.d (.int .i64 dt),.d (.int .i64 dj),.d (.list bx),.d (.int .i64 ck),.d (.int .i64 cr),.d (.list q_mp),.d (.int .i64 cz),.d (.int .i64 ra),.d (.int .i64 pe),.d (.list sg),.d (.bool ru),.d (.int .i64 si),.d (.int .i64 q),.d (.int .i64 ct),.d (.int .i64 cd),.d (.int .i64 cg),.d (.int .i64 cm),.d (.int .i64 c),.d (.int .i64 n),.d (.int .i64 d),.d (.int .i64 a),.d (.int .i64 p),.d (.int .i64 f),.d (.list q_l),.d (.int .i64 lo),.d (.int .i64 mi)],.c (.d (.int .i64 x)),.agg [.d (.int .i64 k),.d (.list q_y)],.c (.d (.int .i64 fr)),.c (.d (.int .i64 to))],[],[],_=>some ⟨ZhD s dd dm dl dt dj∧ZgR bx ck cr (Zc q_mp) cz ra pe sg∧brV ⟨q,⟨ct,cd,cg,cm⟩,⟨c,⟨n,d,a,p,f⟩,(Zc q_l)⟩,lo,mi⟩=true∧(Zc q_l).length≤1000000∧(c=(Zc q_mp).length∧n=1∧d=1)∧(ru=true∧si=0)∧(0≤fr∧fr < to∧to≤1099511627776∧to - fr≤65536)∧x=dd∧(k=c∧ZaL k (Zc q_y)=true∧(Zc q_y).length≤1000000)∧q_mp=LI .i64 (Zc q_mp)∧q_l=LI .i32 (Zc q_l)∧q_y=LI .i32 (Zc q_y),.tup [.int .i64 (to - fr),.int .i64 0],[],[]⟩
 | _,_,_,_=>none
def Zn5:=And.intro (@Zex.eq_1) (@Zex.eq_1)
theorem Zn6:Snd Tryz.prog 57 Zex:=by
 intro vs b k n e h hn hp
 unfold Zex at h
 split at h
 ·cases h; obtain ⟨hp0,hp1,hp2,hp3,hp4,hp5,hp6,hp7,hp8,hq0,hq1,hq2⟩:=hp; obtain ⟨_,rfl⟩:=Zq hq0; obtain ⟨_,rfl⟩:=Zq hq1; obtain ⟨_,rfl⟩:=Zq hq2; simp only [Zi,Zo,Zj,Zp] at hp0 hp1 hp2 hp3 hp4 hp5 hp6 hp7 hp8 ⊢; exact (ZqG _ _ _ _ _ _ _ _ _ _ _ _ _ _ _ _ _ _ _ _ _ _ _ _ _ _ _ _ _ _ _ _ _ _ _ _ hp0 hp1 hp2 hp3 hp4 hp5 hp6 hp7 hp8).lift rfl _
 ·cases h
end Go.Vam
