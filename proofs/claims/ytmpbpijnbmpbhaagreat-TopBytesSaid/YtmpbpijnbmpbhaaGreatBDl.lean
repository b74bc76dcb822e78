/- A part of the proof. Conditions: none. -/
import Derived.Test.YtmpbpijnbmpbhaaGreatBDj
set_option linter.unusedVariables false
set_option linter.defProp false
set_option linter.unusedSimpArgs false
set_option maxRecDepth 40000
set_option maxHeartbeats 4000000
namespace Go.Vam
open Go.Proofs
open Nat renaming reduceShiftRight→Ya,reduceMod→Yb,reduceEqDiff→Yc,reduceLT→Yd,reduceLeDiff→Ye,reduceAdd→Yf,reduceMul→Yg
open Int renaming reduceLE→Yj,reduceLT→Yk,reduceNeg→Yl,reduceAdd→Ym,reduceToNat→Yn
theorem Zxv (rn rd:Int) (hp:rn=16∧rd=1):Spec Tryz.prog 0 242 [.agg [.d (.int .i64 rn),.d (.int .i64 rd)]] [] [] (vB true) [] []:=by
 refine sE (md:=fun _=>0) (L:=[(216,ZbS)]) [(1,[0,0,0,0,0,134217511,0,0,0,0,0,134210567,0,0,0,0,0,133431303,0,0,0,0,0,67108871,0])] 7 (Za Zcl Zb) Tryz.func242 rfl rfl rfl ?_
 obtain ⟨rfl,rfl⟩:=hp
 simp (maxSteps:=1000000) only [↓Zn,Ze,Zd,Zm,gSt,gS0,Ya,Yb,↓reduceIte,reduceCtorEq,Yc,Yd,Ye,Yf,Yg,Yj,Yk,Yl,Ym,Yn,Zck,gE1,gE2,Tryz.ntmps242,Tryz.results242,gTT]
 decide +kernel
def ZiW:List V→Zf→Zr→Name→Option Ent
 | [.agg [.d (.int .i64 rn),.d (.int .i64 rd)]],[],[],_=>some ⟨(rn=16∧rd=1),vB true,[],[]⟩
 | _,_,_,_=>none
def ZvR:=And.intro (@ZiW.eq_1) (@ZiW.eq_1)
theorem ZvS:Snd Tryz.prog 242 ZiW:=by
 intro vs b k n e h hn hp
 unfold ZiW at h
 split at h
 ·cases h; have hp0:=hp; exact (Zxv _ _ hp0).lift rfl _
 ·cases h
theorem Zxr (rn rd dr ji:Int) (hp:rn=16∧rd=1) (hd:dr=0∧ji=1):Spec Tryz.prog 0 190 [.agg [.d (.int .i64 rn),.d (.int .i64 rd)],vI .i64 dr,vI .i64 ji] [] [] (vB true) [] []:=by
 refine sE (md:=fun _=>0) (L:=[(242,ZiW)]) [(1,[0,0,0,0,0,33550415,0,0,0,0,0,33423439,0,0,0,0,0,16777295,0])] 79 (Za ZvS Zb) Tryz.func190 rfl rfl rfl ?_
 obtain ⟨rfl,rfl⟩:=hd
 simp (maxSteps:=1000000) only [↓Zn,Ze,Zd,Zm,gSt,gS0,Ya,Yb,↓reduceIte,reduceCtorEq,Yc,Yd,Ye,Yf,Yg,Yj,Yk,Yl,Ym,Yn,ZvR,gE1,gE2,Tryz.ntmps190,Tryz.results190,gTT]
 exact hp
def Zhe:List V→Zf→Zr→Name→Option Ent
 | [.agg [.d (.int .i64 rn),.d (.int .i64 rd)],.c (.d (.int .i64 dr)),.c (.d (.int .i64 ji))],[],[],_=>some ⟨(rn=16∧rd=1)∧(dr=0∧ji=1),vB true,[],[]⟩
 | _,_,_,_=>none
def Zlq:=And.intro (@Zhe.eq_1) (@Zhe.eq_1)
theorem Zlr:Snd Tryz.prog 190 Zhe:=by
 intro vs b k n e h hn hp
 unfold Zhe at h
 split at h
 ·cases h; obtain ⟨hp0,hp1⟩:=hp; exact (Zxr _ _ _ _ hp0 hp1).lift rfl _
 ·cases h
theorem ZD4 (a b:Int) (ha:0≤a∧a≤65536) (hb:1≤b∧b≤65536):Spec Tryz.prog 0 191 [vI .i64 a,vI .i64 b] [] [] (vI .i64 ((a+b - 1) / b)) [] []:=by
 refine sE (md:=fun _=>0) (L:=[]) [] 19 Zb Tryz.func191 rfl rfl rfl ?_
 simp (maxSteps:=1000000) only [↓Zn,Ze,Zd,Zm,gSt,gS0,Ya,Yb,↓reduceIte,reduceCtorEq,Yc,Yd,Ye,Yf,Yg,Yj,Yk,Yl,Ym,Yn,gE1,gE2,Tryz.ntmps191,Tryz.results191,gTT]
 have h1:0≤(a+b - 1) / b:=Int.ediv_nonneg (by omega) (by omega)
 have h2:=Int.ediv_le_self b (show 0≤a+b - 1 by omega)
 refine ⟨by omega,?_⟩
 rw [IntWalk.i64_in (a+b) (by omega),IntWalk.i64_in (a+b - 1) (by omega),Int.tdiv_eq_ediv_of_nonneg (by omega),IntWalk.i64_in _ (by omega)]
def Zn3:List V→Zf→Zr→Name→Option Ent
 | [.c (.d (.int .i64 a)),.c (.d (.int .i64 b))],[],[],_=>some ⟨(0≤a∧a≤65536)∧(1≤b∧b≤65536),vI .i64 ((a+b - 1) / b),[],[]⟩
 | _,_,_,_=>none
def ZiC:=And.intro (@Zn3.eq_1) (@Zn3.eq_1)
theorem ZiD:Snd Tryz.prog 191 Zn3:=by
 intro vs b k n e h hn hp
 unfold Zn3 at h
 split at h
 ·cases h; obtain ⟨hp0,hp1⟩:=hp; exact (ZD4 _ _ hp0 hp1).lift rfl _
 ·cases h
theorem ZBJ (rn rd n:Int) (hp:rn=16∧rd=1) (hn:n=0):Spec Tryz.prog 0 192 [.agg [.d (.int .i64 rn),.d (.int .i64 rd)],vI .i64 n] [] [] (vI .i64 0) [] []:=by
 refine sE (md:=fun _=>0) (L:=[(191,Zn3)]) [] 23 (Za ZiD Zb) Tryz.func192 rfl rfl rfl ?_
 obtain ⟨rfl,rfl⟩:=hp
 subst hn
 simp (maxSteps:=1000000) only [↓Zn,Ze,Zd,Zm,gSt,gS0,Ya,Yb,↓reduceIte,reduceCtorEq,Yc,Yd,Ye,Yf,Yg,Yj,Yk,Yl,Ym,Yn,ZiC,gE1,gE2,Tryz.ntmps192,Tryz.results192,gTT]
 exact ⟨by decide,by decide⟩
def ZiY:List V→Zf→Zr→Name→Option Ent
 | [.agg [.d (.int .i64 rn),.d (.int .i64 rd)],.c (.d (.int .i64 n))],[],[],_=>some ⟨(rn=16∧rd=1)∧n=0,vI .i64 0,[],[]⟩
 | _,_,_,_=>none
def ZiZ:=And.intro (@ZiY.eq_1) (@ZiY.eq_1)
theorem Zi0:Snd Tryz.prog 192 ZiY:=by
 intro vs b k n e h hn hp
 unfold ZiY at h
 split at h
 ·cases h; obtain ⟨hp0,hp1⟩:=hp; exact (ZBJ _ _ _ hp0 hp1).lift rfl _
 ·cases h
theorem Zs9 (ct cd cg cm:Int) (rn rd dr ji st:Int) (hc:ct=0∧cd=4∧cg=16∧cm=0) (hp:rn=16∧rd=1) (hd:dr=0∧ji=1) (hs:st=2∨st=0):Spec Tryz.prog 0 193 [.agg [.d (.int .i64 ct),.d (.int .i64 cd),.d (.int .i64 cg),.d (.int .i64 cm)],.agg [.d (.int .i64 rn),.d (.int .i64 rd)],vI .i64 dr,vI .i64 ji,vI .i64 st] [] [] (.tup [.int .i64 8,.int .i64 0]) [] []:=by
 refine sE (md:=fun _=>0) (L:=[(132,Zcc),(190,Zhe),(191,Zn3),(192,ZiY)]) [(8,[0,0,0,0,0,36028608073964671,0,0,0,0,0,36020000959503487,0,0,0,0,0,34902897145683071,0,0,0,0,0])] 33561727 (Za ZcX (Za Zlr (Za ZiD (Za Zi0 Zb)))) Tryz.func193 rfl rfl rfl ?_
 obtain ⟨rfl,rfl⟩:=hd
 obtain ⟨rfl,rfl,rfl,rfl⟩:=hc
 have hcv:ctV ⟨0,4,16,0⟩=true:=by decide
 simp (maxSteps:=1000000) only [↓Zn,Ze,Zd,Zm,gSt,gS0,Ya,Yb,↓reduceIte,reduceCtorEq,Yc,Yd,Ye,Yf,Yg,Yj,Yk,Yl,Ym,Yn,ZcW,Zlq,ZiC,ZiZ,gE1,gE2,hcv,Tryz.ntmps193,Tryz.results193,gTT]
 rcases hs with rfl | rfl
 ·exact ⟨hp,fun h=>absurd h (by decide),fun _=>⟨fun h=>absurd h (by decide),fun _=>⟨fun h=>absurd h (by decide),fun _=>⟨by kernel_rfl,⟨hp,by decide⟩,rfl⟩⟩⟩⟩
 ·exact ⟨hp,fun h=>absurd h (by decide),fun _=>⟨fun h=>absurd h (by decide),fun _=>⟨fun h=>absurd h (by decide),fun _=>⟨by kernel_rfl,⟨hp,by decide⟩,rfl⟩⟩⟩⟩
def Ze8:List V→Zf→Zr→Name→Option Ent
 | [.agg [.d (.int .i64 ct),.d (.int .i64 cd),.d (.int .i64 cg),.d (.int .i64 cm)],.agg [.d (.int .i64 rn),.d (.int .i64 rd)],.c (.d (.int .i64 dr)),.c (.d (.int .i64 ji)),.c (.d (.int .i64 st))],[],[],_=>some ⟨(ct=0∧cd=4∧cg=16∧cm=0)∧(rn=16∧rd=1)∧(dr=0∧ji=1)∧(st=2∨st=0),.tup [.int .i64 8,.int .i64 0],[],[]⟩
 | _,_,_,_=>none
def ZiT:=And.intro (@Ze8.eq_1) (@Ze8.eq_1)
theorem ZiU:Snd Tryz.prog 193 Ze8:=by
 intro vs b k n e h hn hp
 unfold Ze8 at h
 split at h
 ·cases h; obtain ⟨hp0,hp1,hp2,hp3⟩:=hp; exact (Zs9 _ _ _ _ _ _ _ _ _ hp0 hp1 hp2 hp3).lift rfl _
 ·cases h
theorem ZqA (ct cd cg cm:Int) (rn rd dr ji:Int) (hc:ct=0∧cd=4∧cg=16∧cm=0) (hp:rn=16∧rd=1) (hd:dr=0∧ji=1):Spec Tryz.prog 0 194 [.agg [.d (.int .i64 ct),.d (.int .i64 cd),.d (.int .i64 cg),.d (.int .i64 cm)],.agg [.d (.int .i64 rn),.d (.int .i64 rd)],vI .i64 dr,vI .i64 ji] [] [] (.tup [.int .i64 21,.int .i64 0]) [] []:=by
 refine sE (md:=fun _=>0) (L:=[(193,Ze8),(191,Zn3),(192,ZiY)]) [(4,[0,0,0,0,0,549623696191,0,0,0,0,0,532578044735,0,0,0,0,0,0])] 2100031 (Za ZiU (Za ZiD (Za Zi0 Zb))) Tryz.func194 rfl rfl rfl ?_
 obtain ⟨rfl,rfl⟩:=hd
 obtain ⟨rfl,rfl,rfl,rfl⟩:=hc
 have hcv:ctV ⟨0,4,16,0⟩=true:=by decide
 simp (maxSteps:=1000000) only [↓Zn,Ze,Zd,Zm,gSt,gS0,Ya,Yb,↓reduceIte,reduceCtorEq,Yc,Yd,Ye,Yf,Yg,Yj,Yk,Yl,Ym,Yn,ZiT,ZiC,ZiZ,gE1,gE2,hcv,Tryz.ntmps194,Tryz.results194,gTT]
 have hp2:=hp
 obtain ⟨rfl,rfl⟩:=hp2
 exact ⟨hp,by kernel_rfl,by decide,⟨hp,by decide⟩,rfl⟩
def Zer:List V→Zf→Zr→Name→Option Ent
 | [.agg [.d (.int .i64 ct),.d (.int .i64 cd),.d (.int .i64 cg),.d (.int .i64 cm)],.agg [.d (.int .i64 rn),.d (.int .i64 rd)],.c (.d (.int .i64 dr)),.c (.d (.int .i64 ji))],[],[],_=>some ⟨(ct=0∧cd=4∧cg=16∧cm=0)∧(rn=16∧rd=1)∧(dr=0∧ji=1),.tup [.int .i64 21,.int .i64 0],[],[]⟩
 | _,_,_,_=>none
def ZnW:=And.intro (@Zer.eq_1) (@Zer.eq_1)
theorem ZnX:Snd Tryz.prog 194 Zer:=by
 intro vs b k n e h hn hp
 unfold Zer at h
 split at h
 ·cases h; obtain ⟨hp0,hp1,hp2⟩:=hp; exact (ZqA _ _ _ _ _ _ _ _ hp0 hp1 hp2).lift rfl _
 ·cases h
theorem Zxu (rn rd dr ji de ga:Int) (hp:rn=16∧rd=1) (hd:dr=0∧ji=1) (hg:de=4∧ga=16):Spec Tryz.prog 0 116 [.agg [.d (.int .i64 rn),.d (.int .i64 rd)],vI .i64 dr,vI .i64 ji,vI .i64 de,vI .i64 ga] [] [] (.tup [.agg [.int .i64 29,.int .i64 4,.int .i64 16,.int .i64 0],.int .i64 37,.int .i64 0]) [] []:=by
 refine sE (md:=fun _=>0) (L:=[(190,Zhe),(191,Zn3),(192,ZiY),(193,Ze8),(194,Zer)]) [(1,[0,0,0,0,0,4951760157143773998905556031,0,0,0,0,0,4951760157143773998117026879,0,0,0,0,0,4951760157143773930202856511,0,0,0]),(10,[0,0,0,0,0,9864834688057626415172418623,0,0,0,0,0,7505011488169870266145963071,0])] 4951760157143773449166519359 (Za Zlr (Za ZiD (Za Zi0 (Za ZiU (Za ZnX Zb))))) Tryz.func116 rfl rfl rfl ?_
 obtain ⟨rfl,rfl⟩:=hd
 obtain ⟨rfl,rfl⟩:=hg
 simp (maxSteps:=1000000) only [↓Zn,Ze,Zd,Zm,gSt,gS0,Ya,Yb,↓reduceIte,reduceCtorEq,Yc,Yd,Ye,Yf,Yg,Yj,Yk,Yl,Ym,Yn,Zlq,ZiC,ZiZ,ZiT,ZnW,gE1,gE2,Tryz.ntmps116,Tryz.results116,gTT]
 have e:(IntKind.i64.wrap (65536*0)+IntKind.i64.wrap (65536 - 0) - 1) / IntKind.i64.wrap (65536 - 0)=0:=by decide
 rw [e]
 exact ⟨hp,by decide,fun h=>absurd h (by decide),fun _=>⟨hp,⟨rfl,hp,.inl (by decide)⟩,⟨rfl,hp⟩,fun h=>absurd h (by decide),fun _=>⟨by kernel_rfl,rfl⟩⟩⟩
def ZiV:List V→Zf→Zr→Name→Option Ent
 | [.agg [.d (.int .i64 rn),.d (.int .i64 rd)],.c (.d (.int .i64 dr)),.c (.d (.int .i64 ji)),.c (.d (.int .i64 de)),.c (.d (.int .i64 ga))],[],[],_=>some ⟨(rn=16∧rd=1)∧(dr=0∧ji=1)∧(de=4∧ga=16),.tup [.agg [.int .i64 29,.int .i64 4,.int .i64 16,.int .i64 0],.int .i64 37,.int .i64 0],[],[]⟩
 | _,_,_,_=>none
def ZvP:=And.intro (@ZiV.eq_1) (@ZiV.eq_1)
theorem ZvQ:Snd Tryz.prog 116 ZiV:=by
 intro vs b k n e h hn hp
 unfold ZiV at h
 split at h
 ·cases h; obtain ⟨hp0,hp1,hp2⟩:=hp; exact (Zxu _ _ _ _ _ _ hp0 hp1 hp2).lift rfl _
 ·cases h
end Go.Vam
