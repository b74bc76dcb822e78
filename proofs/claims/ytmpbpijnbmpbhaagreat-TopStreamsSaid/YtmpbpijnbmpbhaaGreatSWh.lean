/- A part of the proof. Conditions: none. -/
import Derived.Test.YtmpbpijnbmpbhaaGreatSWe
section
set_option linter.unusedVariables false
set_option linter.defProp false
set_option linter.unusedSimpArgs false
set_option maxRecDepth 40000
set_option maxHeartbeats 4000000
namespace Go.Vam
open Go.Proofs
open Nat renaming reduceShiftRight→Ya,reduceMod→Yb,reduceEqDiff→Yc,reduceLT→Yd,reduceLeDiff→Ye,reduceAdd→Yf,reduceMul→Yg
open Int renaming reduceLE→Yj,reduceLT→Yk,reduceNeg→Yl,reduceAdd→Ym,reduceToNat→Yn
structure Rg where
 c:Int
 q:Int
 w:Int
 r:Int
 l:List Int
def rg0:Rg:=⟨0,0,0,0,[]⟩
theorem Zax (x:Rg):(⟨x.c,x.q,x.w,x.r,x.l⟩:Rg)=x:=rfl
def rgV (x:Rg):Bool:=decide (1≤x.q) && decide (x.q≤65536) && decide (0≤x.r) && decide (x.r≤x.w) && decide (x.w≤1125899906842624) && ZaR x.c x.l && (x.w - x.r==((x.l.length / x.c.toNat:Nat):Int)) && decide (x.w - x.r≤x.q)
theorem ZgZ {x:Rg} (h:rgV x=true):(1≤x.q∧x.q≤65536)∧(0≤x.r∧x.r≤x.w∧x.w≤1125899906842624)∧ZaR x.c x.l=true∧x.w - x.r=((x.l.length / x.c.toNat:Nat):Int)∧x.w - x.r≤x.q:=by
 simp only [rgV,Bool.and_eq_true,decide_eq_true_eq,beq_iff_eq] at h
 obtain ⟨⟨⟨⟨⟨⟨⟨h1,h2⟩,h3⟩,h4⟩,h5⟩,h6⟩,h7⟩,h8⟩:=h
 exact ⟨⟨h1,h2⟩,⟨h3,h4,h5⟩,h6,h7,h8⟩
def rgN (x:Rg):Int:=if rgV x=true then x.w - x.r else 0
def rnE (ch q:Int):Int:=if rgV ⟨ch,q,0,0,[]⟩=true then 0 else 2
def rnR (ch q:Int):Rg:=if rgV ⟨ch,q,0,0,[]⟩=true then ⟨ch,q,0,0,[]⟩ else rg0
def rwN (x:Rg) (k:Int) (y:List Int):Int:=min ((y.length / k.toNat:Nat):Int) (x.q - (x.w - x.r))
def rwE (x:Rg) (k:Int) (y:List Int):Int:=if (!rgV x || !ZaR k y)=true then 1 else if k≠x.c then 11 else if 1125899906842624 < x.w+rwN x k y then 2 else 0
def rwR (x:Rg) (k:Int) (y:List Int):Rg:=if rwE x k y=0 then ⟨x.c,x.q,x.w+rwN x k y,x.r,x.l++y.take ((rwN x k y).toNat*k.toNat)⟩ else rg0
def rwL (x:Rg) (k:Int) (y:List Int):Int:=if rwE x k y=0 then ((y.length / k.toNat:Nat):Int) - rwN x k y else 0
def rdN (x:Rg) (i:Int):Int:=min i (x.w - x.r)
def rdE (x:Rg) (i:Int):Int:=if rgV x=false then 1 else if (decide (i < 0) || decide (65536 < i))=true then 2 else 0
def rdC (x:Rg) (i:Int):Int:=if rdE x i=0 then x.c else 0
def rdO (x:Rg) (i:Int):List Int:=if rdE x i=0 then x.l.take ((rdN x i).toNat*x.c.toNat)++List.replicate ((i - rdN x i).toNat*x.c.toNat) 0 else []
def rdM (x:Rg) (i:Int):Int:=if rdE x i=0 then i - rdN x i else 0
def rdR (x:Rg) (i:Int):Rg:=if rdE x i=0 then ⟨x.c,x.q,x.w,x.r+rdN x i,x.l.drop ((rdN x i).toNat*x.c.toNat)⟩ else rg0
def rcL (x:Rg):Rg:=if rgV x=true then ⟨x.c,x.q,x.w,x.w,[]⟩ else rg0
def rcF (x:Rg):Int:=if rgV x=true then 0 else 1
theorem Zqo (c q w r:Int) (l:List Int) (hl:l.length≤1000000):Spec Tryz.prog 0 124 [.agg [.d (.int .i64 c),.d (.int .i64 q),.d (.int .i64 w),.d (.int .i64 r),.d (.list (LI .i32 l))]] [] [] (vB (rgV ⟨c,q,w,r,l⟩)) [] []:=by
 refine sE (md:=fun _=>0) (L:=[(62,Za8)]) [(1,[0,0,0,0,0,536870543,0,0,0,0,0,536842255,0,0,0,0,0,535429135,0,0,0,0,0,419430415,0]),(4,[0,0,0,0,0,1152921298716852239,0,0,0,0,0,1152906180431970319,0,0,0,0,0,1151795604968439823,0,0,0,0,0,1045961013725233167,0,0,0])] 268435471 (Za ZaF Zb) Tryz.func124 rfl rfl rfl ?_
 simp (maxSteps:=1000000) only [↓Zo,Ze,Zd,Zn,gSt,gS0,Ya,Yb,↓reduceIte,reduceCtorEq,Yc,Yd,Ye,Yf,Yg,Yj,Yk,Yl,Ym,Yn,ZJ,Zax,Tryz.ntmps124,Tryz.results124,gTT]
 refine ⟨fun h=>?_,fun h=>⟨by kernel_rfl,hl,fun hb=>?_,?_⟩⟩
 ·cases hv:rgV ⟨c,q,w,r,l⟩ with
  | false=>rfl
  | true =>
   have:=ZgZ hv
   simp only [Bool.or_eq_true,decide_eq_true_eq] at h
   simp only at this
   omega
 ·have:=(ZW hb hl).1
  omega
 simp only [Bool.or_eq_false_iff,decide_eq_false_iff_not] at h
 cases hb:ZaR c l with
 | false=>simp [rgV,hb]
 | true =>
  have hk:=(ZW hb hl).1
  rw [Zc3 hk.1 (by omega),IntWalk.i64_in (w - r) (by omega)]
  unfold rgV
  simp only [hb]
  rw [decide_eq_true (show 1≤q by omega),decide_eq_true (show q≤65536 by omega),decide_eq_true (show 0≤r by omega),decide_eq_true (show r≤w by omega),decide_eq_true (show w≤1125899906842624 by omega)]
  rfl
def Zcy:List V→Zf→Zw→Name→Option Ent
 | [.agg [.d (.int .i64 c),.d (.int .i64 q),.d (.int .i64 w),.d (.int .i64 r),.d (.list q_l)]],[],[],_=>some ⟨(Zc q_l).length≤1000000∧q_l=LI .i32 (Zc q_l),vB (rgV ⟨c,q,w,r,(Zc q_l)⟩),[],[]⟩
 | _,_,_,_=>none
def ZeB:=And.intro (@Zcy.eq_1) (@Zcy.eq_1)
theorem ZeC:Snd Tryz.prog 124 Zcy:=by
 intro vs b k n e h hn hp
 unfold Zcy at h
 split at h
 ·cases h; obtain ⟨hp0,hq0⟩:=hp; obtain ⟨_,rfl⟩:=Zu hq0; simp only [Zi,Zp,Zj,Zq] at hp0 ⊢; exact (Zqo _ _ _ _ _ hp0).lift rfl _
 ·cases h
theorem ZsR (c q w r:Int) (l:List Int) (hl:l.length≤1000000):Spec Tryz.prog 0 130 [.agg [.d (.int .i64 c),.d (.int .i64 q),.d (.int .i64 w),.d (.int .i64 r),.d (.list (LI .i32 l))]] [] [] (vI .i64 (rgN ⟨c,q,w,r,l⟩)) [] []:=by
 refine spec_of_E (X:=⟨Tryz.prog,tt,Tryz.f130.ntmps,1,fun _=>0,(tab [(124,Zcy)])⟩) (M:=[]) (m:=39) rfl rfl ⟨Zah,ZU (Za ZeC Zb) _ rfl rfl⟩ ZB Tryz.func130 rfl (by decide) (by show (1:Nat)≤_; exact Nat.le_of_ble_eq_true rfl) ⟨by simp [V.has,C.has],by simp [C.has],by simp⟩ ?_
 simp (maxSteps:=1000000) only [↓Zo,Ze,Zd,Zn,gSt,gS0,Ya,Yb,↓reduceIte,reduceCtorEq,Yc,Yd,Ye,Yf,Yg,Yj,Yk,Yl,Ym,Yn,ZeB,Zax,Tryz.ntmps130,Tryz.results130,gTT]
 refine ⟨hl,fun h=>by simp [rgN,h],fun h=>?_⟩
 have hv:rgV ⟨c,q,w,r,l⟩=true:=by simpa using h
 have:=ZgZ hv
 simp only at this
 rw [IntWalk.i64_in (w - r) (by omega)]
 simp [rgN,hv]
def Zgx:List V→Zf→Zw→Name→Option Ent
 | [.agg [.d (.int .i64 c),.d (.int .i64 q),.d (.int .i64 w),.d (.int .i64 r),.d (.list q_l)]],[],[],_=>some ⟨(Zc q_l).length≤1000000∧q_l=LI .i32 (Zc q_l),vI .i64 (rgN ⟨c,q,w,r,(Zc q_l)⟩),[],[]⟩
 | _,_,_,_=>none
def Zrt:=And.intro (@Zgx.eq_1) (@Zgx.eq_1)
theorem Zru:Snd Tryz.prog 130 Zgx:=by
 intro vs b k n e h hn hp
 unfold Zgx at h
 split at h
 ·cases h; obtain ⟨hp0,hq0⟩:=hp; obtain ⟨_,rfl⟩:=Zu hq0; simp only [Zi,Zp,Zj,Zq] at hp0 ⊢; exact (ZsR _ _ _ _ _ hp0).lift rfl _
 ·cases h
theorem ZwO (ch q:Int):Spec Tryz.prog 0 48 [vI .i64 ch,vI .i64 q] [] [] (.tup [.agg [.int .i64 (rnR ch q).c,.int .i64 (rnR ch q).q,.int .i64 (rnR ch q).w,.int .i64 (rnR ch q).r,.list (LI .i32 (rnR ch q).l)],.int .i64 (rnE ch q)]) [] []:=by
 refine sE (md:=fun _=>0) (L:=[(124,Zcy)]) [] 4211 (Za ZeC Zb) Tryz.func48 rfl rfl rfl ?_
 simp (maxSteps:=1000000) only [↓Zo,Ze,Zd,Zn,gSt,gS0,Ya,Yb,↓reduceIte,reduceCtorEq,Yc,Yd,Ye,Yf,Yg,Yj,Yk,Yl,Ym,Yn,ZeB,Zax,Tryz.ntmps48,Tryz.results48,gTT]
 refine ⟨fun h=>by simp [rnE,rnR,h,rg0,Zy],fun h=>?_⟩
 have hv:rgV ⟨ch,q,0,0,[]⟩=true:=by simpa using h
 simp [rnE,rnR,hv,Zy]
def Zjh:List V→Zf→Zw→Name→Option Ent
 | [.c (.d (.int .i64 ch)),.c (.d (.int .i64 q))],[],[],_=>some ⟨True,.tup [.agg [.int .i64 (rnR ch q).c,.int .i64 (rnR ch q).q,.int .i64 (rnR ch q).w,.int .i64 (rnR ch q).r,.list (LI .i32 (rnR ch q).l)],.int .i64 (rnE ch q)],[],[]⟩
 | _,_,_,_=>none
def Zvl:=And.intro (@Zjh.eq_1) (@Zjh.eq_1)
theorem Zvm:Snd Tryz.prog 48 Zjh:=by
 intro vs b k n e h hn hp
 unfold Zjh at h
 split at h
 ·cases h; exact (ZwO _ _).lift rfl _
 ·cases h
theorem Zqn (c q w r:Int) (l:List Int):Spec Tryz.prog 0 246 [.agg [.d (.int .i64 c),.d (.int .i64 q),.d (.int .i64 w),.d (.int .i64 r),.d (.list (LI .i32 l))]] [] [] (.agg [.d (.int .i64 c),.d (.list (LI .i32 l))]) [] []:=by
 refine sE (md:=fun _=>0) (L:=[]) [] 7 Zb Tryz.func246 rfl rfl rfl ?_
 simp (maxSteps:=1000000) only [↓Zo,Ze,Zd,Zn,gSt,gS0,Ya,Yb,↓reduceIte,reduceCtorEq,Yc,Yd,Ye,Yf,Yg,Yj,Yk,Yl,Ym,Yn,Zax,Tryz.ntmps246,Tryz.results246,gTT]
def ZeA:List V→Zf→Zw→Name→Option Ent
 | [.agg [.d (.int .i64 c),.d (.int .i64 q),.d (.int .i64 w),.d (.int .i64 r),.d (.list q_l)]],[],[],_=>some ⟨q_l=LI .i32 (Zc q_l),.agg [.d (.int .i64 c),.d (.list (LI .i32 (Zc q_l)))],[],[]⟩
 | _,_,_,_=>none
def Zoi:=And.intro (@ZeA.eq_1) (@ZeA.eq_1)
theorem Zoj:Snd Tryz.prog 246 ZeA:=by
 intro vs b k n e h hn hp
 unfold ZeA at h
 split at h
 ·cases h; have hq0:=hp; obtain ⟨_,rfl⟩:=Zu hq0; simp only [Zi,Zp,Zj,Zq]; exact (Zqn _ _ _ _ _).lift rfl _
 ·cases h
theorem Zng (c q w r:Int) (l:List Int) (hl:l.length≤1000000):Spec Tryz.prog 0 204 [.agg [.d (.int .i64 c),.d (.int .i64 q),.d (.int .i64 w),.d (.int .i64 r),.d (.list (LI .i32 l))]] [] [] (vB (rgV ⟨c,q,w,r,l⟩)) [] []:=by
 refine sE (md:=fun _=>0) (L:=[(246,ZeA),(30,ZaW)]) [(1,[0,0,0,0,0,144115188075855687,0,0,0,0,0,144115188075841543,0,0,0,0,0,144115188075134983,0,0,0,0,0,144115188017135623,0,0,0,0,0,144115183780888583,0,0,0,0,0,144114990507360263,0,0,0,0,0,144098154235559943,0,0,0,0,0,143692975610789895,0,0,0,0,0,72057594037927943,0])] 7 (Za Zoj (Za ZaY Zb)) Tryz.func204 rfl rfl rfl ?_
 simp (maxSteps:=1000000) only [↓Zo,Ze,Zd,Zn,gSt,gS0,Ya,Yb,↓reduceIte,reduceCtorEq,Yc,Yd,Ye,Yf,Yg,Yj,Yk,Yl,Ym,Yn,Zoi,ZaX,Zax,Tryz.ntmps204,Tryz.results204,gTT]
 refine ⟨by kernel_rfl,fun _=>hl,fun h=>?_,?_⟩
 ·simp only [Bool.and_eq_true] at h
  have:=(ZW h.2 hl).1
  omega
 by_cases hq:1≤q∧q≤65536∧0≤r∧r≤w∧w≤1125899906842624
 ·cases hb:ZaR c l with
  | false=>simp [rgV,hb]
  | true =>
   have hk:=(ZW hb hl).1
   rw [Zc3 hk.1 (by omega),IntWalk.i64_in (w - r) (by omega)]
   unfold rgV
   simp only [hb]
   rw [decide_eq_true hq.1,decide_eq_true hq.2.1,decide_eq_true hq.2.2.1,decide_eq_true hq.2.2.2.1,decide_eq_true hq.2.2.2.2,BEq.comm (a:=w - r)]
 ·have e:(decide (1≤q) && decide (q≤65536) && decide (0≤r) && decide (r≤w) && decide (w≤1125899906842624))=false:=by
   cases he:(decide (1≤q) && decide (q≤65536) && decide (0≤r) && decide (r≤w) && decide (w≤1125899906842624)) with
   | false=>rfl
   | true=>simp only [Bool.and_eq_true,decide_eq_true_eq] at he; omega
  unfold rgV
  simp only
  rw [e]
  rfl
def ZaN:List V→Zf→Zw→Name→Option Ent
 | [.agg [.d (.int .i64 c),.d (.int .i64 q),.d (.int .i64 w),.d (.int .i64 r),.d (.list q_l)]],[],[],_=>some ⟨(Zc q_l).length≤1000000∧q_l=LI .i32 (Zc q_l),vB (rgV ⟨c,q,w,r,(Zc q_l)⟩),[],[]⟩
 | _,_,_,_=>none
def Zbb:=And.intro (@ZaN.eq_1) (@ZaN.eq_1)
theorem Zbc:Snd Tryz.prog 204 ZaN:=by
 intro vs b k n e h hn hp
 unfold ZaN at h
 split at h
 ·cases h; obtain ⟨hp0,hq0⟩:=hp; obtain ⟨_,rfl⟩:=Zu hq0; simp only [Zi,Zp,Zj,Zq] at hp0 ⊢; exact (Zng _ _ _ _ _ hp0).lift rfl _
 ·cases h
theorem Zqq (c q w r:Int) (l:List Int) (hl:l.length≤1000000):Spec Tryz.prog 0 247 [.agg [.d (.int .i64 c),.d (.int .i64 q),.d (.int .i64 w),.d (.int .i64 r),.d (.list (LI .i32 l))]] [] [] (vI .i64 (rgN ⟨c,q,w,r,l⟩)) [] []:=by
 refine spec_of_E (X:=⟨Tryz.prog,tt,Tryz.f247.ntmps,1,fun _=>0,(tab [(204,ZaN)])⟩) (M:=[]) (m:=39) rfl rfl ⟨Zah,ZU (Za Zbc Zb) _ rfl rfl⟩ ZB Tryz.func247 rfl (by decide) (by show (1:Nat)≤_; exact Nat.le_of_ble_eq_true rfl) ⟨by simp [V.has,C.has],by simp [C.has],by simp⟩ ?_
 simp (maxSteps:=1000000) only [↓Zo,Ze,Zd,Zn,gSt,gS0,Ya,Yb,↓reduceIte,reduceCtorEq,Yc,Yd,Ye,Yf,Yg,Yj,Yk,Yl,Ym,Yn,Zbb,Zax,Tryz.ntmps247,Tryz.results247,gTT]
 refine ⟨hl,fun h=>by simp [rgN,h],fun h=>?_⟩
 have hv:rgV ⟨c,q,w,r,l⟩=true:=by simpa using h
 have:=ZgZ hv
 simp only at this
 rw [IntWalk.i64_in (w - r) (by omega)]
 simp [rgN,hv]
def Zcz:List V→Zf→Zw→Name→Option Ent
 | [.agg [.d (.int .i64 c),.d (.int .i64 q),.d (.int .i64 w),.d (.int .i64 r),.d (.list q_l)]],[],[],_=>some ⟨(Zc q_l).length≤1000000∧q_l=LI .i32 (Zc q_l),vI .i64 (rgN ⟨c,q,w,r,(Zc q_l)⟩),[],[]⟩
 | _,_,_,_=>none
def ZeD:=And.intro (@Zcz.eq_1) (@Zcz.eq_1)
theorem ZeE:Snd Tryz.prog 247 Zcz:=by
 intro vs b k n e h hn hp
 unfold Zcz at h
 split at h
 ·cases h; obtain ⟨hp0,hq0⟩:=hp; obtain ⟨_,rfl⟩:=Zu hq0; simp only [Zi,Zp,Zj,Zq] at hp0 ⊢; exact (Zqq _ _ _ _ _ hp0).lift rfl _
 ·cases h
theorem ZsW (ch q:Int):Spec Tryz.prog 0 144 [vI .i64 ch,vI .i64 q] [] [] (.tup [.agg [.int .i64 (rnR ch q).c,.int .i64 (rnR ch q).q,.int .i64 (rnR ch q).w,.int .i64 (rnR ch q).r,.list (LI .i32 (rnR ch q).l)],.int .i64 (rnE ch q)]) [] []:=by
 refine sE (md:=fun _=>0) (L:=[(204,ZaN)]) [] 4211 (Za Zbc Zb) Tryz.func144 rfl rfl rfl ?_
 simp (maxSteps:=1000000) only [↓Zo,Ze,Zd,Zn,gSt,gS0,Ya,Yb,↓reduceIte,reduceCtorEq,Yc,Yd,Ye,Yf,Yg,Yj,Yk,Yl,Ym,Yn,Zbb,Zax,Tryz.ntmps144,Tryz.results144,gTT]
 refine ⟨fun h=>by simp [rnE,rnR,h,rg0,Zy],fun h=>?_⟩
 have hv:rgV ⟨ch,q,0,0,[]⟩=true:=by simpa using h
 simp [rnE,rnR,hv,Zy]
def ZgA:List V→Zf→Zw→Name→Option Ent
 | [.c (.d (.int .i64 ch)),.c (.d (.int .i64 q))],[],[],_=>some ⟨True,.tup [.agg [.int .i64 (rnR ch q).c,.int .i64 (rnR ch q).q,.int .i64 (rnR ch q).w,.int .i64 (rnR ch q).r,.list (LI .i32 (rnR ch q).l)],.int .i64 (rnE ch q)],[],[]⟩
 | _,_,_,_=>none
def Zrx:=And.intro (@ZgA.eq_1) (@ZgA.eq_1)
theorem Zry:Snd Tryz.prog 144 ZgA:=by
 intro vs b k n e h hn hp
 unfold ZgA at h
 split at h
 ·cases h; exact (ZsW _ _).lift rfl _
 ·cases h
theorem Znf (c q w r:Int) (l:List Int) (hl:l.length≤1000000):Spec Tryz.prog 0 248 [.agg [.d (.int .i64 c),.d (.int .i64 q),.d (.int .i64 w),.d (.int .i64 r),.d (.list (LI .i32 l))]] [] [] (.tup [.agg [.int .i64 (rcL ⟨c,q,w,r,l⟩).c,.int .i64 (rcL ⟨c,q,w,r,l⟩).q,.int .i64 (rcL ⟨c,q,w,r,l⟩).w,.int .i64 (rcL ⟨c,q,w,r,l⟩).r,.list (LI .i32 (rcL ⟨c,q,w,r,l⟩).l)],.int .i64 (rcF ⟨c,q,w,r,l⟩)]) [] []:=by
 refine sE (md:=fun _=>0) (L:=[(204,ZaN)]) [] 79 (Za Zbc Zb) Tryz.func248 rfl rfl rfl ?_
 simp (maxSteps:=1000000) only [↓Zo,Ze,Zd,Zn,gSt,gS0,Ya,Yb,↓reduceIte,reduceCtorEq,Yc,Yd,Ye,Yf,Yg,Yj,Yk,Yl,Ym,Yn,Zbb,Zax,Tryz.ntmps248,Tryz.results248,gTT]
 refine ⟨hl,fun h=>by simp [rcL,rcF,h,rg0,Zy],fun h=>?_⟩
 have hv:rgV ⟨c,q,w,r,l⟩=true:=by simpa using h
 simp [rcL,rcF,hv,Zy]
def Zdr:List V→Zf→Zw→Name→Option Ent
 | [.agg [.d (.int .i64 c),.d (.int .i64 q),.d (.int .i64 w),.d (.int .i64 r),.d (.list q_l)]],[],[],_=>some ⟨(Zc q_l).length≤1000000∧q_l=LI .i32 (Zc q_l),.tup [.agg [.int .i64 (rcL ⟨c,q,w,r,(Zc q_l)⟩).c,.int .i64 (rcL ⟨c,q,w,r,(Zc q_l)⟩).q,.int .i64 (rcL ⟨c,q,w,r,(Zc q_l)⟩).w,.int .i64 (rcL ⟨c,q,w,r,(Zc q_l)⟩).r,.list (LI .i32 (rcL ⟨c,q,w,r,(Zc q_l)⟩).l)],.int .i64 (rcF ⟨c,q,w,r,(Zc q_l)⟩)],[],[]⟩
 | _,_,_,_=>none
def Zmp:=And.intro (@Zdr.eq_1) (@Zdr.eq_1)
theorem Zmq:Snd Tryz.prog 248 Zdr:=by
 intro vs b k n e h hn hp
 unfold Zdr at h
 split at h
 ·cases h; obtain ⟨hp0,hq0⟩:=hp; obtain ⟨_,rfl⟩:=Zu hq0; simp only [Zi,Zp,Zj,Zq] at hp0 ⊢; exact (Znf _ _ _ _ _ hp0).lift rfl _
 ·cases h
theorem Znh (c q w r:Int) (l:List Int) (k:Int) (y:List Int) (hl:l.length≤1000000) (hy:y.length≤1000000):Spec Tryz.prog 0 211 [.agg [.d (.int .i64 c),.d (.int .i64 q),.d (.int .i64 w),.d (.int .i64 r),.d (.list (LI .i32 l))],.agg [.d (.int .i64 k),.d (.list (LI .i32 y))]] [] [] (.tup [.agg [.int .i64 (rwR ⟨c,q,w,r,l⟩ k y).c,.int .i64 (rwR ⟨c,q,w,r,l⟩ k y).q,.int .i64 (rwR ⟨c,q,w,r,l⟩ k y).w,.int .i64 (rwR ⟨c,q,w,r,l⟩ k y).r,.list (LI .i32 (rwR ⟨c,q,w,r,l⟩ k y).l)],.int .i64 (rwL ⟨c,q,w,r,l⟩ k y),.int .i64 (rwE ⟨c,q,w,r,l⟩ k y)]) [] []:=by
 refine sE (md:=fun _=>0) (L:=[(204,ZaN),(30,ZaW),(20,ZbY),(247,Zcz)]) [(9,[0,0,0,0,0,2245340187132415,0,0,0,0,0,1688987303477759,0])] 137443213823 (Za Zbc (Za ZaY (Za ZbN (Za ZeE Zb)))) Tryz.func211 rfl rfl rfl ?_
 simp (maxSteps:=1000000) only [↓Zo,Ze,Zd,Zn,gSt,gS0,Ya,Yb,↓reduceIte,reduceCtorEq,Yc,Yd,Ye,Yf,Yg,Yj,Yk,Yl,Ym,Yn,Zbb,ZaX,ZbM,ZeD,Zax,Tryz.ntmps211,Tryz.results211,gTT]
 refine ⟨hl,fun _=>hy,fun h=>?_,fun h=>⟨fun h2=>?_,fun h2=>?_⟩⟩
 ·have e:rwE ⟨c,q,w,r,l⟩ k y=1:=by unfold rwE; rw [if_pos h]
  simp [rwR,rwL,e,rg0,Zy]
 ·have hk:k≠c:=by simpa using h2
  have e:rwE ⟨c,q,w,r,l⟩ k y=11:=by unfold rwE; rw [if_neg (by rw [h]; decide),if_pos hk]
  simp [rwR,rwL,e,rg0,Zy]
 have hv:rgV ⟨c,q,w,r,l⟩=true∧ZaR k y=true:=by
  simp only [Bool.or_eq_false_iff,Bool.not_eq_false'] at h
  exact h
 obtain ⟨hv,hb⟩:=hv
 have hk:k=c:=by simpa using h2
 obtain ⟨v1,v2,v3,v4,v5⟩:=ZgZ hv
 simp only at v1 v2 v3 v4 v5
 obtain ⟨⟨k1,k2⟩,k3,k4,k5⟩:=ZW hb hy
 have hz:((y.length / k.toNat:Nat):Int)≤65536:=Int.ofNat_le.2 k4
 have hz0:0≤((y.length / k.toNat:Nat):Int):=Int.natCast_nonneg _
 have eF:rgN ⟨c,q,w,r,l⟩=w - r:=by unfold rgN; rw [if_pos hv]
 have hN:rwN ⟨c,q,w,r,l⟩ k y=min ((y.length / k.toNat:Nat):Int) (q - (w - r)):=rfl
 have hzk:(rwN ⟨c,q,w,r,l⟩ k y).toNat*k.toNat≤y.length / k.toNat*k.toNat:=Nat.mul_le_mul_right _ (by omega)
 have hkk:(k.toNat:Int)=k:=by omega
 have hm:rwN ⟨c,q,w,r,l⟩ k y*k=(((rwN ⟨c,q,w,r,l⟩ k y).toNat*k.toNat:Nat):Int):=by rw [Int.natCast_mul,hkk]; congr 1; omega
 have eN:(if IntKind.i64.wrap (q - rgN ⟨c,q,w,r,l⟩) < ((y.length / k.toNat:Nat):Int) then IntKind.i64.wrap (q - rgN ⟨c,q,w,r,l⟩) else ((y.length / k.toNat:Nat):Int))=rwN ⟨c,q,w,r,l⟩ k y:=by
  rw [eF,IntWalk.i64_in (q - _) (by omega),hN]
  split <;> omega
 rw [if_pos hb,eN,IntWalk.i64_in (w+_) (by omega),IntWalk.i64_in (rwN ⟨c,q,w,r,l⟩ k y*k) (by omega),hm,Int.toNat_natCast,Nat.sub_zero,IntWalk.i64_in (_ - rwN ⟨c,q,w,r,l⟩ k y) (by omega)]
 refine ⟨hy,by kernel_rfl,hl,fun h3=>?_,fun h3=>⟨by kernel_rfl,by unfold Zag; omega,⟨by omega,by omega,by omega⟩,by unfold Zag; rw [List.length_take]; omega,?_⟩⟩
 ·have e:rwE ⟨c,q,w,r,l⟩ k y=2:=by unfold rwE; rw [if_neg (by rw [h]; decide),if_neg (by simpa using hk),if_pos (of_decide_eq_true h3)]
  simp [rwR,rwL,e,rg0,Zy]
 have e:rwE ⟨c,q,w,r,l⟩ k y=0:=by unfold rwE; rw [if_neg (by rw [h]; decide),if_neg (by simpa using hk),if_neg (of_decide_eq_false h3)]
 simp [rwR,rwL,e]
def Zds:List V→Zf→Zw→Name→Option Ent
 | [.agg [.d (.int .i64 c),.d (.int .i64 q),.d (.int .i64 w),.d (.int .i64 r),.d (.list q_l)],.agg [.d (.int .i64 k),.d (.list q_y)]],[],[],_=>some ⟨(Zc q_l).length≤1000000∧(Zc q_y).length≤1000000∧q_l=LI .i32 (Zc q_l)∧q_y=LI .i32 (Zc q_y),.tup [.agg [.int .i64 (rwR ⟨c,q,w,r,(Zc q_l)⟩ k (Zc q_y)).c,.int .i64 (rwR ⟨c,q,w,r,(Zc q_l)⟩ k (Zc q_y)).q,.int .i64 (rwR ⟨c,q,w,r,(Zc q_l)⟩ k (Zc q_y)).w,.int .i64 (rwR ⟨c,q,w,r,(Zc q_l)⟩ k (Zc q_y)).r,.list (LI .i32 (rwR ⟨c,q,w,r,(Zc q_l)⟩ k (Zc q_y)).l)],.int .i64 (rwL ⟨c,q,w,r,(Zc q_l)⟩ k (Zc q_y)),.int .i64 (rwE ⟨c,q,w,r,(Zc q_l)⟩ k (Zc q_y))],[],[]⟩
 | _,_,_,_=>none
def Zmr:=And.intro (@Zds.eq_1) (@Zds.eq_1)
theorem Zms:Snd Tryz.prog 211 Zds:=by
 intro vs b k n e h hn hp
 unfold Zds at h
 split at h
 ·cases h; obtain ⟨hp0,hp1,hq0,hq1⟩:=hp; obtain ⟨_,rfl⟩:=Zu hq0; obtain ⟨_,rfl⟩:=Zu hq1; simp only [Zi,Zp,Zj,Zq] at hp0 hp1 ⊢; exact (Znh _ _ _ _ _ _ _ hp0 hp1).lift rfl _
 ·cases h
theorem Zqr (c q w r:Int) (l:List Int) (i:Int) (hl:l.length≤1000000):Spec Tryz.prog 0 212 [.agg [.d (.int .i64 c),.d (.int .i64 q),.d (.int .i64 w),.d (.int .i64 r),.d (.list (LI .i32 l))],vI .i64 i] [] [] (.tup [.agg [.int .i64 (rdC ⟨c,q,w,r,l⟩ i),.list (LI .i32 (rdO ⟨c,q,w,r,l⟩ i))],.int .i64 (rdM ⟨c,q,w,r,l⟩ i),.agg [.int .i64 (rdR ⟨c,q,w,r,l⟩ i).c,.int .i64 (rdR ⟨c,q,w,r,l⟩ i).q,.int .i64 (rdR ⟨c,q,w,r,l⟩ i).w,.int .i64 (rdR ⟨c,q,w,r,l⟩ i).r,.list (LI .i32 (rdR ⟨c,q,w,r,l⟩ i).l)],.int .i64 (rdE ⟨c,q,w,r,l⟩ i)]) [] []:=by
 refine sE (md:=fun _=>0) (L:=[(204,ZaN),(247,Zcz)]) [(6,[0,0,0,0,0,274073654263,0,0,0,0,0,137440007159,0])] 1053687 (Za Zbc (Za ZeE Zb)) Tryz.func212 rfl rfl rfl ?_
 simp (maxSteps:=1000000) only [↓Zo,Ze,Zd,Zn,gSt,gS0,Ya,Yb,↓reduceIte,reduceCtorEq,Yc,Yd,Ye,Yf,Yg,Yj,Yk,Yl,Ym,Yn,Zbb,ZeD,Zax,Tryz.ntmps212,Tryz.results212,gTT]
 refine ⟨hl,fun h=>?_,fun h=>⟨fun h2=>?_,fun h2=>?_⟩⟩
 ·have e:rdE ⟨c,q,w,r,l⟩ i=1:=by unfold rdE; rw [if_pos h]
  simp [rdC,rdO,rdM,rdR,e,rg0,Zy]
 ·have hv:rgV ⟨c,q,w,r,l⟩=true:=by simpa using h
  have e:rdE ⟨c,q,w,r,l⟩ i=2:=by unfold rdE; rw [if_neg (by rw [hv]; decide),if_pos h2]
  simp [rdC,rdO,rdM,rdR,e,rg0,Zy]
 have hv:rgV ⟨c,q,w,r,l⟩=true:=by simpa using h
 have hi:0≤i∧i≤65536:=by simp only [Bool.or_eq_false_iff,decide_eq_false_iff_not] at h2; omega
 obtain ⟨v1,v2,v3,v4,v5⟩:=ZgZ hv
 simp only at v1 v2 v3 v4 v5
 obtain ⟨⟨k1,k2⟩,k3,k4,k5⟩:=ZW v3 hl
 have hz:((l.length / c.toNat:Nat):Int)≤65536:=Int.ofNat_le.2 k4
 have eF:rgN ⟨c,q,w,r,l⟩=w - r:=by unfold rgN; rw [if_pos hv]
 have hN:rdN ⟨c,q,w,r,l⟩ i=min i (w - r):=rfl
 have eK:(if w - r < i then w - r else i)=rdN ⟨c,q,w,r,l⟩ i:=by rw [hN]; split <;> omega
 have hcc:(c.toNat:Int)=c:=by omega
 have hm:rdN ⟨c,q,w,r,l⟩ i*c=(((rdN ⟨c,q,w,r,l⟩ i).toNat*c.toNat:Nat):Int):=by rw [Int.natCast_mul,hcc]; congr 1; omega
 have hmi:i*c=((i.toNat*c.toNat:Nat):Int):=by rw [Int.natCast_mul,hcc]; congr 1; omega
 have hle:(rdN ⟨c,q,w,r,l⟩ i).toNat*c.toNat≤l.length:=by rw [k3]; exact Nat.mul_le_mul_right _ (by omega)
 have hlei:(rdN ⟨c,q,w,r,l⟩ i).toNat*c.toNat≤i.toNat*c.toNat:=Nat.mul_le_mul_right _ (by omega)
 have hib:=Nat.mul_le_mul (show i.toNat≤65536 by omega) (show c.toNat≤8 by omega)
 have hsub:i.toNat*c.toNat - (rdN ⟨c,q,w,r,l⟩ i).toNat*c.toNat=(i - rdN ⟨c,q,w,r,l⟩ i).toNat*c.toNat:=by rw [← Nat.sub_mul]; congr 1; omega
 have htl:(l.take ((rdN ⟨c,q,w,r,l⟩ i).toNat*c.toNat)).length=(rdN ⟨c,q,w,r,l⟩ i).toNat*c.toNat:=by rw [List.length_take]; omega
 have e:rdE ⟨c,q,w,r,l⟩ i=0:=by unfold rdE; rw [if_neg (by rw [hv]; decide),if_neg (by rw [h2]; decide)]
 have hmm:(i - rdN ⟨c,q,w,r,l⟩ i)*c=(((i - rdN ⟨c,q,w,r,l⟩ i).toNat*c.toNat:Nat):Int):=by rw [Int.natCast_mul,hcc]; congr 1; omega
 rw [eF,eK,hm,IntWalk.i64_in _ (by omega),IntWalk.i64_in (i - _) (by omega),hmm,IntWalk.i64_in _ (by omega),Int.toNat_natCast,Int.toNat_natCast,Nat.sub_zero]
 refine ⟨hl,by kernel_rfl,⟨by omega,by omega,by omega⟩,by unfold Zag; omega,⟨by omega,by omega,by omega⟩,by unfold Zag; rw [List.length_replicate]; omega,⟨by omega,by omega,by omega⟩,by unfold Zag; rw [List.length_take,List.length_drop]; omega,by kernel_rfl,?_⟩
 have htk:(l.drop ((rdN ⟨c,q,w,r,l⟩ i).toNat*c.toNat)).take (l.length - (rdN ⟨c,q,w,r,l⟩ i).toNat*c.toNat)=l.drop ((rdN ⟨c,q,w,r,l⟩ i).toNat*c.toNat):=List.take_of_length_le (by rw [List.length_drop]; omega)
 rw [htk,IntWalk.i64_in (r+_) (by omega)]
 simp [rdC,rdO,rdM,rdR,e]
def ZeF:List V→Zf→Zw→Name→Option Ent
 | [.agg [.d (.int .i64 c),.d (.int .i64 q),.d (.int .i64 w),.d (.int .i64 r),.d (.list q_l)],.c (.d (.int .i64 i))],[],[],_=>some ⟨(Zc q_l).length≤1000000∧q_l=LI .i32 (Zc q_l),.tup [.agg [.int .i64 (rdC ⟨c,q,w,r,(Zc q_l)⟩ i),.list (LI .i32 (rdO ⟨c,q,w,r,(Zc q_l)⟩ i))],.int .i64 (rdM ⟨c,q,w,r,(Zc q_l)⟩ i),.agg [.int .i64 (rdR ⟨c,q,w,r,(Zc q_l)⟩ i).c,.int .i64 (rdR ⟨c,q,w,r,(Zc q_l)⟩ i).q,.int .i64 (rdR ⟨c,q,w,r,(Zc q_l)⟩ i).w,.int .i64 (rdR ⟨c,q,w,r,(Zc q_l)⟩ i).r,.list (LI .i32 (rdR ⟨c,q,w,r,(Zc q_l)⟩ i).l)],.int .i64 (rdE ⟨c,q,w,r,(Zc q_l)⟩ i)],[],[]⟩
 | _,_,_,_=>none
def Zon:=And.intro (@ZeF.eq_1) (@ZeF.eq_1)
theorem Zoo:Snd Tryz.prog 212 ZeF:=by
 intro vs b k n e h hn hp
 unfold ZeF at h
 split at h
 ·cases h; obtain ⟨hp0,hq0⟩:=hp; obtain ⟨_,rfl⟩:=Zu hq0; simp only [Zi,Zp,Zj,Zq] at hp0 ⊢; exact (Zqr _ _ _ _ _ _ hp0).lift rfl _
 ·cases h
theorem ZsS (c q w r:Int) (l:List Int) (c2 q2 w2 r2:Int) (l2:List Int) (hl:l.length≤1000000000):Spec Tryz.prog 0 205 [.agg [.d (.int .i64 c),.d (.int .i64 q),.d (.int .i64 w),.d (.int .i64 r),.d (.list (LI .i32 l))],.agg [.d (.int .i64 c2),.d (.int .i64 q2),.d (.int .i64 w2),.d (.int .i64 r2),.d (.list (LI .i32 l2))]] [] [] (vB (c==c2 && q==q2 && w==w2 && r==r2 && l==l2)) [] []:=by
 refine sE (md:=fun _=>0) (L:=[(72,Zct)]) [(1,[0,0,0,0,0,274877905951,0,0,0,0,0,274877841439,0,0,0,0,0,274873843743,0,0,0,0,0,274693357599,0,0,0,0,0,268435456031,0,0,0,0])] 31 (Za ZgH Zb) Tryz.func205 rfl rfl rfl ?_
 simp (maxSteps:=1000000) only [↓Zo,Ze,Zd,Zn,gSt,gS0,Ya,Yb,↓reduceIte,reduceCtorEq,Yc,Yd,Ye,Yf,Yg,Yj,Yk,Yl,Ym,Yn,ZgG,Zax,Tryz.ntmps205,Tryz.results205,gTT]
 exact fun _=>hl
def Zgy:List V→Zf→Zw→Name→Option Ent
 | [.agg [.d (.int .i64 c),.d (.int .i64 q),.d (.int .i64 w),.d (.int .i64 r),.d (.list q_l)],.agg [.d (.int .i64 c2),.d (.int .i64 q2),.d (.int .i64 w2),.d (.int .i64 r2),.d (.list q_l2)]],[],[],_=>some ⟨(Zc q_l).length≤1000000000∧q_l=LI .i32 (Zc q_l)∧q_l2=LI .i32 (Zc q_l2),vB (c==c2 && q==q2 && w==w2 && r==r2 && (Zc q_l)==(Zc q_l2)),[],[]⟩
 | _,_,_,_=>none
def Zrv:=And.intro (@Zgy.eq_1) (@Zgy.eq_1)
theorem Zrw:Snd Tryz.prog 205 Zgy:=by
 intro vs b k n e h hn hp
 unfold Zgy at h
 split at h
 ·cases h; obtain ⟨hp0,hq0,hq1⟩:=hp; obtain ⟨_,rfl⟩:=Zu hq0; obtain ⟨_,rfl⟩:=Zu hq1; simp only [Zi,Zp,Zj,Zq] at hp0 ⊢; exact (ZsS _ _ _ _ _ _ _ _ _ _ hp0).lift rfl _
 ·cases h
end Go.Vam
end
section
set_option linter.unusedVariables false
set_option linter.defProp false
set_option linter.unusedSimpArgs false
set_option maxRecDepth 40000
set_option maxHeartbeats 4000000
namespace Go.Vam
open Go.Proofs
open Nat renaming reduceShiftRight→Ya,reduceMod→Yb,reduceEqDiff→Yc,reduceLT→Yd,reduceLeDiff→Ye,reduceAdd→Yf,reduceMul→Yg
open Int renaming reduceLE→Yj,reduceLT→Yk,reduceNeg→Yl,reduceAdd→Ym,reduceToNat→Yn
theorem ZaD (x:Ph):(⟨x.n,x.d,x.a,x.p,x.f⟩:Ph)=x:=rfl
theorem ZaE (x:Rs):(⟨x.c,x.p,x.l⟩:Rs)=x:=rfl
structure Sm where
 di:Int
 st:Int
 q:Int
 s0:Int
 r:Rs
 g:Rg
 wr:Int
 pl:Int
 mi:Int
def sm0:Sm:=⟨0,0,0,0,rs0,rg0,0,0,0⟩
def smD (x:Sm):List D:=[.int .i64 (x).di,.int .i64 (x).st,.int .i64 (x).q,.int .i64 (x).s0,.int .i64 (x).r.c,.int .i64 (x).r.p.n,.int .i64 (x).r.p.d,.int .i64 (x).r.p.a,.int .i64 (x).r.p.p,.int .i64 (x).r.p.f,.list (LI .i32 (x).r.l),.int .i64 (x).g.c,.int .i64 (x).g.q,.int .i64 (x).g.w,.int .i64 (x).g.r,.list (LI .i32 (x).g.l),.int .i64 (x).wr,.int .i64 (x).pl,.int .i64 (x).mi]
theorem Zcj (x:Sm):smD x=[.int .i64 (x).di,.int .i64 (x).st,.int .i64 (x).q,.int .i64 (x).s0,.int .i64 (x).r.c,.int .i64 (x).r.p.n,.int .i64 (x).r.p.d,.int .i64 (x).r.p.a,.int .i64 (x).r.p.p,.int .i64 (x).r.p.f,.list (LI .i32 (x).r.l),.int .i64 (x).g.c,.int .i64 (x).g.q,.int .i64 (x).g.w,.int .i64 (x).g.r,.list (LI .i32 (x).g.l),.int .i64 (x).wr,.int .i64 (x).pl,.int .i64 (x).mi]:=Eq.trans rfl rfl
def smC (x:Sm):List C:=[.d (.int .i64 (x).di),.d (.int .i64 (x).st),.d (.int .i64 (x).q),.d (.int .i64 (x).s0),.d (.int .i64 (x).r.c),.d (.int .i64 (x).r.p.n),.d (.int .i64 (x).r.p.d),.d (.int .i64 (x).r.p.a),.d (.int .i64 (x).r.p.p),.d (.int .i64 (x).r.p.f),.d (.list (LI .i32 (x).r.l)),.d (.int .i64 (x).g.c),.d (.int .i64 (x).g.q),.d (.int .i64 (x).g.w),.d (.int .i64 (x).g.r),.d (.list (LI .i32 (x).g.l)),.d (.int .i64 (x).wr),.d (.int .i64 (x).pl),.d (.int .i64 (x).mi)]
theorem Z6 (x:Sm):smC x=[.d (.int .i64 (x).di),.d (.int .i64 (x).st),.d (.int .i64 (x).q),.d (.int .i64 (x).s0),.d (.int .i64 (x).r.c),.d (.int .i64 (x).r.p.n),.d (.int .i64 (x).r.p.d),.d (.int .i64 (x).r.p.a),.d (.int .i64 (x).r.p.p),.d (.int .i64 (x).r.p.f),.d (.list (LI .i32 (x).r.l)),.d (.int .i64 (x).g.c),.d (.int .i64 (x).g.q),.d (.int .i64 (x).g.w),.d (.int .i64 (x).g.r),.d (.list (LI .i32 (x).g.l)),.d (.int .i64 (x).wr),.d (.int .i64 (x).pl),.d (.int .i64 (x).mi)]:=Eq.trans rfl rfl
theorem Zck (x:Sm):(⟨x.di,x.st,x.q,x.s0,x.r,x.g,x.wr,x.pl,x.mi⟩:Sm)=x:=rfl
theorem ZcK {x:Rs} (h:rsV x=true) (hl:x.l.length≤1000000):waN x=((x.l.length / x.c.toNat:Nat):Int)∧0≤waN x∧waN x≤65536:=by
 obtain ⟨⟨k1,k2⟩,k3,k4,k5⟩:=ZW (ZD h).2 hl
 have e:waN x=((x.l.length / x.c.toNat:Nat):Int):=if_pos h
 rw [e]
 exact ⟨rfl,Int.natCast_nonneg _,Int.ofNat_le.2 k4⟩
def noG (x:Rg):Bool:=x.c==0 && x.q==0 && x.w==0 && x.r==0 && (x.l.length==0)
def smB (x:Sm):Bool:=decide (1≤x.st) && decide (x.st≤7) && decide (1≤x.q) && decide (x.q≤65536) && decide (0≤x.s0) && decide (x.s0≤x.q) && rsV x.r && (x.r.p.a==0) && decide (0≤x.wr) && decide (0≤x.pl) && decide (0≤x.mi)
def smV (x:Sm):Bool:=smB x && (if x.di=1 then decide (waN x.r≤x.q) && noG x.g else if x.di=2 then rgV x.g && (x.g.q==x.q) && (x.g.c==x.r.c) else false)
theorem Zaa {x:Sm} (h:smB x=true):(1≤x.st∧x.st≤7)∧(1≤x.q∧x.q≤65536)∧(0≤x.s0∧x.s0≤x.q)∧rsV x.r=true∧x.r.p.a=0∧0≤x.wr∧0≤x.pl∧0≤x.mi:=by
 simp only [smB,Bool.and_eq_true,decide_eq_true_eq,beq_iff_eq] at h
 obtain ⟨⟨⟨⟨⟨⟨⟨⟨⟨⟨h1,h2⟩,h3⟩,h4⟩,h5⟩,h6⟩,h7⟩,h8⟩,h9⟩,h10⟩,h11⟩:=h
 exact ⟨⟨h1,h2⟩,⟨h3,h4⟩,⟨h5,h6⟩,h7,h8,h9,h10,h11⟩
theorem Zac {x:Sm} (h:smV x=true):smB x=true∧((x.di=1∧waN x.r≤x.q∧noG x.g=true)∨(x.di=2∧rgV x.g=true∧x.g.q=x.q∧x.g.c=x.r.c)):=by
 unfold smV at h
 rw [Bool.and_eq_true] at h
 obtain ⟨h1,h2⟩:=h
 refine ⟨h1,?_⟩
 split at h2
 ·rename_i hd
  simp only [Bool.and_eq_true,decide_eq_true_eq] at h2
  exact .inl ⟨hd,h2.1,h2.2⟩
 ·split at h2
  ·rename_i hd
   simp only [Bool.and_eq_true,beq_iff_eq] at h2
   exact .inr ⟨hd,h2.1.1,h2.1.2,h2.2⟩
  ·cases h2
theorem Ziu {x:Sm} (h:smV x=true→False):smV x=false:=by
 cases e:smV x with
 | false=>rfl
 | true=>exact (h e).elim
theorem arm {P:Bool} {A T R:Prop} (h1:P=true→A) (h2:P=false→R):(P=true→(P=true→A)∧(P=false→T))∧(P=false→R):=⟨fun h=>⟨h1,fun h'=>by rw [h] at h'; cases h'⟩,h2⟩
theorem ZEv {P:Bool} {A T R:Prop} (h1:P=false→A) (h2:(!P)=false→R):(P=false→(P=false→A)∧((!P)=false→T))∧((!P)=false→R):=⟨fun h=>⟨h1,fun h'=>by rw [h] at h'; cases h'⟩,h2⟩
def smP (x:Sm):Bool:=smV x && (x.di==1)
def smR (x:Sm):Bool:=smV x && (x.di==2)
def smN (x:Sm):Int:=if smV x=false then 0 else if x.di=2 then rgN x.g else waN x.r
def smO (x:Sm):Int:=if smV x=false then 0 else x.q - smN x
theorem ZAr {x:Sm} (h:smV x=true) (hl:x.r.l.length≤1000000):0≤smN x∧smN x≤x.q∧x.q≤65536:=by
 obtain ⟨hB,h2⟩:=Zac h
 have hb:=Zaa hB
 unfold smN
 rw [if_neg (by rw [h]; decide)]
 rcases h2 with ⟨hd,h3,h4⟩ | ⟨hd,h3,h4,h5⟩
 ·rw [if_neg (by omega)]
  have:=(ZcK hb.2.2.2.1 hl).2
  omega
 ·rw [if_pos hd]
  unfold rgN
  rw [if_pos h3]
  have:=ZgZ h3
  omega
def swN (k:Int) (y:List Int):Int:=((y.length / k.toNat:Nat):Int)
def swE (x:Sm) (k:Int) (y:List Int):Int:=if (!smP x || !ZaR k y)=true then 1 else if k≠x.r.c then 11 else if 5≤x.st then 9 else if smO x < swN k y then 10 else 0
def swR (x:Sm) (k:Int) (y:List Int):Sm:=if swE x k y=0 then ⟨x.di,if x.st=1∧0 < swN k y then 2 else x.st,x.q,x.s0,feR x.r k y,x.g,IntKind.i64.wrap (x.wr+swN k y),x.pl,x.mi⟩ else sm0
def srE (x:Sm) (i:Int):Int:=if smR x=false then 1 else if (decide (i < 0) || decide (65536 < i))=true then 2 else if x.st=7 then 9 else 0
def srN (x:Sm) (i:Int):Int:=min i (smN x)
def srC (x:Sm) (i:Int):Int:=if srE x i=0 then rdC x.g (srN x i) else 0
def srO (x:Sm) (i:Int):List Int:=if srE x i=0 then rdO x.g (srN x i) else []
def srR (x:Sm) (i:Int):Sm:=if srE x i=0 then ⟨x.di,x.st,x.q,x.s0,x.r,rdR x.g (srN x i),IntKind.i64.wrap (x.wr+srN x i),x.pl,x.mi⟩ else sm0
def smE (x:Sm):Sm:=⟨x.di,x.st,x.q,x.s0,nwR x.r.c x.r.p.n x.r.p.d,if x.di=2 then rcL x.g else x.g,x.wr,x.pl,x.mi⟩
def snS (di ch n d q s0:Int):Sm:=⟨di,1,q,s0,nwR ch n d,if di=2 then rnR ch q else rg0,0,0,0⟩
def snE (di ch n d q s0:Int):Int:=if smV (snS di ch n d q s0)=true then 0 else 1
def snR (di ch n d q s0:Int):Sm:=if smV (snS di ch n d q s0)=true then snS di ch n d q s0 else sm0
theorem ZA9 (di st q s0 c n d a p f:Int) (l:List Int) (gc gq gw gr:Int) (gl:List Int) (wr pl mi:Int) (hl:l.length≤1000000) (hg:gl.length≤1000000):Spec Tryz.prog 0 53 [.agg (smC ⟨di,st,q,s0,⟨c,⟨n,d,a,p,f⟩,l⟩,⟨gc,gq,gw,gr,gl⟩,wr,pl,mi⟩)] [] [] (.agg [.d (.int .i64 di),.d (.int .i64 st),.d (.int .i64 q),.d (.int .i64 s0),.d (.int .i64 c),.d (.int .i64 n),.d (.int .i64 d),.d (.int .i64 a),.d (.int .i64 p),.d (.int .i64 f),.d (.list (LI .i32 l)),.d (.int .i64 gc),.d (.int .i64 gq),.d (.int .i64 gw),.d (.int .i64 gr),.d (.list (LI .i32 gl)),.d (.int .i64 wr),.d (.int .i64 pl),.d (.int .i64 mi)]) [] []:=by
 refine sE (md:=fun _=>0) (L:=[(131,Zeg)]) [] 7 (Za Ze8 Zb) Tryz.func53 rfl rfl rfl ?_
 simp (maxSteps:=1000000) only [↓Zo,Ze,Zd,Zn,gSt,gS0,Ya,Yb,↓reduceIte,reduceCtorEq,Yc,Yd,Ye,Yf,Yg,Yj,Yk,Yl,Ym,Yn,Zai,Zax,Zck,ZaD,ZaE,Zcj,Z6,Tryz.ntmps53,Tryz.results53,gTT]
 exact ⟨by omega,by omega⟩
def Zjy:List V→Zf→Zw→Name→Option Ent
 | [.agg [.d (.int .i64 di),.d (.int .i64 st),.d (.int .i64 q),.d (.int .i64 s0),.d (.int .i64 c),.d (.int .i64 n),.d (.int .i64 d),.d (.int .i64 a),.d (.int .i64 p),.d (.int .i64 f),.d (.list q_l),.d (.int .i64 gc),.d (.int .i64 gq),.d (.int .i64 gw),.d (.int .i64 gr),.d (.list q_gl),.d (.int .i64 wr),.d (.int .i64 pl),.d (.int .i64 mi)]],[],[],_=>some ⟨(Zc q_l).length≤1000000∧(Zc q_gl).length≤1000000∧q_l=LI .i32 (Zc q_l)∧q_gl=LI .i32 (Zc q_gl),.agg [.d (.int .i64 di),.d (.int .i64 st),.d (.int .i64 q),.d (.int .i64 s0),.d (.int .i64 c),.d (.int .i64 n),.d (.int .i64 d),.d (.int .i64 a),.d (.int .i64 p),.d (.int .i64 f),.d (.list (LI .i32 (Zc q_l))),.d (.int .i64 gc),.d (.int .i64 gq),.d (.int .i64 gw),.d (.int .i64 gr),.d (.list (LI .i32 (Zc q_gl))),.d (.int .i64 wr),.d (.int .i64 pl),.d (.int .i64 mi)],[],[]⟩
 | _,_,_,_=>none
def Zjz:=And.intro (@Zjy.eq_1) (@Zjy.eq_1)
theorem ZjA:Snd Tryz.prog 53 Zjy:=by
 intro vs b k n e h hn hp
 unfold Zjy at h
 split at h
 ·cases h; obtain ⟨hp0,hp1,hq0,hq1⟩:=hp; obtain ⟨_,rfl⟩:=Zu hq0; obtain ⟨_,rfl⟩:=Zu hq1; simp only [Zi,Zp,Zj,Zq] at hp0 hp1 ⊢; exact (ZA9 _ _ _ _ _ _ _ _ _ _ _ _ _ _ _ _ _ _ _ hp0 hp1).lift rfl _
 ·cases h
theorem ZqD (c q w r:Int) (l:List Int):Spec Tryz.prog 0 125 [.agg [.d (.int .i64 c),.d (.int .i64 q),.d (.int .i64 w),.d (.int .i64 r),.d (.list (LI .i32 l))]] [] [] (vB (noG ⟨c,q,w,r,l⟩)) [] []:=by
 refine sE (md:=fun _=>0) (L:=[]) [(1,[0,0,0,0,0,134217543,0,0,0,0,0,134203399,0,0,0,0,0,133169159,0,0,0,0,0,67108871,0])] 7 Zb Tryz.func125 rfl rfl rfl ?_
 simp (maxSteps:=1000000) only [↓Zo,Ze,Zd,Zn,gSt,gS0,Ya,Yb,↓reduceIte,reduceCtorEq,Yc,Yd,Ye,Yf,Yg,Yj,Yk,Yl,Ym,Yn,Zax,Zck,ZaD,ZaE,Zcj,Z6,Tryz.ntmps125,Tryz.results125,gTT]
 unfold noG
 cases l <;> simp
 omega
def ZeK:List V→Zf→Zw→Name→Option Ent
 | [.agg [.d (.int .i64 c),.d (.int .i64 q),.d (.int .i64 w),.d (.int .i64 r),.d (.list q_l)]],[],[],_=>some ⟨q_l=LI .i32 (Zc q_l),vB (noG ⟨c,q,w,r,(Zc q_l)⟩),[],[]⟩
 | _,_,_,_=>none
def ZoA:=And.intro (@ZeK.eq_1) (@ZeK.eq_1)
theorem ZoB:Snd Tryz.prog 125 ZeK:=by
 intro vs b k n e h hn hp
 unfold ZeK at h
 split at h
 ·cases h; have hq0:=hp; obtain ⟨_,rfl⟩:=Zu hq0; simp only [Zi,Zp,Zj,Zq]; exact (ZqD _ _ _ _ _).lift rfl _
 ·cases h
theorem Zs8 (di st q s0 c n d a p f:Int) (l:List Int) (gc gq gw gr:Int) (gl:List Int) (wr pl mi:Int) (hl:l.length≤1000000) (hg:gl.length≤1000000):Spec Tryz.prog 0 49 [.agg (smC ⟨di,st,q,s0,⟨c,⟨n,d,a,p,f⟩,l⟩,⟨gc,gq,gw,gr,gl⟩,wr,pl,mi⟩)] [] [] (vB (smV ⟨di,st,q,s0,⟨c,⟨n,d,a,p,f⟩,l⟩,⟨gc,gq,gw,gr,gl⟩,wr,pl,mi⟩)) [] []:=by
 refine sE (md:=fun _=>0) (L:=[(123,Zbk),(55,ZaZ),(125,ZeK),(124,Zcy)]) [(14,[0,0,0,0,0,285982974384537615,0,0,0,0,0,0]),(16,[0,0,0,0,0,2417796443116623343124495,0,0,0,0,0,2413129416865974826565647,0,0,0,0,0,2158121626791013985026063,0,0,0])] 144119586122366991 (Za Zbv (Za Za1 (Za ZoB (Za ZeC Zb)))) Tryz.func49 rfl rfl rfl ?_
 simp (maxSteps:=1000000) only [↓Zo,Ze,Zd,Zn,gSt,gS0,Ya,Yb,↓reduceIte,reduceCtorEq,Yc,Yd,Ye,Yf,Yg,Yj,Yk,Yl,Ym,Yn,Zbu,Za0,ZoA,ZeB,Zax,Zck,ZaD,ZaE,Zcj,Z6,Tryz.ntmps49,Tryz.results49,gTT]
 have hd:∀ {P:Prop} [Decidable P],decide P=true→P:=fun h=>of_decide_eq_true h
 refine arm (fun h=>Ziu fun h1=>by have h2:=Zaa (Zac h1).1; simp only at h2; have:=of_decide_eq_true h; omega) (fun c0=>?_)
 refine arm (fun h=>Ziu fun h1=>by have h2:=Zaa (Zac h1).1; simp only at h2; have:=of_decide_eq_true h; omega) (fun c1=>?_)
 refine arm (fun h=>Ziu fun h1=>by have h2:=Zaa (Zac h1).1; simp only at h2; have:=of_decide_eq_true h; omega) (fun c2=>?_)
 refine arm (fun h=>Ziu fun h1=>by have h2:=Zaa (Zac h1).1; simp only at h2; have:=of_decide_eq_true h; omega) (fun c3=>?_)
 refine arm (fun h=>Ziu fun h1=>by have h2:=Zaa (Zac h1).1; simp only at h2; have:=of_decide_eq_true h; omega) (fun c4=>?_)
 refine arm (fun h=>Ziu fun h1=>by have h2:=Zaa (Zac h1).1; simp only at h2; have:=of_decide_eq_true h; omega) (fun c5=>?_)
 refine ⟨hl,ZEv (fun h=>Ziu fun h1=>by have h2:=Zaa (Zac h1).1; simp only at h2; rw [h] at h2; exact absurd h2.2.2.2.1 (by decide)) (fun c6=>?_)⟩
 refine arm (fun h=>Ziu fun h1=>by have h2:=Zaa (Zac h1).1; simp only at h2; exact absurd h2.2.2.2.2.1 (by simpa using h)) (fun c7=>?_)
 refine arm (fun h=>Ziu fun h1=>by have h2:=Zaa (Zac h1).1; simp only at h2; have:=of_decide_eq_true h; omega) (fun c8=>?_)
 refine arm (fun h=>Ziu fun h1=>by have h2:=Zaa (Zac h1).1; simp only at h2; have:=of_decide_eq_true h; omega) (fun c9=>?_)
 refine ⟨fun h=>Ziu fun h1=>by have h2:=Zaa (Zac h1).1; simp only at h2; have:=of_decide_eq_true h; omega,fun c10=>?_⟩
 have hB:smB ⟨di,st,q,s0,⟨c,⟨n,d,a,p,f⟩,l⟩,⟨gc,gq,gw,gr,gl⟩,wr,pl,mi⟩=true:=by
  simp only [decide_eq_false_iff_not] at c0 c1 c2 c3 c4 c5 c8 c9 c10
  simp only [smB,Bool.and_eq_true,decide_eq_true_eq,beq_iff_eq]
  exact ⟨⟨⟨⟨⟨⟨⟨⟨⟨⟨by omega,by omega⟩,by omega⟩,by omega⟩,by omega⟩,by omega⟩,by simpa using c6⟩,by simpa using c7⟩,by omega⟩,by omega⟩,by omega⟩
 refine ⟨fun h=>⟨by kernel_rfl,hl,?_⟩,fun h=>⟨fun h2=>⟨hg,?_⟩,fun h2=>?_⟩⟩
 ·have hd:di=1:=by simpa using h
  unfold smV
  rw [hB,if_pos hd]
  rfl
 ·have hd:di=2:=by simpa using h2
  have hd1:¬ di=1:=by omega
  unfold smV
  rw [hB,if_neg hd1,if_pos hd]
  rfl
 ·have hd:¬ di=2:=by simpa using h2
  have hd1:¬ di=1:=by simpa using h
  unfold smV
  rw [hB,if_neg hd1,if_neg hd]
  rfl
def ZdS:List V→Zf→Zw→Name→Option Ent
 | [.agg [.d (.int .i64 di),.d (.int .i64 st),.d (.int .i64 q),.d (.int .i64 s0),.d (.int .i64 c),.d (.int .i64 n),.d (.int .i64 d),.d (.int .i64 a),.d (.int .i64 p),.d (.int .i64 f),.d (.list q_l),.d (.int .i64 gc),.d (.int .i64 gq),.d (.int .i64 gw),.d (.int .i64 gr),.d (.list q_gl),.d (.int .i64 wr),.d (.int .i64 pl),.d (.int .i64 mi)]],[],[],_=>some ⟨(Zc q_l).length≤1000000∧(Zc q_gl).length≤1000000∧q_l=LI .i32 (Zc q_l)∧q_gl=LI .i32 (Zc q_gl),vB (smV ⟨di,st,q,s0,⟨c,⟨n,d,a,p,f⟩,(Zc q_l)⟩,⟨gc,gq,gw,gr,(Zc q_gl)⟩,wr,pl,mi⟩),[],[]⟩
 | _,_,_,_=>none
def ZfH:=And.intro (@ZdS.eq_1) (@ZdS.eq_1)
theorem ZfI:Snd Tryz.prog 49 ZdS:=by
 intro vs b k n e h hn hp
 unfold ZdS at h
 split at h
 ·cases h; obtain ⟨hp0,hp1,hq0,hq1⟩:=hp; obtain ⟨_,rfl⟩:=Zu hq0; obtain ⟨_,rfl⟩:=Zu hq1; simp only [Zi,Zp,Zj,Zq] at hp0 hp1 ⊢; exact (Zs8 _ _ _ _ _ _ _ _ _ _ _ _ _ _ _ _ _ _ _ hp0 hp1).lift rfl _
 ·cases h
theorem ZA6 (di st q s0 c n d a p f:Int) (l:List Int) (gc gq gw gr:Int) (gl:List Int) (wr pl mi:Int) (x:Int) (hl:l.length≤1000000) (hg:gl.length≤1000000):Spec Tryz.prog 0 61 [.agg (smC ⟨di,st,q,s0,⟨c,⟨n,d,a,p,f⟩,l⟩,⟨gc,gq,gw,gr,gl⟩,wr,pl,mi⟩),vI .i64 x] [] [] (vB (smV ⟨di,st,q,s0,⟨c,⟨n,d,a,p,f⟩,l⟩,⟨gc,gq,gw,gr,gl⟩,wr,pl,mi⟩ && (di==x))) [] []:=by
 refine sE (md:=fun _=>0) (L:=[(49,ZdS)]) [] 23 (Za ZfI Zb) Tryz.func61 rfl rfl rfl ?_
 simp (maxSteps:=1000000) only [↓Zo,Ze,Zd,Zn,gSt,gS0,Ya,Yb,↓reduceIte,reduceCtorEq,Yc,Yd,Ye,Yf,Yg,Yj,Yk,Yl,Ym,Yn,ZfH,Zax,Zck,ZaD,ZaE,Zcj,Z6,Tryz.ntmps61,Tryz.results61,gTT]
 exact ⟨hl,hg⟩
def Zjv:List V→Zf→Zw→Name→Option Ent
 | [.agg [.d (.int .i64 di),.d (.int .i64 st),.d (.int .i64 q),.d (.int .i64 s0),.d (.int .i64 c),.d (.int .i64 n),.d (.int .i64 d),.d (.int .i64 a),.d (.int .i64 p),.d (.int .i64 f),.d (.list q_l),.d (.int .i64 gc),.d (.int .i64 gq),.d (.int .i64 gw),.d (.int .i64 gr),.d (.list q_gl),.d (.int .i64 wr),.d (.int .i64 pl),.d (.int .i64 mi)],.c (.d (.int .i64 x))],[],[],_=>some ⟨(Zc q_l).length≤1000000∧(Zc q_gl).length≤1000000∧q_l=LI .i32 (Zc q_l)∧q_gl=LI .i32 (Zc q_gl),vB (smV ⟨di,st,q,s0,⟨c,⟨n,d,a,p,f⟩,(Zc q_l)⟩,⟨gc,gq,gw,gr,(Zc q_gl)⟩,wr,pl,mi⟩ && (di==x)),[],[]⟩
 | _,_,_,_=>none
def Zjw:=And.intro (@Zjv.eq_1) (@Zjv.eq_1)
theorem Zjx:Snd Tryz.prog 61 Zjv:=by
 intro vs b k n e h hn hp
 unfold Zjv at h
 split at h
 ·cases h; obtain ⟨hp0,hp1,hq0,hq1⟩:=hp; obtain ⟨_,rfl⟩:=Zu hq0; obtain ⟨_,rfl⟩:=Zu hq1; simp only [Zi,Zp,Zj,Zq] at hp0 hp1 ⊢; exact (ZA6 _ _ _ _ _ _ _ _ _ _ _ _ _ _ _ _ _ _ _ _ hp0 hp1).lift rfl _
 ·cases h
theorem ZA4 (x:Int):Spec Tryz.prog 0 65 [vI .i64 x] [] [] (vB (decide (x < 0) || decide (65536 < x))) [] []:=by
 refine sE (md:=fun _=>0) (L:=[]) [] 5 Zb Tryz.func65 rfl rfl rfl ?_
 simp (maxSteps:=1000000) only [↓Zo,Ze,Zd,Zn,gSt,gS0,Ya,Yb,↓reduceIte,reduceCtorEq,Yc,Yd,Ye,Yf,Yg,Yj,Yk,Yl,Ym,Yn,Zax,Zck,ZaD,ZaE,Zcj,Z6,Tryz.ntmps65,Tryz.results65,gTT]
def Zjr:List V→Zf→Zw→Name→Option Ent
 | [.c (.d (.int .i64 x))],[],[],_=>some ⟨True,vB (decide (x < 0) || decide (65536 < x)),[],[]⟩
 | _,_,_,_=>none
def Zjs:=And.intro (@Zjr.eq_1) (@Zjr.eq_1)
theorem Zjt:Snd Tryz.prog 65 Zjr:=by
 intro vs b k n e h hn hp
 unfold Zjr at h
 split at h
 ·cases h; exact (ZA4 _).lift rfl _
 ·cases h
theorem Znn (di st q s0 c n d a p f:Int) (l:List Int) (gc gq gw gr:Int) (gl:List Int) (wr pl mi:Int) (hl:l.length≤1000000) (hg:gl.length≤1000000):Spec Tryz.prog 0 52 [.agg (smC ⟨di,st,q,s0,⟨c,⟨n,d,a,p,f⟩,l⟩,⟨gc,gq,gw,gr,gl⟩,wr,pl,mi⟩)] [] [] (vI .i64 (smN ⟨di,st,q,s0,⟨c,⟨n,d,a,p,f⟩,l⟩,⟨gc,gq,gw,gr,gl⟩,wr,pl,mi⟩)) [] []:=by
 refine spec_of_E (X:=⟨Tryz.prog,tt,Tryz.f52.ntmps,1,fun _=>0,(tab [(49,ZdS),(130,Zgx),(55,ZaZ)])⟩) (M:=[]) (m:=143) rfl rfl ⟨Zah,ZU (Za ZfI (Za Zru (Za Za1 Zb))) _ rfl rfl⟩ ZB Tryz.func52 rfl (by decide) (by show (1:Nat)≤_; exact Nat.le_of_ble_eq_true rfl) ⟨by simp [V.has,C.has,Z6],by simp [C.has],by simp⟩ ?_
 simp (maxSteps:=1000000) only [↓Zo,Ze,Zd,Zn,gSt,gS0,Ya,Yb,↓reduceIte,reduceCtorEq,Yc,Yd,Ye,Yf,Yg,Yj,Yk,Yl,Ym,Yn,ZfH,Zrt,Za0,Zax,Zck,ZaD,ZaE,Zcj,Z6,Tryz.ntmps52,Tryz.results52,gTT]
 refine ⟨⟨hl,hg⟩,fun h=>by simp [smN,h],fun h=>?_⟩
 have hv:smV ⟨di,st,q,s0,⟨c,⟨n,d,a,p,f⟩,l⟩,⟨gc,gq,gw,gr,gl⟩,wr,pl,mi⟩=true:=by simpa using h
 refine ⟨fun h2=>⟨hg,?_⟩,fun h2=>⟨hl,?_⟩⟩
 ·have hd:di=2:=by simpa using h2
  unfold smN
  rw [if_neg (by rw [hv]; decide),if_pos hd]
 ·have hd:¬ di=2:=by simpa using h2
  unfold smN
  rw [if_neg (by rw [hv]; decide),if_neg hd]
def ZbU:List V→Zf→Zw→Name→Option Ent
 | [.agg [.d (.int .i64 di),.d (.int .i64 st),.d (.int .i64 q),.d (.int .i64 s0),.d (.int .i64 c),.d (.int .i64 n),.d (.int .i64 d),.d (.int .i64 a),.d (.int .i64 p),.d (.int .i64 f),.d (.list q_l),.d (.int .i64 gc),.d (.int .i64 gq),.d (.int .i64 gw),.d (.int .i64 gr),.d (.list q_gl),.d (.int .i64 wr),.d (.int .i64 pl),.d (.int .i64 mi)]],[],[],_=>some ⟨(Zc q_l).length≤1000000∧(Zc q_gl).length≤1000000∧q_l=LI .i32 (Zc q_l)∧q_gl=LI .i32 (Zc q_gl),vI .i64 (smN ⟨di,st,q,s0,⟨c,⟨n,d,a,p,f⟩,(Zc q_l)⟩,⟨gc,gq,gw,gr,(Zc q_gl)⟩,wr,pl,mi⟩),[],[]⟩
 | _,_,_,_=>none
def ZdT:=And.intro (@ZbU.eq_1) (@ZbU.eq_1)
theorem ZdU:Snd Tryz.prog 52 ZbU:=by
 intro vs b k n e h hn hp
 unfold ZbU at h
 split at h
 ·cases h; obtain ⟨hp0,hp1,hq0,hq1⟩:=hp; obtain ⟨_,rfl⟩:=Zu hq0; obtain ⟨_,rfl⟩:=Zu hq1; simp only [Zi,Zp,Zj,Zq] at hp0 hp1 ⊢; exact (Znn _ _ _ _ _ _ _ _ _ _ _ _ _ _ _ _ _ _ _ hp0 hp1).lift rfl _
 ·cases h
theorem ZA8 (di ch n d q s0:Int):Spec Tryz.prog 0 10 [vI .i64 di,vI .i64 ch,.agg [.d (.int .i64 n),.d (.int .i64 d)],vI .i64 q,vI .i64 s0] [] [] (.tup [.agg (smD (snR di ch n d q s0)),.int .i64 (snE di ch n d q s0)]) [] []:=by
 refine sE (md:=fun _=>0) (L:=[(47,ZfG),(48,Zjh),(49,ZdS)]) [] 34393300127 (Za Zhq (Za Zvm (Za ZfI Zb))) Tryz.func10 rfl rfl rfl ?_
 simp (maxSteps:=1000000) only [↓Zo,Ze,Zd,Zn,gSt,gS0,Ya,Yb,↓reduceIte,reduceCtorEq,Yc,Yd,Ye,Yf,Yg,Yj,Yk,Yl,Ym,Yn,Zhp,Zvl,ZfH,Zax,Zck,ZaD,ZaE,Zcj,Z6,Tryz.ntmps10,Tryz.results10,gTT]
 have hr:(nwR ch n d).l.length≤1000000:=by
  unfold nwR
  split <;> exact Nat.zero_le _
 have hg:(rnR ch q).l.length≤1000000:=by
  unfold rnR
  split <;> exact Nat.zero_le _
 refine ⟨fun h=>⟨⟨hr,hg⟩,fun h2=>?_,fun h2=>?_⟩,fun h=>⟨hr,fun h2=>?_,fun h2=>?_⟩⟩
 ·have hd:di=2:=by simpa using h
  have e:smV (snS di ch n d q s0)=false:=by unfold snS; rw [if_pos hd]; exact h2
  simp [snR,snE,e,sm0,rs0,rg0,Zy]
 ·have hd:di=2:=by simpa using h
  have e:smV (snS di ch n d q s0)=true:=by unfold snS; rw [if_pos hd]; simpa using h2
  unfold snR snE
  rw [if_pos e,if_pos e]
  unfold snS
  rw [if_pos hd]
 ·have hd:¬ di=2:=by simpa using h
  have e:smV (snS di ch n d q s0)=false:=by unfold snS; rw [if_neg hd]; exact h2
  simp [snR,snE,e,sm0,rs0,rg0,Zy]
 ·have hd:¬ di=2:=by simpa using h
  have e:smV (snS di ch n d q s0)=true:=by unfold snS; rw [if_neg hd]; simpa [rg0] using h2
  unfold snR snE
  rw [if_pos e,if_pos e]
  unfold snS
  rw [if_neg hd]
  rfl
def Zoy:List V→Zf→Zw→Name→Option Ent
 | [.c (.d (.int .i64 di)),.c (.d (.int .i64 ch)),.agg [.d (.int .i64 n),.d (.int .i64 d)],.c (.d (.int .i64 q)),.c (.d (.int .i64 s0))],[],[],_=>some ⟨True,.tup [.agg (smD (snR di ch n d q s0)),.int .i64 (snE di ch n d q s0)],[],[]⟩
 | _,_,_,_=>none
def ZgJ:=And.intro (@Zoy.eq_1) (@Zoy.eq_1)
theorem Zx8:Snd Tryz.prog 10 Zoy:=by
 intro vs b k n e h hn hp
 unfold Zoy at h
 split at h
 ·cases h; exact (ZA8 _ _ _ _ _ _).lift rfl _
 ·cases h
end Go.Vam
end
