/- A part of the proof. Conditions: none. -/
import Derived.Test.YtmpbpijnbmpbhaaGreatBWe
section
set_option linter.unusedVariables false
set_option linter.defProp false
set_option linter.unusedSimpArgs false
set_option maxRecDepth 40000
set_option maxHeartbeats 4000000
namespace Go.Vam
open Go.Proofs
open Nat renaming reduceShiftRight→Ya,reduceMod→Yb,reduceEqDiff→Yc,reduceLT→Yd,reduceLeDiff→Ye,reduceAdd→Yf,reduceMul→Yg
open Int renaming reduceLE→Yj,reduceLT→Yk,reduceNeg→Yl,reduceAdd→Ym,reduceToNat→Yn
structure Rg where
 c:Int
 q:Int
 w:Int
 r:Int
 l:List Int
def rg0:Rg:=⟨0,0,0,0,[]⟩
theorem ZaA (x:Rg):(⟨x.c,x.q,x.w,x.r,x.l⟩:Rg)=x:=rfl
def rgV (x:Rg):Bool:=decide (1≤x.q) && decide (x.q≤65536) && decide (0≤x.r) && decide (x.r≤x.w) && decide (x.w≤1125899906842624) && ZaL x.c x.l && (x.w - x.r==((x.l.length / x.c.toNat:Nat):Int)) && decide (x.w - x.r≤x.q)
theorem ZBo {x:Rg} (h:rgV x=true):(1≤x.q∧x.q≤65536)∧(0≤x.r∧x.r≤x.w∧x.w≤1125899906842624)∧ZaL x.c x.l=true∧x.w - x.r=((x.l.length / x.c.toNat:Nat):Int)∧x.w - x.r≤x.q:=by
 simp only [rgV,Bool.and_eq_true,decide_eq_true_eq,beq_iff_eq] at h
 obtain ⟨⟨⟨⟨⟨⟨⟨h1,h2⟩,h3⟩,h4⟩,h5⟩,h6⟩,h7⟩,h8⟩:=h
 exact ⟨⟨h1,h2⟩,⟨h3,h4,h5⟩,h6,h7,h8⟩
def rgN (x:Rg):Int:=if rgV x=true then x.w - x.r else 0
def rnE (ch q:Int):Int:=if rgV ⟨ch,q,0,0,[]⟩=true then 0 else 2
def rnR (ch q:Int):Rg:=if rgV ⟨ch,q,0,0,[]⟩=true then ⟨ch,q,0,0,[]⟩ else rg0
def rcL (x:Rg):Rg:=if rgV x=true then ⟨x.c,x.q,x.w,x.w,[]⟩ else rg0
def rcF (x:Rg):Int:=if rgV x=true then 0 else 1
theorem Zq3 (c q w r:Int) (l:List Int) (hl:l.length≤1000000):Spec Tryz.prog 0 124 [.agg [.d (.int .i64 c),.d (.int .i64 q),.d (.int .i64 w),.d (.int .i64 r),.d (.list (LI .i32 l))]] [] [] (vB (rgV ⟨c,q,w,r,l⟩)) [] []:=by
 refine sE (md:=fun _=>0) (L:=[(62,ZaR)]) [(1,[0,0,0,0,0,536870543,0,0,0,0,0,536842255,0,0,0,0,0,535429135,0,0,0,0,0,419430415,0]),(4,[0,0,0,0,0,1152921298716852239,0,0,0,0,0,1152906180431970319,0,0,0,0,0,1151795604968439823,0,0,0,0,0,1045961013725233167,0,0,0])] 268435471 (Za Zax Zb) Tryz.func124 rfl rfl rfl ?_
 simp (maxSteps:=1000000) only [↓Zn,Ze,Zd,Zm,gSt,gS0,Ya,Yb,↓reduceIte,reduceCtorEq,Yc,Yd,Ye,Yf,Yg,Yj,Yk,Yl,Ym,Yn,ZD,ZaA,Tryz.ntmps124,Tryz.results124,gTT]
 refine ⟨fun h=>?_,fun h=>⟨by kernel_rfl,hl,fun hb=>?_,?_⟩⟩
 ·cases hv:rgV ⟨c,q,w,r,l⟩ with
  | false=>rfl
  | true =>
   have:=ZBo hv
   simp only [Bool.or_eq_true,decide_eq_true_eq] at h
   simp only at this
   omega
 ·have:=(ZW hb hl).1
  omega
 simp only [Bool.or_eq_false_iff,decide_eq_false_iff_not] at h
 cases hb:ZaL c l with
 | false=>simp [rgV,hb]
 | true =>
  have hk:=(ZW hb hl).1
  rw [Zdg hk.1 (by omega),IntWalk.i64_in (w - r) (by omega)]
  unfold rgV
  simp only [hb]
  rw [decide_eq_true (show 1≤q by omega),decide_eq_true (show q≤65536 by omega),decide_eq_true (show 0≤r by omega),decide_eq_true (show r≤w by omega),decide_eq_true (show w≤1125899906842624 by omega)]
  rfl
def Zci:List V→Zf→Zr→Name→Option Ent
 | [.agg [.d (.int .i64 c),.d (.int .i64 q),.d (.int .i64 w),.d (.int .i64 r),.d (.list q_l)]],[],[],_=>some ⟨(Zc q_l).length≤1000000∧q_l=LI .i32 (Zc q_l),vB (rgV ⟨c,q,w,r,(Zc q_l)⟩),[],[]⟩
 | _,_,_,_=>none
def Zc0:=And.intro (@Zci.eq_1) (@Zci.eq_1)
theorem Zc1:Snd Tryz.prog 124 Zci:=by
 intro vs b k n e h hn hp
 unfold Zci at h
 split at h
 ·cases h; obtain ⟨hp0,hq0⟩:=hp; obtain ⟨_,rfl⟩:=Zq hq0; simp only [Zi,Zo,Zj,Zp] at hp0 ⊢; exact (Zq3 _ _ _ _ _ hp0).lift rfl _
 ·cases h
theorem ZtD (c q w r:Int) (l:List Int) (hl:l.length≤1000000):Spec Tryz.prog 0 130 [.agg [.d (.int .i64 c),.d (.int .i64 q),.d (.int .i64 w),.d (.int .i64 r),.d (.list (LI .i32 l))]] [] [] (vI .i64 (rgN ⟨c,q,w,r,l⟩)) [] []:=by
 refine spec_of_E (X:=⟨Tryz.prog,tt,Tryz.f130.ntmps,1,fun _=>0,(tab [(124,Zci)])⟩) (M:=[]) (m:=39) rfl rfl ⟨Z7,ZI (Za Zc1 Zb) _ rfl rfl⟩ Zs Tryz.func130 rfl (by decide) (by show (1:Nat)≤_; exact Nat.le_of_ble_eq_true rfl) ⟨by simp [V.has,C.has],by simp [C.has],by simp⟩ ?_
 simp (maxSteps:=1000000) only [↓Zn,Ze,Zd,Zm,gSt,gS0,Ya,Yb,↓reduceIte,reduceCtorEq,Yc,Yd,Ye,Yf,Yg,Yj,Yk,Yl,Ym,Yn,Zc0,ZaA,Tryz.ntmps130,Tryz.results130,gTT]
 refine ⟨hl,fun h=>by simp [rgN,h],fun h=>?_⟩
 have hv:rgV ⟨c,q,w,r,l⟩=true:=by simpa using h
 have:=ZBo hv
 simp only at this
 rw [IntWalk.i64_in (w - r) (by omega)]
 simp [rgN,hv]
def Zgz:List V→Zf→Zr→Name→Option Ent
 | [.agg [.d (.int .i64 c),.d (.int .i64 q),.d (.int .i64 w),.d (.int .i64 r),.d (.list q_l)]],[],[],_=>some ⟨(Zc q_l).length≤1000000∧q_l=LI .i32 (Zc q_l),vI .i64 (rgN ⟨c,q,w,r,(Zc q_l)⟩),[],[]⟩
 | _,_,_,_=>none
def Zr8:=And.intro (@Zgz.eq_1) (@Zgz.eq_1)
theorem Zr9:Snd Tryz.prog 130 Zgz:=by
 intro vs b k n e h hn hp
 unfold Zgz at h
 split at h
 ·cases h; obtain ⟨hp0,hq0⟩:=hp; obtain ⟨_,rfl⟩:=Zq hq0; simp only [Zi,Zo,Zj,Zp] at hp0 ⊢; exact (ZtD _ _ _ _ _ hp0).lift rfl _
 ·cases h
theorem ZxX (ch q:Int):Spec Tryz.prog 0 48 [vI .i64 ch,vI .i64 q] [] [] (.tup [.agg [.int .i64 (rnR ch q).c,.int .i64 (rnR ch q).q,.int .i64 (rnR ch q).w,.int .i64 (rnR ch q).r,.list (LI .i32 (rnR ch q).l)],.int .i64 (rnE ch q)]) [] []:=by
 refine sE (md:=fun _=>0) (L:=[(124,Zci)]) [] 4211 (Za Zc1 Zb) Tryz.func48 rfl rfl rfl ?_
 simp (maxSteps:=1000000) only [↓Zn,Ze,Zd,Zm,gSt,gS0,Ya,Yb,↓reduceIte,reduceCtorEq,Yc,Yd,Ye,Yf,Yg,Yj,Yk,Yl,Ym,Yn,Zc0,ZaA,Tryz.ntmps48,Tryz.results48,gTT]
 refine ⟨fun h=>by simp [rnE,rnR,h,rg0,Zw],fun h=>?_⟩
 have hv:rgV ⟨ch,q,0,0,[]⟩=true:=by simpa using h
 simp [rnE,rnR,hv,Zw]
def ZjA:List V→Zf→Zr→Name→Option Ent
 | [.c (.d (.int .i64 ch)),.c (.d (.int .i64 q))],[],[],_=>some ⟨True,.tup [.agg [.int .i64 (rnR ch q).c,.int .i64 (rnR ch q).q,.int .i64 (rnR ch q).w,.int .i64 (rnR ch q).r,.list (LI .i32 (rnR ch q).l)],.int .i64 (rnE ch q)],[],[]⟩
 | _,_,_,_=>none
def Zwm:=And.intro (@ZjA.eq_1) (@ZjA.eq_1)
theorem Zwn:Snd Tryz.prog 48 ZjA:=by
 intro vs b k n e h hn hp
 unfold ZjA at h
 split at h
 ·cases h; exact (ZxX _ _).lift rfl _
 ·cases h
theorem Zq2 (c q w r:Int) (l:List Int) (hl:l.length≤1000000):Spec Tryz.prog 0 243 [.agg [.d (.int .i64 c),.d (.int .i64 q),.d (.int .i64 w),.d (.int .i64 r),.d (.list (LI .i32 l))]] [] [] (.tup [.agg [.int .i64 (rcL ⟨c,q,w,r,l⟩).c,.int .i64 (rcL ⟨c,q,w,r,l⟩).q,.int .i64 (rcL ⟨c,q,w,r,l⟩).w,.int .i64 (rcL ⟨c,q,w,r,l⟩).r,.list (LI .i32 (rcL ⟨c,q,w,r,l⟩).l)],.int .i64 (rcF ⟨c,q,w,r,l⟩)]) [] []:=by
 refine sE (md:=fun _=>0) (L:=[(124,Zci)]) [] 79 (Za Zc1 Zb) Tryz.func243 rfl rfl rfl ?_
 simp (maxSteps:=1000000) only [↓Zn,Ze,Zd,Zm,gSt,gS0,Ya,Yb,↓reduceIte,reduceCtorEq,Yc,Yd,Ye,Yf,Yg,Yj,Yk,Yl,Ym,Yn,Zc0,ZaA,Tryz.ntmps243,Tryz.results243,gTT]
 refine ⟨hl,fun h=>by simp [rcL,rcF,h,rg0,Zw],fun h=>?_⟩
 have hv:rgV ⟨c,q,w,r,l⟩=true:=by simpa using h
 simp [rcL,rcF,hv,Zw]
def ZeK:List V→Zf→Zr→Name→Option Ent
 | [.agg [.d (.int .i64 c),.d (.int .i64 q),.d (.int .i64 w),.d (.int .i64 r),.d (.list q_l)]],[],[],_=>some ⟨(Zc q_l).length≤1000000∧q_l=LI .i32 (Zc q_l),.tup [.agg [.int .i64 (rcL ⟨c,q,w,r,(Zc q_l)⟩).c,.int .i64 (rcL ⟨c,q,w,r,(Zc q_l)⟩).q,.int .i64 (rcL ⟨c,q,w,r,(Zc q_l)⟩).w,.int .i64 (rcL ⟨c,q,w,r,(Zc q_l)⟩).r,.list (LI .i32 (rcL ⟨c,q,w,r,(Zc q_l)⟩).l)],.int .i64 (rcF ⟨c,q,w,r,(Zc q_l)⟩)],[],[]⟩
 | _,_,_,_=>none
def ZoM:=And.intro (@ZeK.eq_1) (@ZeK.eq_1)
theorem ZoN:Snd Tryz.prog 243 ZeK:=by
 intro vs b k n e h hn hp
 unfold ZeK at h
 split at h
 ·cases h; obtain ⟨hp0,hq0⟩:=hp; obtain ⟨_,rfl⟩:=Zq hq0; simp only [Zi,Zo,Zj,Zp] at hp0 ⊢; exact (Zq2 _ _ _ _ _ hp0).lift rfl _
 ·cases h
end Go.Vam
end
section
set_option linter.unusedVariables false
set_option linter.defProp false
set_option linter.unusedSimpArgs false
set_option maxRecDepth 40000
set_option maxHeartbeats 4000000
namespace Go.Vam
open Go.Proofs
open Nat renaming reduceShiftRight→Ya,reduceMod→Yb,reduceEqDiff→Yc,reduceLT→Yd,reduceLeDiff→Ye,reduceAdd→Yf,reduceMul→Yg
open Int renaming reduceLE→Yj,reduceLT→Yk,reduceNeg→Yl,reduceAdd→Ym,reduceToNat→Yn
theorem Zai (x:Ph):(⟨x.n,x.d,x.a,x.p,x.f⟩:Ph)=x:=rfl
theorem Zaj (x:Rs):(⟨x.c,x.p,x.l⟩:Rs)=x:=rfl
structure Sm where
 di:Int
 st:Int
 q:Int
 s0:Int
 r:Rs
 g:Rg
 wr:Int
 pl:Int
 mi:Int
def sm0:Sm:=⟨0,0,0,0,rs0,rg0,0,0,0⟩
def smD (x:Sm):List D:=[.int .i64 (x).di,.int .i64 (x).st,.int .i64 (x).q,.int .i64 (x).s0,.int .i64 (x).r.c,.int .i64 (x).r.p.n,.int .i64 (x).r.p.d,.int .i64 (x).r.p.a,.int .i64 (x).r.p.p,.int .i64 (x).r.p.f,.list (LI .i32 (x).r.l),.int .i64 (x).g.c,.int .i64 (x).g.q,.int .i64 (x).g.w,.int .i64 (x).g.r,.list (LI .i32 (x).g.l),.int .i64 (x).wr,.int .i64 (x).pl,.int .i64 (x).mi]
theorem ZaS (x:Sm):smD x=[.int .i64 (x).di,.int .i64 (x).st,.int .i64 (x).q,.int .i64 (x).s0,.int .i64 (x).r.c,.int .i64 (x).r.p.n,.int .i64 (x).r.p.d,.int .i64 (x).r.p.a,.int .i64 (x).r.p.p,.int .i64 (x).r.p.f,.list (LI .i32 (x).r.l),.int .i64 (x).g.c,.int .i64 (x).g.q,.int .i64 (x).g.w,.int .i64 (x).g.r,.list (LI .i32 (x).g.l),.int .i64 (x).wr,.int .i64 (x).pl,.int .i64 (x).mi]:=Eq.trans rfl rfl
def smC (x:Sm):List C:=[.d (.int .i64 (x).di),.d (.int .i64 (x).st),.d (.int .i64 (x).q),.d (.int .i64 (x).s0),.d (.int .i64 (x).r.c),.d (.int .i64 (x).r.p.n),.d (.int .i64 (x).r.p.d),.d (.int .i64 (x).r.p.a),.d (.int .i64 (x).r.p.p),.d (.int .i64 (x).r.p.f),.d (.list (LI .i32 (x).r.l)),.d (.int .i64 (x).g.c),.d (.int .i64 (x).g.q),.d (.int .i64 (x).g.w),.d (.int .i64 (x).g.r),.d (.list (LI .i32 (x).g.l)),.d (.int .i64 (x).wr),.d (.int .i64 (x).pl),.d (.int .i64 (x).mi)]
theorem ZF (x:Sm):smC x=[.d (.int .i64 (x).di),.d (.int .i64 (x).st),.d (.int .i64 (x).q),.d (.int .i64 (x).s0),.d (.int .i64 (x).r.c),.d (.int .i64 (x).r.p.n),.d (.int .i64 (x).r.p.d),.d (.int .i64 (x).r.p.a),.d (.int .i64 (x).r.p.p),.d (.int .i64 (x).r.p.f),.d (.list (LI .i32 (x).r.l)),.d (.int .i64 (x).g.c),.d (.int .i64 (x).g.q),.d (.int .i64 (x).g.w),.d (.int .i64 (x).g.r),.d (.list (LI .i32 (x).g.l)),.d (.int .i64 (x).wr),.d (.int .i64 (x).pl),.d (.int .i64 (x).mi)]:=Eq.trans rfl rfl
theorem ZaT (x:Sm):(⟨x.di,x.st,x.q,x.s0,x.r,x.g,x.wr,x.pl,x.mi⟩:Sm)=x:=rfl
theorem Zec {x:Rs} (h:rsV x=true) (hl:x.l.length≤1000000):waN x=((x.l.length / x.c.toNat:Nat):Int)∧0≤waN x∧waN x≤65536:=by
 obtain ⟨⟨k1,k2⟩,k3,k4,k5⟩:=ZW (ZA h).2 hl
 have e:waN x=((x.l.length / x.c.toNat:Nat):Int):=if_pos h
 rw [e]
 exact ⟨rfl,Int.natCast_nonneg _,Int.ofNat_le.2 k4⟩
def noG (x:Rg):Bool:=x.c==0 && x.q==0 && x.w==0 && x.r==0 && (x.l.length==0)
def smB (x:Sm):Bool:=decide (1≤x.st) && decide (x.st≤7) && decide (1≤x.q) && decide (x.q≤65536) && decide (0≤x.s0) && decide (x.s0≤x.q) && rsV x.r && (x.r.p.a==0) && decide (0≤x.wr) && decide (0≤x.pl) && decide (0≤x.mi)
def smV (x:Sm):Bool:=smB x && (if x.di=1 then decide (waN x.r≤x.q) && noG x.g else if x.di=2 then rgV x.g && (x.g.q==x.q) && (x.g.c==x.r.c) else false)
theorem Zan {x:Sm} (h:smB x=true):(1≤x.st∧x.st≤7)∧(1≤x.q∧x.q≤65536)∧(0≤x.s0∧x.s0≤x.q)∧rsV x.r=true∧x.r.p.a=0∧0≤x.wr∧0≤x.pl∧0≤x.mi:=by
 simp only [smB,Bool.and_eq_true,decide_eq_true_eq,beq_iff_eq] at h
 obtain ⟨⟨⟨⟨⟨⟨⟨⟨⟨⟨h1,h2⟩,h3⟩,h4⟩,h5⟩,h6⟩,h7⟩,h8⟩,h9⟩,h10⟩,h11⟩:=h
 exact ⟨⟨h1,h2⟩,⟨h3,h4⟩,⟨h5,h6⟩,h7,h8,h9,h10,h11⟩
theorem Zag {x:Sm} (h:smV x=true):smB x=true∧((x.di=1∧waN x.r≤x.q∧noG x.g=true)∨(x.di=2∧rgV x.g=true∧x.g.q=x.q∧x.g.c=x.r.c)):=by
 unfold smV at h
 rw [Bool.and_eq_true] at h
 obtain ⟨h1,h2⟩:=h
 refine ⟨h1,?_⟩
 split at h2
 ·rename_i hd
  simp only [Bool.and_eq_true,decide_eq_true_eq] at h2
  exact .inl ⟨hd,h2.1,h2.2⟩
 ·split at h2
  ·rename_i hd
   simp only [Bool.and_eq_true,beq_iff_eq] at h2
   exact .inr ⟨hd,h2.1.1,h2.1.2,h2.2⟩
  ·cases h2
theorem ZkW {x:Sm} (h:smV x=true→False):smV x=false:=by
 cases e:smV x with
 | false=>rfl
 | true=>exact (h e).elim
theorem arm {P:Bool} {A T R:Prop} (h1:P=true→A) (h2:P=false→R):(P=true→(P=true→A)∧(P=false→T))∧(P=false→R):=⟨fun h=>⟨h1,fun h'=>by rw [h] at h'; cases h'⟩,h2⟩
theorem Zd3 {P:Bool} {A T R:Prop} (h1:P=false→A) (h2:(!P)=false→R):(P=false→(P=false→A)∧((!P)=false→T))∧((!P)=false→R):=⟨fun h=>⟨h1,fun h'=>by rw [h] at h'; cases h'⟩,h2⟩
def Zl4:List Int→Int→Nat→Int
 | [],_,_=>-1
 | y::ys,x,i=>if x=y then (i:Int) else Zl4 ys x (i+1)
theorem ZE5 (x:Int):∀ (m:List Int) (i g:Nat),(∀ j,j < g→m[j]?.getD 0≠x)→g≤m.length→Zl4 m x i=Zl4 (m.drop g) x (i+g)
 | m,i,0,_,_=>by simp
 | [],i,g+1,_,hg=>absurd hg (Nat.not_succ_le_zero _)
 | y::ys,i,g+1,h,hg=>by
  have h0:=h 0 (Nat.succ_pos _)
  have hne:¬ x=y:=fun e=>h0 (by simp [e])
  rw [Zl4,if_neg hne,ZE5 x ys (i+1) g (fun j hj=>by simpa using h (j+1) (by omega)) (by simpa using hg)]
  congr 1
  omega
def smP (x:Sm):Bool:=smV x && (x.di==1)
def smN (x:Sm):Int:=if smV x=false then 0 else if x.di=2 then rgN x.g else waN x.r
def smO (x:Sm):Int:=if smV x=false then 0 else x.q - smN x
theorem ZvA {x:Sm} (h:smV x=true) (hl:x.r.l.length≤1000000):0≤smN x∧smN x≤x.q∧x.q≤65536:=by
 obtain ⟨hB,h2⟩:=Zag h
 have hb:=Zan hB
 unfold smN
 rw [if_neg (by rw [h]; decide)]
 rcases h2 with ⟨hd,h3,h4⟩ | ⟨hd,h3,h4,h5⟩
 ·rw [if_neg (by omega)]
  have:=(Zec hb.2.2.2.1 hl).2
  omega
 ·rw [if_pos hd]
  unfold rgN
  rw [if_pos h3]
  have:=ZBo h3
  omega
theorem ZH4 {x:Sm} (hl:x.r.l.length≤1000000):0≤smO x∧smO x≤65536:=by
 unfold smO
 split
 ·omega
 ·rename_i h
  have:=ZvA (x:=x) (by simpa using h) hl
  omega
theorem ZGb {p:Ph} (h:phV p=true) {n:Int} (hn:0≤n∧n≤65536):0≤ned p n∧ned p n≤62000000002:=by
 unfold ned
 split
 ·omega
 ·have h1:=Zbk h (n:=n) hn
  have h2:=Zbk h (n:=n - 1) (by omega)
  omega
def owE (x:Sm) (i:Int):Int:=if smP x=false then 1 else if (decide (i < 0) || decide (65536 < i))=true then 2 else 0
def owN (x:Sm) (i:Int):Int:=if owE x i=0 then max 0 (ned x.r.p i - smN x) else 0
def swN (k:Int) (y:List Int):Int:=((y.length / k.toNat:Nat):Int)
def swE (x:Sm) (k:Int) (y:List Int):Int:=if (!smP x || !ZaL k y)=true then 1 else if k≠x.r.c then 11 else if 5≤x.st then 9 else if smO x < swN k y then 10 else 0
def swR (x:Sm) (k:Int) (y:List Int):Sm:=if swE x k y=0 then ⟨x.di,if x.st=1∧0 < swN k y then 2 else x.st,x.q,x.s0,feR x.r k y,x.g,IntKind.i64.wrap (x.wr+swN k y),x.pl,x.mi⟩ else sm0
def smE (x:Sm):Sm:=⟨x.di,x.st,x.q,x.s0,nwR x.r.c x.r.p.n x.r.p.d,if x.di=2 then rcL x.g else x.g,x.wr,x.pl,x.mi⟩
def snS (di ch n d q s0:Int):Sm:=⟨di,1,q,s0,nwR ch n d,if di=2 then rnR ch q else rg0,0,0,0⟩
def snE (di ch n d q s0:Int):Int:=if smV (snS di ch n d q s0)=true then 0 else 1
def snR (di ch n d q s0:Int):Sm:=if smV (snS di ch n d q s0)=true then snS di ch n d q s0 else sm0
theorem ZtK (m:List Int) (x:Int) (hm:m.length≤1000):Spec Tryz.prog 0 129 [vL (LI .i64 m),vI .i64 x] [] [] (vI .i64 (Zl4 m x 0)) [] []:=by
 refine spec_of_E (X:=⟨Tryz.prog,tt,Tryz.f129.ntmps,1,fun _=>0,(tab [])⟩) (M:=[]) (m:=66483) rfl rfl ⟨Z7,ZI Zb _ rfl rfl⟩ Zs Tryz.func129 rfl (by decide) (by show (2:Nat)≤_; exact Nat.le_of_ble_eq_true rfl) ⟨by simp [V.has,C.has,ZF],by simp [C.has],by simp⟩ ?_
 simp (maxSteps:=1000000) only [↓Zn,Ze,Zd,Zm,gSt,gS0,Ya,Yb,↓reduceIte,reduceCtorEq,Yc,Yd,Ye,Yf,Yg,Yj,Yk,Yl,Ym,Yn,ZaA,ZaT,Zai,Zaj,ZaS,ZF,Tryz.ntmps129,Tryz.results129,gTT]
 refine Zk (fun g=>⟨[(8,vI .i64 (g:Nat))],[],[]⟩) (fun g=>g≤m.length∧∀ j,j < g→m[j]?.getD 0≠x) (fun g=>m.length - g) (·+1) 0 ⟨Nat.zero_le _,fun j hj=>absurd hj (Nat.not_lt_zero _)⟩ ?_ ?_
 ·simp (maxSteps:=1000000) only [↓Zn,Ze,Zd,Zm,gSt,gS0,Ya,Yb,↓reduceIte,reduceCtorEq,Yc,Yd,Ye,Yf,Yg,Yj,Yk,Yl,Ym,Yn,ZaA,ZaT,Zai,Zaj,ZaS,ZF,Tryz.ntmps129,Tryz.results129,gTT]
  rfl
 rintro g ⟨hg,hin⟩
 simp (maxSteps:=1000000) only [↓Zn,Ze,Zd,Zm,gSt,gS0,Ya,Yb,↓reduceIte,reduceCtorEq,Yc,Yd,Ye,Yf,Yg,Yj,Yk,Yl,Ym,Yn,ZaA,ZaT,Zai,Zaj,ZaS,ZF,Tryz.ntmps129,Tryz.results129,gTT]
 have hix:=ZE5 x m 0 g hin hg
 rw [Nat.zero_add] at hix
 refine ⟨fun h1=>?_,fun h1=>?_⟩
 ·have hlt:g < m.length:=by have:=of_decide_eq_true h1; omega
  have hgx:m[g]?.getD 0=m[g]:=by rw [List.getElem?_eq_getElem hlt]; rfl
  rw [hgx]
  refine ⟨⟨by omega,by omega⟩,fun h2=>?_,fun h2=>⟨(ZY _ (by omega)).symm,⟨by omega,fun j hj=>?_⟩,by omega⟩⟩
  ·rw [hix,List.drop_eq_getElem_cons hlt,Zl4,if_pos (by simpa using h2)]
  ·by_cases hj2:j < g
   ·exact hin j hj2
   ·have:j=g:=by omega
    subst this
    rw [hgx]
    intro e
    rw [e] at h2
    simp at h2
 ·have:g=m.length:=by have:=of_decide_eq_false h1; omega
  subst this
  rw [hix,List.drop_length]
  rfl
def ZgE:List V→Zf→Zr→Name→Option Ent
 | [.c (.d (.list q_m)),.c (.d (.int .i64 x))],[],[],_=>some ⟨(Zc q_m).length≤1000∧q_m=LI .i64 (Zc q_m),vI .i64 (Zl4 (Zc q_m) x 0),[],[]⟩
 | _,_,_,_=>none
def Zse:=And.intro (@ZgE.eq_1) (@ZgE.eq_1)
theorem Zsf:Snd Tryz.prog 129 ZgE:=by
 intro vs b k n e h hn hp
 unfold ZgE at h
 split at h
 ·cases h; obtain ⟨hp0,hq0⟩:=hp; obtain ⟨_,rfl⟩:=Zq hq0; simp only [Zi,Zo,Zj,Zp] at hp0 ⊢; exact (ZtK _ _ hp0).lift rfl _
 ·cases h
theorem Zlk (m:List Int) (x:Int) (hm:m.length≤1000):Spec Tryz.prog 0 51 [vL (LI .i64 m),vI .i64 x] [] [] (vB (decide (0≤Zl4 m x 0))) [] []:=by
 refine spec_of_E (X:=⟨Tryz.prog,tt,Tryz.f51.ntmps,1,fun _=>0,(tab [(129,ZgE)])⟩) (M:=[]) (m:=19) rfl rfl ⟨Z7,ZI (Za Zsf Zb) _ rfl rfl⟩ Zs Tryz.func51 rfl (by decide) (by show (2:Nat)≤_; exact Nat.le_of_ble_eq_true rfl) ⟨by simp [V.has,C.has,ZF],by simp [C.has],by simp⟩ ?_
 simp (maxSteps:=1000000) only [↓Zn,Ze,Zd,Zm,gSt,gS0,Ya,Yb,↓reduceIte,reduceCtorEq,Yc,Yd,Ye,Yf,Yg,Yj,Yk,Yl,Ym,Yn,Zse,ZaA,ZaT,Zai,Zaj,ZaS,ZF,Tryz.ntmps51,Tryz.results51,gTT]
 exact hm
def Zb3:List V→Zf→Zr→Name→Option Ent
 | [.c (.d (.list q_m)),.c (.d (.int .i64 x))],[],[],_=>some ⟨(Zc q_m).length≤1000∧q_m=LI .i64 (Zc q_m),vB (decide (0≤Zl4 (Zc q_m) x 0)),[],[]⟩
 | _,_,_,_=>none
def Zy:=And.intro (@Zb3.eq_1) (@Zb3.eq_1)
theorem Zlb:Snd Tryz.prog 51 Zb3:=by
 intro vs b k n e h hn hp
 unfold Zb3 at h
 split at h
 ·cases h; obtain ⟨hp0,hq0⟩:=hp; obtain ⟨_,rfl⟩:=Zq hq0; simp only [Zi,Zo,Zj,Zp] at hp0 ⊢; exact (Zlk _ _ hp0).lift rfl _
 ·cases h
theorem ZCk (di st q s0 c n d a p f:Int) (l:List Int) (gc gq gw gr:Int) (gl:List Int) (wr pl mi:Int) (hl:l.length≤1000000) (hg:gl.length≤1000000):Spec Tryz.prog 0 53 [.agg (smC ⟨di,st,q,s0,⟨c,⟨n,d,a,p,f⟩,l⟩,⟨gc,gq,gw,gr,gl⟩,wr,pl,mi⟩)] [] [] (.agg [.d (.int .i64 di),.d (.int .i64 st),.d (.int .i64 q),.d (.int .i64 s0),.d (.int .i64 c),.d (.int .i64 n),.d (.int .i64 d),.d (.int .i64 a),.d (.int .i64 p),.d (.int .i64 f),.d (.list (LI .i32 l)),.d (.int .i64 gc),.d (.int .i64 gq),.d (.int .i64 gw),.d (.int .i64 gr),.d (.list (LI .i32 gl)),.d (.int .i64 wr),.d (.int .i64 pl),.d (.int .i64 mi)]) [] []:=by
 refine sE (md:=fun _=>0) (L:=[(131,Zes)]) [] 7 (Za Ze9 Zb) Tryz.func53 rfl rfl rfl ?_
 simp (maxSteps:=1000000) only [↓Zn,Ze,Zd,Zm,gSt,gS0,Ya,Yb,↓reduceIte,reduceCtorEq,Yc,Yd,Ye,Yf,Yg,Yj,Yk,Yl,Ym,Yn,Zaa,ZaA,ZaT,Zai,Zaj,ZaS,ZF,Tryz.ntmps53,Tryz.results53,gTT]
 exact ⟨by omega,by omega⟩
def ZgG:List V→Zf→Zr→Name→Option Ent
 | [.agg [.d (.int .i64 di),.d (.int .i64 st),.d (.int .i64 q),.d (.int .i64 s0),.d (.int .i64 c),.d (.int .i64 n),.d (.int .i64 d),.d (.int .i64 a),.d (.int .i64 p),.d (.int .i64 f),.d (.list q_l),.d (.int .i64 gc),.d (.int .i64 gq),.d (.int .i64 gw),.d (.int .i64 gr),.d (.list q_gl),.d (.int .i64 wr),.d (.int .i64 pl),.d (.int .i64 mi)]],[],[],_=>some ⟨(Zc q_l).length≤1000000∧(Zc q_gl).length≤1000000∧q_l=LI .i32 (Zc q_l)∧q_gl=LI .i32 (Zc q_gl),.agg [.d (.int .i64 di),.d (.int .i64 st),.d (.int .i64 q),.d (.int .i64 s0),.d (.int .i64 c),.d (.int .i64 n),.d (.int .i64 d),.d (.int .i64 a),.d (.int .i64 p),.d (.int .i64 f),.d (.list (LI .i32 (Zc q_l))),.d (.int .i64 gc),.d (.int .i64 gq),.d (.int .i64 gw),.d (.int .i64 gr),.d (.list (LI .i32 (Zc q_gl))),.d (.int .i64 wr),.d (.int .i64 pl),.d (.int .i64 mi)],[],[]⟩
 | _,_,_,_=>none
def ZV:=And.intro (@ZgG.eq_1) (@ZgG.eq_1)
theorem ZgH:Snd Tryz.prog 53 ZgG:=by
 intro vs b k n e h hn hp
 unfold ZgG at h
 split at h
 ·cases h; obtain ⟨hp0,hp1,hq0,hq1⟩:=hp; obtain ⟨_,rfl⟩:=Zq hq0; obtain ⟨_,rfl⟩:=Zq hq1; simp only [Zi,Zo,Zj,Zp] at hp0 hp1 ⊢; exact (ZCk _ _ _ _ _ _ _ _ _ _ _ _ _ _ _ _ _ _ _ hp0 hp1).lift rfl _
 ·cases h
theorem Zrc (c q w r:Int) (l:List Int):Spec Tryz.prog 0 125 [.agg [.d (.int .i64 c),.d (.int .i64 q),.d (.int .i64 w),.d (.int .i64 r),.d (.list (LI .i32 l))]] [] [] (vB (noG ⟨c,q,w,r,l⟩)) [] []:=by
 refine sE (md:=fun _=>0) (L:=[]) [(1,[0,0,0,0,0,134217543,0,0,0,0,0,134203399,0,0,0,0,0,133169159,0,0,0,0,0,67108871,0])] 7 Zb Tryz.func125 rfl rfl rfl ?_
 simp (maxSteps:=1000000) only [↓Zn,Ze,Zd,Zm,gSt,gS0,Ya,Yb,↓reduceIte,reduceCtorEq,Yc,Yd,Ye,Yf,Yg,Yj,Yk,Yl,Ym,Yn,ZaA,ZaT,Zai,Zaj,ZaS,ZF,Tryz.ntmps125,Tryz.results125,gTT]
 unfold noG
 cases l <;> simp
 omega
def ZeR:List V→Zf→Zr→Name→Option Ent
 | [.agg [.d (.int .i64 c),.d (.int .i64 q),.d (.int .i64 w),.d (.int .i64 r),.d (.list q_l)]],[],[],_=>some ⟨q_l=LI .i32 (Zc q_l),vB (noG ⟨c,q,w,r,(Zc q_l)⟩),[],[]⟩
 | _,_,_,_=>none
def Zo3:=And.intro (@ZeR.eq_1) (@ZeR.eq_1)
theorem Zo4:Snd Tryz.prog 125 ZeR:=by
 intro vs b k n e h hn hp
 unfold ZeR at h
 split at h
 ·cases h; have hq0:=hp; obtain ⟨_,rfl⟩:=Zq hq0; simp only [Zi,Zo,Zj,Zp]; exact (Zrc _ _ _ _ _).lift rfl _
 ·cases h
theorem ZtR (di st q s0 c n d a p f:Int) (l:List Int) (gc gq gw gr:Int) (gl:List Int) (wr pl mi:Int) (hl:l.length≤1000000) (hg:gl.length≤1000000):Spec Tryz.prog 0 49 [.agg (smC ⟨di,st,q,s0,⟨c,⟨n,d,a,p,f⟩,l⟩,⟨gc,gq,gw,gr,gl⟩,wr,pl,mi⟩)] [] [] (vB (smV ⟨di,st,q,s0,⟨c,⟨n,d,a,p,f⟩,l⟩,⟨gc,gq,gw,gr,gl⟩,wr,pl,mi⟩)) [] []:=by
 refine sE (md:=fun _=>0) (L:=[(123,Zbi),(55,Za2),(125,ZeR),(124,Zci)]) [(14,[0,0,0,0,0,285982974384537615,0,0,0,0,0,0]),(16,[0,0,0,0,0,2417796443116623343124495,0,0,0,0,0,2413129416865974826565647,0,0,0,0,0,2158121626791013985026063,0,0,0])] 144119586122366991 (Za ZbA (Za Za4 (Za Zo4 (Za Zc1 Zb)))) Tryz.func49 rfl rfl rfl ?_
 simp (maxSteps:=1000000) only [↓Zn,Ze,Zd,Zm,gSt,gS0,Ya,Yb,↓reduceIte,reduceCtorEq,Yc,Yd,Ye,Yf,Yg,Yj,Yk,Yl,Ym,Yn,Zbz,Za3,Zo3,Zc0,ZaA,ZaT,Zai,Zaj,ZaS,ZF,Tryz.ntmps49,Tryz.results49,gTT]
 have hd:∀ {P:Prop} [Decidable P],decide P=true→P:=fun h=>of_decide_eq_true h
 refine arm (fun h=>ZkW fun h1=>by have h2:=Zan (Zag h1).1; simp only at h2; have:=of_decide_eq_true h; omega) (fun c0=>?_)
 refine arm (fun h=>ZkW fun h1=>by have h2:=Zan (Zag h1).1; simp only at h2; have:=of_decide_eq_true h; omega) (fun c1=>?_)
 refine arm (fun h=>ZkW fun h1=>by have h2:=Zan (Zag h1).1; simp only at h2; have:=of_decide_eq_true h; omega) (fun c2=>?_)
 refine arm (fun h=>ZkW fun h1=>by have h2:=Zan (Zag h1).1; simp only at h2; have:=of_decide_eq_true h; omega) (fun c3=>?_)
 refine arm (fun h=>ZkW fun h1=>by have h2:=Zan (Zag h1).1; simp only at h2; have:=of_decide_eq_true h; omega) (fun c4=>?_)
 refine arm (fun h=>ZkW fun h1=>by have h2:=Zan (Zag h1).1; simp only at h2; have:=of_decide_eq_true h; omega) (fun c5=>?_)
 refine ⟨hl,Zd3 (fun h=>ZkW fun h1=>by have h2:=Zan (Zag h1).1; simp only at h2; rw [h] at h2; exact absurd h2.2.2.2.1 (by decide)) (fun c6=>?_)⟩
 refine arm (fun h=>ZkW fun h1=>by have h2:=Zan (Zag h1).1; simp only at h2; exact absurd h2.2.2.2.2.1 (by simpa using h)) (fun c7=>?_)
 refine arm (fun h=>ZkW fun h1=>by have h2:=Zan (Zag h1).1; simp only at h2; have:=of_decide_eq_true h; omega) (fun c8=>?_)
 refine arm (fun h=>ZkW fun h1=>by have h2:=Zan (Zag h1).1; simp only at h2; have:=of_decide_eq_true h; omega) (fun c9=>?_)
 refine ⟨fun h=>ZkW fun h1=>by have h2:=Zan (Zag h1).1; simp only at h2; have:=of_decide_eq_true h; omega,fun c10=>?_⟩
 have hB:smB ⟨di,st,q,s0,⟨c,⟨n,d,a,p,f⟩,l⟩,⟨gc,gq,gw,gr,gl⟩,wr,pl,mi⟩=true:=by
  simp only [decide_eq_false_iff_not] at c0 c1 c2 c3 c4 c5 c8 c9 c10
  simp only [smB,Bool.and_eq_true,decide_eq_true_eq,beq_iff_eq]
  exact ⟨⟨⟨⟨⟨⟨⟨⟨⟨⟨by omega,by omega⟩,by omega⟩,by omega⟩,by omega⟩,by omega⟩,by simpa using c6⟩,by simpa using c7⟩,by omega⟩,by omega⟩,by omega⟩
 refine ⟨fun h=>⟨by kernel_rfl,hl,?_⟩,fun h=>⟨fun h2=>⟨hg,?_⟩,fun h2=>?_⟩⟩
 ·have hd:di=1:=by simpa using h
  unfold smV
  rw [hB,if_pos hd]
  rfl
 ·have hd:di=2:=by simpa using h2
  have hd1:¬ di=1:=by omega
  unfold smV
  rw [hB,if_neg hd1,if_pos hd]
  rfl
 ·have hd:¬ di=2:=by simpa using h2
  have hd1:¬ di=1:=by simpa using h
  unfold smV
  rw [hB,if_neg hd1,if_neg hd]
  rfl
def Zb6:List V→Zf→Zr→Name→Option Ent
 | [.agg [.d (.int .i64 di),.d (.int .i64 st),.d (.int .i64 q),.d (.int .i64 s0),.d (.int .i64 c),.d (.int .i64 n),.d (.int .i64 d),.d (.int .i64 a),.d (.int .i64 p),.d (.int .i64 f),.d (.list q_l),.d (.int .i64 gc),.d (.int .i64 gq),.d (.int .i64 gw),.d (.int .i64 gr),.d (.list q_gl),.d (.int .i64 wr),.d (.int .i64 pl),.d (.int .i64 mi)]],[],[],_=>some ⟨(Zc q_l).length≤1000000∧(Zc q_gl).length≤1000000∧q_l=LI .i32 (Zc q_l)∧q_gl=LI .i32 (Zc q_gl),vB (smV ⟨di,st,q,s0,⟨c,⟨n,d,a,p,f⟩,(Zc q_l)⟩,⟨gc,gq,gw,gr,(Zc q_gl)⟩,wr,pl,mi⟩),[],[]⟩
 | _,_,_,_=>none
def ZE:=And.intro (@Zb6.eq_1) (@Zb6.eq_1)
theorem ZcI:Snd Tryz.prog 49 Zb6:=by
 intro vs b k n e h hn hp
 unfold Zb6 at h
 split at h
 ·cases h; obtain ⟨hp0,hp1,hq0,hq1⟩:=hp; obtain ⟨_,rfl⟩:=Zq hq0; obtain ⟨_,rfl⟩:=Zq hq1; simp only [Zi,Zo,Zj,Zp] at hp0 hp1 ⊢; exact (ZtR _ _ _ _ _ _ _ _ _ _ _ _ _ _ _ _ _ _ _ hp0 hp1).lift rfl _
 ·cases h
theorem ZCh (di st q s0 c n d a p f:Int) (l:List Int) (gc gq gw gr:Int) (gl:List Int) (wr pl mi:Int) (x:Int) (hl:l.length≤1000000) (hg:gl.length≤1000000):Spec Tryz.prog 0 61 [.agg (smC ⟨di,st,q,s0,⟨c,⟨n,d,a,p,f⟩,l⟩,⟨gc,gq,gw,gr,gl⟩,wr,pl,mi⟩),vI .i64 x] [] [] (vB (smV ⟨di,st,q,s0,⟨c,⟨n,d,a,p,f⟩,l⟩,⟨gc,gq,gw,gr,gl⟩,wr,pl,mi⟩ && (di==x))) [] []:=by
 refine sE (md:=fun _=>0) (L:=[(49,Zb6)]) [] 23 (Za ZcI Zb) Tryz.func61 rfl rfl rfl ?_
 simp (maxSteps:=1000000) only [↓Zn,Ze,Zd,Zm,gSt,gS0,Ya,Yb,↓reduceIte,reduceCtorEq,Yc,Yd,Ye,Yf,Yg,Yj,Yk,Yl,Ym,Yn,ZE,ZaA,ZaT,Zai,Zaj,ZaS,ZF,Tryz.ntmps61,Tryz.results61,gTT]
 exact ⟨hl,hg⟩
def ZgF:List V→Zf→Zr→Name→Option Ent
 | [.agg [.d (.int .i64 di),.d (.int .i64 st),.d (.int .i64 q),.d (.int .i64 s0),.d (.int .i64 c),.d (.int .i64 n),.d (.int .i64 d),.d (.int .i64 a),.d (.int .i64 p),.d (.int .i64 f),.d (.list q_l),.d (.int .i64 gc),.d (.int .i64 gq),.d (.int .i64 gw),.d (.int .i64 gr),.d (.list q_gl),.d (.int .i64 wr),.d (.int .i64 pl),.d (.int .i64 mi)],.c (.d (.int .i64 x))],[],[],_=>some ⟨(Zc q_l).length≤1000000∧(Zc q_gl).length≤1000000∧q_l=LI .i32 (Zc q_l)∧q_gl=LI .i32 (Zc q_gl),vB (smV ⟨di,st,q,s0,⟨c,⟨n,d,a,p,f⟩,(Zc q_l)⟩,⟨gc,gq,gw,gr,(Zc q_gl)⟩,wr,pl,mi⟩ && (di==x)),[],[]⟩
 | _,_,_,_=>none
def ZeP:=And.intro (@ZgF.eq_1) (@ZgF.eq_1)
theorem ZeQ:Snd Tryz.prog 61 ZgF:=by
 intro vs b k n e h hn hp
 unfold ZgF at h
 split at h
 ·cases h; obtain ⟨hp0,hp1,hq0,hq1⟩:=hp; obtain ⟨_,rfl⟩:=Zq hq0; obtain ⟨_,rfl⟩:=Zq hq1; simp only [Zi,Zo,Zj,Zp] at hp0 hp1 ⊢; exact (ZCh _ _ _ _ _ _ _ _ _ _ _ _ _ _ _ _ _ _ _ _ hp0 hp1).lift rfl _
 ·cases h
theorem ZCf (x:Int):Spec Tryz.prog 0 65 [vI .i64 x] [] [] (vB (decide (x < 0) || decide (65536 < x))) [] []:=by
 refine sE (md:=fun _=>0) (L:=[]) [] 5 Zb Tryz.func65 rfl rfl rfl ?_
 simp (maxSteps:=1000000) only [↓Zn,Ze,Zd,Zm,gSt,gS0,Ya,Yb,↓reduceIte,reduceCtorEq,Yc,Yd,Ye,Yf,Yg,Yj,Yk,Yl,Ym,Yn,ZaA,ZaT,Zai,Zaj,ZaS,ZF,Tryz.ntmps65,Tryz.results65,gTT]
def Zh8:List V→Zf→Zr→Name→Option Ent
 | [.c (.d (.int .i64 x))],[],[],_=>some ⟨True,vB (decide (x < 0) || decide (65536 < x)),[],[]⟩
 | _,_,_,_=>none
def ZgB:=And.intro (@Zh8.eq_1) (@Zh8.eq_1)
theorem ZgC:Snd Tryz.prog 65 Zh8:=by
 intro vs b k n e h hn hp
 unfold Zh8 at h
 split at h
 ·cases h; exact (ZCf _).lift rfl _
 ·cases h
theorem ZnK (di st q s0 c n d a p f:Int) (l:List Int) (gc gq gw gr:Int) (gl:List Int) (wr pl mi:Int) (hl:l.length≤1000000) (hg:gl.length≤1000000):Spec Tryz.prog 0 52 [.agg (smC ⟨di,st,q,s0,⟨c,⟨n,d,a,p,f⟩,l⟩,⟨gc,gq,gw,gr,gl⟩,wr,pl,mi⟩)] [] [] (vI .i64 (smN ⟨di,st,q,s0,⟨c,⟨n,d,a,p,f⟩,l⟩,⟨gc,gq,gw,gr,gl⟩,wr,pl,mi⟩)) [] []:=by
 refine spec_of_E (X:=⟨Tryz.prog,tt,Tryz.f52.ntmps,1,fun _=>0,(tab [(49,Zb6),(130,Zgz),(55,Za2)])⟩) (M:=[]) (m:=143) rfl rfl ⟨Z7,ZI (Za ZcI (Za Zr9 (Za Za4 Zb))) _ rfl rfl⟩ Zs Tryz.func52 rfl (by decide) (by show (1:Nat)≤_; exact Nat.le_of_ble_eq_true rfl) ⟨by simp [V.has,C.has,ZF],by simp [C.has],by simp⟩ ?_
 simp (maxSteps:=1000000) only [↓Zn,Ze,Zd,Zm,gSt,gS0,Ya,Yb,↓reduceIte,reduceCtorEq,Yc,Yd,Ye,Yf,Yg,Yj,Yk,Yl,Ym,Yn,ZE,Zr8,Za3,ZaA,ZaT,Zai,Zaj,ZaS,ZF,Tryz.ntmps52,Tryz.results52,gTT]
 refine ⟨⟨hl,hg⟩,fun h=>by simp [smN,h],fun h=>?_⟩
 have hv:smV ⟨di,st,q,s0,⟨c,⟨n,d,a,p,f⟩,l⟩,⟨gc,gq,gw,gr,gl⟩,wr,pl,mi⟩=true:=by simpa using h
 refine ⟨fun h2=>⟨hg,?_⟩,fun h2=>⟨hl,?_⟩⟩
 ·have hd:di=2:=by simpa using h2
  unfold smN
  rw [if_neg (by rw [hv]; decide),if_pos hd]
 ·have hd:¬ di=2:=by simpa using h2
  unfold smN
  rw [if_neg (by rw [hv]; decide),if_neg hd]
def ZaB:List V→Zf→Zr→Name→Option Ent
 | [.agg [.d (.int .i64 di),.d (.int .i64 st),.d (.int .i64 q),.d (.int .i64 s0),.d (.int .i64 c),.d (.int .i64 n),.d (.int .i64 d),.d (.int .i64 a),.d (.int .i64 p),.d (.int .i64 f),.d (.list q_l),.d (.int .i64 gc),.d (.int .i64 gq),.d (.int .i64 gw),.d (.int .i64 gr),.d (.list q_gl),.d (.int .i64 wr),.d (.int .i64 pl),.d (.int .i64 mi)]],[],[],_=>some ⟨(Zc q_l).length≤1000000∧(Zc q_gl).length≤1000000∧q_l=LI .i32 (Zc q_l)∧q_gl=LI .i32 (Zc q_gl),vI .i64 (smN ⟨di,st,q,s0,⟨c,⟨n,d,a,p,f⟩,(Zc q_l)⟩,⟨gc,gq,gw,gr,(Zc q_gl)⟩,wr,pl,mi⟩),[],[]⟩
 | _,_,_,_=>none
def Zx:=And.intro (@ZaB.eq_1) (@ZaB.eq_1)
theorem Zbb:Snd Tryz.prog 52 ZaB:=by
 intro vs b k n e h hn hp
 unfold ZaB at h
 split at h
 ·cases h; obtain ⟨hp0,hp1,hq0,hq1⟩:=hp; obtain ⟨_,rfl⟩:=Zq hq0; obtain ⟨_,rfl⟩:=Zq hq1; simp only [Zi,Zo,Zj,Zp] at hp0 hp1 ⊢; exact (ZnK _ _ _ _ _ _ _ _ _ _ _ _ _ _ _ _ _ _ _ hp0 hp1).lift rfl _
 ·cases h
theorem Zyb (di st q s0 c n d a p f:Int) (l:List Int) (gc gq gw gr:Int) (gl:List Int) (wr pl mi:Int) (hl:l.length≤1000000) (hg:gl.length≤1000000):Spec Tryz.prog 0 87 [.agg (smC ⟨di,st,q,s0,⟨c,⟨n,d,a,p,f⟩,l⟩,⟨gc,gq,gw,gr,gl⟩,wr,pl,mi⟩)] [] [] (vI .i64 (smO ⟨di,st,q,s0,⟨c,⟨n,d,a,p,f⟩,l⟩,⟨gc,gq,gw,gr,gl⟩,wr,pl,mi⟩)) [] []:=by
 refine sE (md:=fun _=>0) (L:=[(49,Zb6),(52,ZaB)]) [] 39 (Za ZcI (Za Zbb Zb)) Tryz.func87 rfl rfl rfl ?_
 simp (maxSteps:=1000000) only [↓Zn,Ze,Zd,Zm,gSt,gS0,Ya,Yb,↓reduceIte,reduceCtorEq,Yc,Yd,Ye,Yf,Yg,Yj,Yk,Yl,Ym,Yn,ZE,Zx,ZaA,ZaT,Zai,Zaj,ZaS,ZF,Tryz.ntmps87,Tryz.results87,gTT]
 refine ⟨⟨hl,hg⟩,fun h=>by simp [smO,h],fun h=>⟨by kernel_rfl,⟨hl,hg⟩,?_⟩⟩
 have hv:smV ⟨di,st,q,s0,⟨c,⟨n,d,a,p,f⟩,l⟩,⟨gc,gq,gw,gr,gl⟩,wr,pl,mi⟩=true:=by simpa using h
 have hn:=ZvA hv hl
 simp only at hn
 rw [IntWalk.i64_in (q - _) (by omega)]
 unfold smO
 rw [if_neg (by rw [hv]; decide)]
def ZjW:List V→Zf→Zr→Name→Option Ent
 | [.agg [.d (.int .i64 di),.d (.int .i64 st),.d (.int .i64 q),.d (.int .i64 s0),.d (.int .i64 c),.d (.int .i64 n),.d (.int .i64 d),.d (.int .i64 a),.d (.int .i64 p),.d (.int .i64 f),.d (.list q_l),.d (.int .i64 gc),.d (.int .i64 gq),.d (.int .i64 gw),.d (.int .i64 gr),.d (.list q_gl),.d (.int .i64 wr),.d (.int .i64 pl),.d (.int .i64 mi)]],[],[],_=>some ⟨(Zc q_l).length≤1000000∧(Zc q_gl).length≤1000000∧q_l=LI .i32 (Zc q_l)∧q_gl=LI .i32 (Zc q_gl),vI .i64 (smO ⟨di,st,q,s0,⟨c,⟨n,d,a,p,f⟩,(Zc q_l)⟩,⟨gc,gq,gw,gr,(Zc q_gl)⟩,wr,pl,mi⟩),[],[]⟩
 | _,_,_,_=>none
def ZwE:=And.intro (@ZjW.eq_1) (@ZjW.eq_1)
theorem ZwF:Snd Tryz.prog 87 ZjW:=by
 intro vs b k n e h hn hp
 unfold ZjW at h
 split at h
 ·cases h; obtain ⟨hp0,hp1,hq0,hq1⟩:=hp; obtain ⟨_,rfl⟩:=Zq hq0; obtain ⟨_,rfl⟩:=Zq hq1; simp only [Zi,Zo,Zj,Zp] at hp0 hp1 ⊢; exact (Zyb _ _ _ _ _ _ _ _ _ _ _ _ _ _ _ _ _ _ _ hp0 hp1).lift rfl _
 ·cases h
theorem Zx9 (di st q s0 c n d a p f:Int) (l:List Int) (gc gq gw gr:Int) (gl:List Int) (wr pl mi:Int) (i:Int) (hl:l.length≤1000000) (hg:gl.length≤1000000):Spec Tryz.prog 0 34 [.agg (smC ⟨di,st,q,s0,⟨c,⟨n,d,a,p,f⟩,l⟩,⟨gc,gq,gw,gr,gl⟩,wr,pl,mi⟩),vI .i64 i] [] [] (.tup [.int .i64 (owN ⟨di,st,q,s0,⟨c,⟨n,d,a,p,f⟩,l⟩,⟨gc,gq,gw,gr,gl⟩,wr,pl,mi⟩ i),.int .i64 (owE ⟨di,st,q,s0,⟨c,⟨n,d,a,p,f⟩,l⟩,⟨gc,gq,gw,gr,gl⟩,wr,pl,mi⟩ i)]) [] []:=by
 refine spec_of_E (X:=⟨Tryz.prog,tt,Tryz.f34.ntmps,1,fun _=>0,(tab [(61,ZgF),(65,Zh8),(90,ZfI),(52,ZaB)])⟩) (M:=[]) (m:=4471) rfl rfl ⟨Z7,ZI (Za ZeQ (Za ZgC (Za Zhm (Za Zbb Zb)))) _ rfl rfl⟩ Zs Tryz.func34 rfl (by decide) (by show (2:Nat)≤_; exact Nat.le_of_ble_eq_true rfl) ⟨by simp [V.has,C.has,ZF],by simp [C.has],by simp⟩ ?_
 simp (maxSteps:=1000000) only [↓Zn,Ze,Zd,Zm,gSt,gS0,Ya,Yb,↓reduceIte,reduceCtorEq,Yc,Yd,Ye,Yf,Yg,Yj,Yk,Yl,Ym,Yn,ZeP,ZgB,Zhl,Zx,ZaA,ZaT,Zai,Zaj,ZaS,ZF,Tryz.ntmps34,Tryz.results34,gTT]
 refine ⟨⟨hl,hg⟩,fun h=>?_,fun h=>⟨fun h2=>?_,fun h2=>⟨⟨hl,hg⟩,?_⟩⟩⟩
 ·have e:owE ⟨di,st,q,s0,⟨c,⟨n,d,a,p,f⟩,l⟩,⟨gc,gq,gw,gr,gl⟩,wr,pl,mi⟩ i=1:=by unfold owE smP; rw [if_pos h]
  simp [owN,e]
 ·have hv:(smV ⟨di,st,q,s0,⟨c,⟨n,d,a,p,f⟩,l⟩,⟨gc,gq,gw,gr,gl⟩,wr,pl,mi⟩ && (di==1))=true:=by simpa using h
  have e:owE ⟨di,st,q,s0,⟨c,⟨n,d,a,p,f⟩,l⟩,⟨gc,gq,gw,gr,gl⟩,wr,pl,mi⟩ i=2:=by unfold owE smP; rw [if_neg (by rw [hv]; decide),if_pos h2]
  simp [owN,e]
 have hv:(smV ⟨di,st,q,s0,⟨c,⟨n,d,a,p,f⟩,l⟩,⟨gc,gq,gw,gr,gl⟩,wr,pl,mi⟩ && (di==1))=true:=by simpa using h
 have e:owE ⟨di,st,q,s0,⟨c,⟨n,d,a,p,f⟩,l⟩,⟨gc,gq,gw,gr,gl⟩,wr,pl,mi⟩ i=0:=by unfold owE smP; rw [if_neg (by rw [hv]; decide),if_neg (by rw [h2]; decide)]
 rw [Bool.and_eq_true] at hv
 have hn:=ZvA hv.1 hl
 have hb:=Zan (Zag hv.1).1
 simp only at hn hb
 have hi:0≤i∧i≤65536:=by simp only [Bool.or_eq_false_iff,decide_eq_false_iff_not] at h2; omega
 have hp:=(ZA hb.2.2.2.1).1
 simp only at hp
 have hN:neE ⟨n,d,a,p,f⟩ i=ned ⟨n,d,a,p,f⟩ i:=by unfold neE; rw [if_pos (ZfA hp hi)]
 have hned:=ZGb hp hi
 rw [hN,IntWalk.i64_in (_ - smN _) (by omega)]
 have e2:owN ⟨di,st,q,s0,⟨c,⟨n,d,a,p,f⟩,l⟩,⟨gc,gq,gw,gr,gl⟩,wr,pl,mi⟩ i=max 0 (ned ⟨n,d,a,p,f⟩ i - smN ⟨di,st,q,s0,⟨c,⟨n,d,a,p,f⟩,l⟩,⟨gc,gq,gw,gr,gl⟩,wr,pl,mi⟩):=by unfold owN; rw [if_pos e]
 rw [e2,e]
 have e3:(if 0 < ned ⟨n,d,a,p,f⟩ i - smN ⟨di,st,q,s0,⟨c,⟨n,d,a,p,f⟩,l⟩,⟨gc,gq,gw,gr,gl⟩,wr,pl,mi⟩ then ned ⟨n,d,a,p,f⟩ i - smN ⟨di,st,q,s0,⟨c,⟨n,d,a,p,f⟩,l⟩,⟨gc,gq,gw,gr,gl⟩,wr,pl,mi⟩ else 0)=max 0 (ned ⟨n,d,a,p,f⟩ i - smN ⟨di,st,q,s0,⟨c,⟨n,d,a,p,f⟩,l⟩,⟨gc,gq,gw,gr,gl⟩,wr,pl,mi⟩):=by split <;> omega
 rw [e3]
def ZjR:List V→Zf→Zr→Name→Option Ent
 | [.agg [.d (.int .i64 di),.d (.int .i64 st),.d (.int .i64 q),.d (.int .i64 s0),.d (.int .i64 c),.d (.int .i64 n),.d (.int .i64 d),.d (.int .i64 a),.d (.int .i64 p),.d (.int .i64 f),.d (.list q_l),.d (.int .i64 gc),.d (.int .i64 gq),.d (.int .i64 gw),.d (.int .i64 gr),.d (.list q_gl),.d (.int .i64 wr),.d (.int .i64 pl),.d (.int .i64 mi)],.c (.d (.int .i64 i))],[],[],_=>some ⟨(Zc q_l).length≤1000000∧(Zc q_gl).length≤1000000∧q_l=LI .i32 (Zc q_l)∧q_gl=LI .i32 (Zc q_gl),.tup [.int .i64 (owN ⟨di,st,q,s0,⟨c,⟨n,d,a,p,f⟩,(Zc q_l)⟩,⟨gc,gq,gw,gr,(Zc q_gl)⟩,wr,pl,mi⟩ i),.int .i64 (owE ⟨di,st,q,s0,⟨c,⟨n,d,a,p,f⟩,(Zc q_l)⟩,⟨gc,gq,gw,gr,(Zc q_gl)⟩,wr,pl,mi⟩ i)],[],[]⟩
 | _,_,_,_=>none
def ZbC:=And.intro (@ZjR.eq_1) (@ZjR.eq_1)
theorem ZwB:Snd Tryz.prog 34 ZjR:=by
 intro vs b k n e h hn hp
 unfold ZjR at h
 split at h
 ·cases h; obtain ⟨hp0,hp1,hq0,hq1⟩:=hp; obtain ⟨_,rfl⟩:=Zq hq0; obtain ⟨_,rfl⟩:=Zq hq1; simp only [Zi,Zo,Zj,Zp] at hp0 hp1 ⊢; exact (Zx9 _ _ _ _ _ _ _ _ _ _ _ _ _ _ _ _ _ _ _ _ hp0 hp1).lift rfl _
 ·cases h
theorem ZtS (di st q s0 c n d a p f:Int) (l:List Int) (gc gq gw gr:Int) (gl:List Int) (wr pl mi:Int) (k:Int) (y:List Int) (hl:l.length≤1000000) (hg:gl.length≤1000000) (hy:y.length≤1000000):Spec Tryz.prog 0 32 [.agg (smC ⟨di,st,q,s0,⟨c,⟨n,d,a,p,f⟩,l⟩,⟨gc,gq,gw,gr,gl⟩,wr,pl,mi⟩),.agg [.d (.int .i64 k),.d (.list (LI .i32 y))]] [] [] (.tup [.agg (smD (swR ⟨di,st,q,s0,⟨c,⟨n,d,a,p,f⟩,l⟩,⟨gc,gq,gw,gr,gl⟩,wr,pl,mi⟩ k y)),.int .i64 (swE ⟨di,st,q,s0,⟨c,⟨n,d,a,p,f⟩,l⟩,⟨gc,gq,gw,gr,gl⟩,wr,pl,mi⟩ k y)]) [] []:=by
 refine sE (md:=fun _=>0) (L:=[(61,ZgF),(62,ZaR),(87,ZjW),(88,Zi7)]) [] 1152922054396346623 (Za ZeQ (Za Zax (Za ZwF (Za Zi9 Zb)))) Tryz.func32 rfl rfl rfl ?_
 simp (maxSteps:=1000000) only [↓Zn,Ze,Zd,Zm,gSt,gS0,Ya,Yb,↓reduceIte,reduceCtorEq,Yc,Yd,Ye,Yf,Yg,Yj,Yk,Yl,Ym,Yn,ZeP,ZD,ZwE,Zi8,ZaA,ZaT,Zai,Zaj,ZaS,ZF,Tryz.ntmps32,Tryz.results32,gTT]
 refine ⟨⟨hl,hg⟩,fun _=>hy,fun h=>?_,fun h=>⟨fun h2=>?_,fun h2=>⟨fun h3=>?_,fun h3=>?_⟩⟩⟩
 ·have e:swE ⟨di,st,q,s0,⟨c,⟨n,d,a,p,f⟩,l⟩,⟨gc,gq,gw,gr,gl⟩,wr,pl,mi⟩ k y=1:=by unfold swE smP; rw [if_pos h]
  simp [swR,e,sm0,rs0,rg0,Zw]
 ·have hk:k≠c:=by simpa using h2
  have e:swE ⟨di,st,q,s0,⟨c,⟨n,d,a,p,f⟩,l⟩,⟨gc,gq,gw,gr,gl⟩,wr,pl,mi⟩ k y=11:=by unfold swE smP; rw [if_neg (by rw [h]; decide),if_pos hk]
  simp [swR,e,sm0,rs0,rg0,Zw]
 ·have hk:k=c:=by simpa using h2
  have e:swE ⟨di,st,q,s0,⟨c,⟨n,d,a,p,f⟩,l⟩,⟨gc,gq,gw,gr,gl⟩,wr,pl,mi⟩ k y=9:=by unfold swE smP; rw [if_neg (by rw [h]; decide),if_neg (by simpa using hk),if_pos (of_decide_eq_true h3)]
  simp [swR,e,sm0,rs0,rg0,Zw]
 have hk:k=c:=by simpa using h2
 have hv:(smV ⟨di,st,q,s0,⟨c,⟨n,d,a,p,f⟩,l⟩,⟨gc,gq,gw,gr,gl⟩,wr,pl,mi⟩ && (di==1))=true∧ZaL k y=true:=by
  simp only [Bool.or_eq_false_iff,Bool.not_eq_false'] at h
  exact h
 obtain ⟨hv,hb⟩:=hv
 rw [Bool.and_eq_true] at hv
 have hO:=ZH4 (x:=⟨di,st,q,s0,⟨c,⟨n,d,a,p,f⟩,l⟩,⟨gc,gq,gw,gr,gl⟩,wr,pl,mi⟩) hl
 have hbb:=Zan (Zag hv.1).1
 simp only at hbb
 obtain ⟨⟨k1,k2⟩,k3,k4,k5⟩:=ZW hb hy
 have hz:((y.length / k.toNat:Nat):Int)≤65536:=Int.ofNat_le.2 k4
 have hN:swN k y=((y.length / k.toNat:Nat):Int):=rfl
 rw [Zdg k1 (by omega),← hN]
 refine ⟨by omega,⟨hl,hg⟩,fun h4=>?_,fun h4=>⟨⟨hl,hy⟩,fun h5=>?_,fun h5=>?_⟩⟩
 ·have e:swE ⟨di,st,q,s0,⟨c,⟨n,d,a,p,f⟩,l⟩,⟨gc,gq,gw,gr,gl⟩,wr,pl,mi⟩ k y=10:=by unfold swE smP; rw [if_neg (by rw [h]; decide),if_neg (by simpa using hk),if_neg (of_decide_eq_false h3),if_pos (of_decide_eq_true h4)]
  simp [swR,e,sm0,rs0,rg0,Zw]
 ·have e:swE ⟨di,st,q,s0,⟨c,⟨n,d,a,p,f⟩,l⟩,⟨gc,gq,gw,gr,gl⟩,wr,pl,mi⟩ k y=0:=by unfold swE smP; rw [if_neg (by rw [h]; decide),if_neg (by simpa using hk),if_neg (of_decide_eq_false h3),if_neg (of_decide_eq_false h4)]
  have h6:st=1∧0 < swN k y:=by simpa using h5
  have e2:swR ⟨di,st,q,s0,⟨c,⟨n,d,a,p,f⟩,l⟩,⟨gc,gq,gw,gr,gl⟩,wr,pl,mi⟩ k y=⟨di,2,q,s0,feR ⟨c,⟨n,d,a,p,f⟩,l⟩ k y,⟨gc,gq,gw,gr,gl⟩,IntKind.i64.wrap (wr+swN k y),pl,mi⟩:=by unfold swR; rw [if_pos e,if_pos h6]
  rw [e2,e]
 ·have e:swE ⟨di,st,q,s0,⟨c,⟨n,d,a,p,f⟩,l⟩,⟨gc,gq,gw,gr,gl⟩,wr,pl,mi⟩ k y=0:=by unfold swE smP; rw [if_neg (by rw [h]; decide),if_neg (by simpa using hk),if_neg (of_decide_eq_false h3),if_neg (of_decide_eq_false h4)]
  have h6:¬ (st=1∧0 < swN k y):=by
   intro h7
   rw [Bool.and_eq_false_iff] at h5
   rcases h5 with h5 | h5
   ·simp at h5; exact h5 h7.1
   ·have:=of_decide_eq_false h5; omega
  have e2:swR ⟨di,st,q,s0,⟨c,⟨n,d,a,p,f⟩,l⟩,⟨gc,gq,gw,gr,gl⟩,wr,pl,mi⟩ k y=⟨di,st,q,s0,feR ⟨c,⟨n,d,a,p,f⟩,l⟩ k y,⟨gc,gq,gw,gr,gl⟩,IntKind.i64.wrap (wr+swN k y),pl,mi⟩:=by unfold swR; rw [if_pos e,if_neg h6]
  rw [e2,e]
def ZgK:List V→Zf→Zr→Name→Option Ent
 | [.agg [.d (.int .i64 di),.d (.int .i64 st),.d (.int .i64 q),.d (.int .i64 s0),.d (.int .i64 c),.d (.int .i64 n),.d (.int .i64 d),.d (.int .i64 a),.d (.int .i64 p),.d (.int .i64 f),.d (.list q_l),.d (.int .i64 gc),.d (.int .i64 gq),.d (.int .i64 gw),.d (.int .i64 gr),.d (.list q_gl),.d (.int .i64 wr),.d (.int .i64 pl),.d (.int .i64 mi)],.agg [.d (.int .i64 k),.d (.list q_y)]],[],[],_=>some ⟨(Zc q_l).length≤1000000∧(Zc q_gl).length≤1000000∧(Zc q_y).length≤1000000∧q_l=LI .i32 (Zc q_l)∧q_gl=LI .i32 (Zc q_gl)∧q_y=LI .i32 (Zc q_y),.tup [.agg (smD (swR ⟨di,st,q,s0,⟨c,⟨n,d,a,p,f⟩,(Zc q_l)⟩,⟨gc,gq,gw,gr,(Zc q_gl)⟩,wr,pl,mi⟩ k (Zc q_y))),.int .i64 (swE ⟨di,st,q,s0,⟨c,⟨n,d,a,p,f⟩,(Zc q_l)⟩,⟨gc,gq,gw,gr,(Zc q_gl)⟩,wr,pl,mi⟩ k (Zc q_y))],[],[]⟩
 | _,_,_,_=>none
def Za1:=And.intro (@ZgK.eq_1) (@ZgK.eq_1)
theorem Zsl:Snd Tryz.prog 32 ZgK:=by
 intro vs b k n e h hn hp
 unfold ZgK at h
 split at h
 ·cases h; obtain ⟨hp0,hp1,hp2,hq0,hq1,hq2⟩:=hp; obtain ⟨_,rfl⟩:=Zq hq0; obtain ⟨_,rfl⟩:=Zq hq1; obtain ⟨_,rfl⟩:=Zq hq2; simp only [Zi,Zo,Zj,Zp] at hp0 hp1 hp2 ⊢; exact (ZtS _ _ _ _ _ _ _ _ _ _ _ _ _ _ _ _ _ _ _ _ _ hp0 hp1 hp2).lift rfl _
 ·cases h
theorem ZtI (di st q s0 c n d a p f:Int) (l:List Int) (gc gq gw gr:Int) (gl:List Int) (wr pl mi:Int) (hl:l.length≤1000000) (hg:gl.length≤1000000):Spec Tryz.prog 0 199 [.agg (smC ⟨di,st,q,s0,⟨c,⟨n,d,a,p,f⟩,l⟩,⟨gc,gq,gw,gr,gl⟩,wr,pl,mi⟩)] [] [] (.agg (smC (smE ⟨di,st,q,s0,⟨c,⟨n,d,a,p,f⟩,l⟩,⟨gc,gq,gw,gr,gl⟩,wr,pl,mi⟩))) [] []:=by
 refine sE (md:=fun _=>0) (L:=[(47,ZeO),(243,ZeK)]) [(1,[0,0,0,0,0,155215,0,0,0,0,0,151559,0])] 131079 (Za Zfl (Za ZoN Zb)) Tryz.func199 rfl rfl rfl ?_
 simp (maxSteps:=1000000) only [↓Zn,Ze,Zd,Zm,gSt,gS0,Ya,Yb,↓reduceIte,reduceCtorEq,Yc,Yd,Ye,Yf,Yg,Yj,Yk,Yl,Ym,Yn,Zfk,ZoM,ZaA,ZaT,Zai,Zaj,ZaS,ZF,Tryz.ntmps199,Tryz.results199,gTT]
 refine ⟨fun h=>?_,fun h=>?_⟩
 ·have hd:di=2:=by simpa using h
  simp [smE,hd,hg]
 ·have hd:¬ di=2:=by simpa using h
  simp [smE,hd]
def Zfm:List V→Zf→Zr→Name→Option Ent
 | [.agg [.d (.int .i64 di),.d (.int .i64 st),.d (.int .i64 q),.d (.int .i64 s0),.d (.int .i64 c),.d (.int .i64 n),.d (.int .i64 d),.d (.int .i64 a),.d (.int .i64 p),.d (.int .i64 f),.d (.list q_l),.d (.int .i64 gc),.d (.int .i64 gq),.d (.int .i64 gw),.d (.int .i64 gr),.d (.list q_gl),.d (.int .i64 wr),.d (.int .i64 pl),.d (.int .i64 mi)]],[],[],_=>some ⟨(Zc q_l).length≤1000000∧(Zc q_gl).length≤1000000∧q_l=LI .i32 (Zc q_l)∧q_gl=LI .i32 (Zc q_gl),.agg (smC (smE ⟨di,st,q,s0,⟨c,⟨n,d,a,p,f⟩,(Zc q_l)⟩,⟨gc,gq,gw,gr,(Zc q_gl)⟩,wr,pl,mi⟩)),[],[]⟩
 | _,_,_,_=>none
def ZjO:=And.intro (@Zfm.eq_1) (@Zfm.eq_1)
theorem ZjP:Snd Tryz.prog 199 Zfm:=by
 intro vs b k n e h hn hp
 unfold Zfm at h
 split at h
 ·cases h; obtain ⟨hp0,hp1,hq0,hq1⟩:=hp; obtain ⟨_,rfl⟩:=Zq hq0; obtain ⟨_,rfl⟩:=Zq hq1; simp only [Zi,Zo,Zj,Zp] at hp0 hp1 ⊢; exact (ZtI _ _ _ _ _ _ _ _ _ _ _ _ _ _ _ _ _ _ _ hp0 hp1).lift rfl _
 ·cases h
theorem ZCj (di ch n d q s0:Int):Spec Tryz.prog 0 10 [vI .i64 di,vI .i64 ch,.agg [.d (.int .i64 n),.d (.int .i64 d)],vI .i64 q,vI .i64 s0] [] [] (.tup [.agg (smD (snR di ch n d q s0)),.int .i64 (snE di ch n d q s0)]) [] []:=by
 refine sE (md:=fun _=>0) (L:=[(47,ZeO),(48,ZjA),(49,Zb6)]) [] 34393300127 (Za Zfl (Za Zwn (Za ZcI Zb))) Tryz.func10 rfl rfl rfl ?_
 simp (maxSteps:=1000000) only [↓Zn,Ze,Zd,Zm,gSt,gS0,Ya,Yb,↓reduceIte,reduceCtorEq,Yc,Yd,Ye,Yf,Yg,Yj,Yk,Yl,Ym,Yn,Zfk,Zwm,ZE,ZaA,ZaT,Zai,Zaj,ZaS,ZF,Tryz.ntmps10,Tryz.results10,gTT]
 have hr:(nwR ch n d).l.length≤1000000:=by
  unfold nwR
  split <;> exact Nat.zero_le _
 have hg:(rnR ch q).l.length≤1000000:=by
  unfold rnR
  split <;> exact Nat.zero_le _
 refine ⟨fun h=>⟨⟨hr,hg⟩,fun h2=>?_,fun h2=>?_⟩,fun h=>⟨hr,fun h2=>?_,fun h2=>?_⟩⟩
 ·have hd:di=2:=by simpa using h
  have e:smV (snS di ch n d q s0)=false:=by unfold snS; rw [if_pos hd]; exact h2
  simp [snR,snE,e,sm0,rs0,rg0,Zw]
 ·have hd:di=2:=by simpa using h
  have e:smV (snS di ch n d q s0)=true:=by unfold snS; rw [if_pos hd]; simpa using h2
  unfold snR snE
  rw [if_pos e,if_pos e]
  unfold snS
  rw [if_pos hd]
 ·have hd:¬ di=2:=by simpa using h
  have e:smV (snS di ch n d q s0)=false:=by unfold snS; rw [if_neg hd]; exact h2
  simp [snR,snE,e,sm0,rs0,rg0,Zw]
 ·have hd:¬ di=2:=by simpa using h
  have e:smV (snS di ch n d q s0)=true:=by unfold snS; rw [if_neg hd]; simpa [rg0] using h2
  unfold snR snE
  rw [if_pos e,if_pos e]
  unfold snS
  rw [if_neg hd]
  rfl
def Zo0:List V→Zf→Zr→Name→Option Ent
 | [.c (.d (.int .i64 di)),.c (.d (.int .i64 ch)),.agg [.d (.int .i64 n),.d (.int .i64 d)],.c (.d (.int .i64 q)),.c (.d (.int .i64 s0))],[],[],_=>some ⟨True,.tup [.agg (smD (snR di ch n d q s0)),.int .i64 (snE di ch n d q s0)],[],[]⟩
 | _,_,_,_=>none
def Zcn:=And.intro (@Zo0.eq_1) (@Zo0.eq_1)
theorem Zzc:Snd Tryz.prog 10 Zo0:=by
 intro vs b k n e h hn hp
 unfold Zo0 at h
 split at h
 ·cases h; exact (ZCj _ _ _ _ _ _).lift rfl _
 ·cases h
end Go.Vam
end
