/- A part of the proof. Conditions: none. -/
import Derived.Test.YtmpbpijnbmpbhaaGreatSDc
set_option linter.unusedVariables false
set_option linter.defProp false
set_option linter.unusedSimpArgs false
set_option maxRecDepth 40000
set_option maxHeartbeats 4000000
namespace Go.Vam
open Go.Proofs
open Nat renaming reduceShiftRight→Ya,reduceMod→Yb,reduceEqDiff→Yc,reduceLT→Yd,reduceLeDiff→Ye,reduceAdd→Yf,reduceMul→Yg
open Int renaming reduceLE→Yj,reduceLT→Yk,reduceNeg→Yl,reduceAdd→Ym,reduceToNat→Yn
theorem Zs2 (a b:List Int) (ha:a.length≤1000000000):Spec Tryz.prog 0 257 [vL (LI .i64 a),vL (LI .i64 b)] [] [] (vB (a==b)) [] []:=by
 refine sE (md:=fun _=>0) (L:=[]) [] 16806963 Zb Tryz.func257 rfl rfl rfl ?_
 simp (maxSteps:=1000000) only [↓Zo,Ze,Zd,Zn,gSt,gS0,Ya,Yb,↓reduceIte,reduceCtorEq,Yc,Yd,Ye,Yf,Yg,Yj,Yk,Yl,Ym,Yn,gE1,Tryz.ntmps257,Tryz.results257,gTT]
 refine ⟨fun h=>?_,fun h=>?_⟩
 ·rw [beq_eq_false_iff_ne]
  intro e
  subst e
  simp at h
 have hlen:a.length=b.length:=by
  have:(a.length:Int)=b.length:=by simpa using h
  omega
 refine Zl (fun n=>⟨[(13,vI .i64 (n:Nat))],[],[]⟩) (fun n=>n≤a.length∧a.take n=b.take n) (fun n=>a.length - n) (·+1) 0 ⟨Nat.zero_le _,rfl⟩ ?_ ?_
 ·simp (maxSteps:=1000000) only [↓Zo,Ze,Zd,Zn,gSt,gS0,Ya,Yb,↓reduceIte,reduceCtorEq,Yc,Yd,Ye,Yf,Yg,Yj,Yk,Yl,Ym,Yn,gE1,Tryz.ntmps257,Tryz.results257,gTT]
  rfl
 rintro n ⟨hn,heq⟩
 simp (maxSteps:=1000000) only [↓Zo,Ze,Zd,Zn,gSt,gS0,Ya,Yb,↓reduceIte,reduceCtorEq,Yc,Yd,Ye,Yf,Yg,Yj,Yk,Yl,Ym,Yn,gE1,Tryz.ntmps257,Tryz.results257,gTT]
 refine ⟨fun h1=>?_,fun h1=>?_⟩
 ·have hlt:n < a.length:=by have:=of_decide_eq_true h1; omega
  have hlt2:n < b.length:=by omega
  have g1:a[n]?.getD 0=a[n]:=by rw [List.getElem?_eq_getElem hlt]; rfl
  have g2:b[n]?.getD 0=b[n]:=by rw [List.getElem?_eq_getElem hlt2]; rfl
  rw [g1,g2]
  refine ⟨by kernel_rfl,by omega,by omega,fun h2=>?_,fun h2=>?_⟩
  ·rw [beq_eq_false_iff_ne]
   intro e
   subst e
   simp at h2
  ·have e:a[n]=b[n]:=by simpa using h2
   refine ⟨(Zaz _ (by omega)).symm,⟨by omega,?_⟩,by omega⟩
   rw [List.take_add_one,List.take_add_one,heq,List.getElem?_eq_getElem hlt,List.getElem?_eq_getElem hlt2,e]
 ·have hnl:n=a.length:=by have:=of_decide_eq_false h1; omega
  rw [hnl,List.take_length,hlen,List.take_length] at heq
  rw [heq,beq_self_eq_true]
def ZgI:List V→Zf→Zw→Name→Option Ent
 | [.c (.d (.list q_a)),.c (.d (.list q_b))],[],[],_=>some ⟨(Zc q_a).length≤1000000000∧q_a=LI .i64 (Zc q_a)∧q_b=LI .i64 (Zc q_b),vB ((Zc q_a)==(Zc q_b)),[],[]⟩
 | _,_,_,_=>none
def ZrI:=And.intro (@ZgI.eq_1) (@ZgI.eq_1)
theorem ZrJ:Snd Tryz.prog 257 ZgI:=by
 intro vs b k n e h hn hp
 unfold ZgI at h
 split at h
 ·cases h; obtain ⟨hp0,hq0,hq1⟩:=hp; obtain ⟨_,rfl⟩:=Zu hq0; obtain ⟨_,rfl⟩:=Zu hq1; simp only [Zi,Zp,Zj,Zq] at hp0 ⊢; exact (Zs2 _ _ hp0).lift rfl _
 ·cases h
theorem ZwP (n d:Int) (hn:n≤1000000000000) (hd:d≤1000000000000):Spec Tryz.prog 0 108 [vI .i64 n,vI .i64 d] [] [] (.tup [.agg [.int .i64 (mqN n d),.int .i64 (mqD n d)],.int .i64 (mqE n d)]) [] []:=by
 refine spec_of_E (X:=⟨Tryz.prog,tt,Tryz.f108.ntmps,1,fun _=>0,(tab [(177,Zrb)])⟩) (M:=[]) (m:=268439667) rfl rfl ⟨Zah,ZU (Za Zmg Zb) _ rfl rfl⟩ ZB Tryz.func108 rfl (by decide) (by show (2:Nat)≤_; exact Nat.le_of_ble_eq_true rfl) ⟨by simp [V.has,C.has,Z6],by simp [C.has],by simp⟩ ?_
 simp (maxSteps:=1000000) only [↓Zo,Ze,Zd,Zn,gSt,gS0,Ya,Yb,↓reduceIte,reduceCtorEq,Yc,Yd,Ye,Yf,Yg,Yj,Yk,Yl,Ym,Yn,Zmf,gE1,Tryz.ntmps108,Tryz.results108,gTT]
 refine ⟨fun h=>?_,fun h=>?_⟩
 ·have e:mqE n d=1:=by unfold mqE; rw [if_pos h]
  simp [mqN,mqD,e]
 have hb:1≤n∧1≤d:=by simp only [Bool.or_eq_false_iff,decide_eq_false_iff_not] at h; omega
 have hg:=Zt4 (d:=d) hb.1
 have h1:0≤n / Zd4 n d∧n / Zd4 n d≤n:=⟨Int.ediv_nonneg (by omega) (by omega),Int.ediv_le_self _ (by omega)⟩
 have h2:0≤d / Zd4 n d∧d / Zd4 n d≤d:=⟨Int.ediv_nonneg (by omega) (by omega),Int.ediv_le_self _ (by omega)⟩
 refine ⟨by omega,by kernel_rfl,by omega,by omega,?_⟩
 rw [Int.tdiv_eq_ediv_of_nonneg (by omega),Int.tdiv_eq_ediv_of_nonneg (by omega),IntWalk.i64_in (n / Zd4 n d) (by omega),IntWalk.i64_in (d / Zd4 n d) (by omega)]
 refine ⟨fun h3=>?_,fun h3=>?_⟩
 ·have e:mqE n d=2:=by unfold mqE; rw [if_neg (by rw [h]; decide),if_pos h3]
  simp [mqN,mqD,e]
 ·have e:mqE n d=0:=by unfold mqE; rw [if_neg (by rw [h]; decide),if_neg (by rw [h3]; decide)]
  simp [mqN,mqD,e]
def Zji:List V→Zf→Zw→Name→Option Ent
 | [.c (.d (.int .i64 n)),.c (.d (.int .i64 d))],[],[],_=>some ⟨n≤1000000000000∧d≤1000000000000,.tup [.agg [.int .i64 (mqN n d),.int .i64 (mqD n d)],.int .i64 (mqE n d)],[],[]⟩
 | _,_,_,_=>none
def Zvn:=And.intro (@Zji.eq_1) (@Zji.eq_1)
theorem Zvo:Snd Tryz.prog 108 Zji:=by
 intro vs b k n e h hn hp
 unfold Zji at h
 split at h
 ·cases h; obtain ⟨hp0,hp1⟩:=hp; exact (ZwP _ _ hp0 hp1).lift rfl _
 ·cases h
structure Fm where
 k:Int
 r:Int
 m:List Int
structure Cv where
 f:Fm
 t:Fm
 mi:Int
 mo:Int
 mc:List Int
 r:Rs
def cv0:Cv:=⟨⟨0,0,[]⟩,⟨0,0,[]⟩,0,0,[],rs0⟩
theorem Zdw (x:Fm):(⟨x.k,x.r,x.m⟩:Fm)=x:=rfl
theorem Zdv (x:Cv):(⟨x.f,x.t,x.mi,x.mo,x.mc,x.r⟩:Cv)=x:=rfl
def ZKD (x:Cv):List D:=[.int .i64 (x).f.k,.int .i64 (x).f.r,.list (LI .i64 (x).f.m),.int .i64 (x).t.k,.int .i64 (x).t.r,.list (LI .i64 (x).t.m),.int .i64 (x).mi,.int .i64 (x).mo,.list (LI .i64 (x).mc),.int .i64 (x).r.c,.int .i64 (x).r.p.n,.int .i64 (x).r.p.d,.int .i64 (x).r.p.a,.int .i64 (x).r.p.p,.int .i64 (x).r.p.f,.list (LI .i32 (x).r.l)]
theorem ZbW (x:Cv):ZKD x=[.int .i64 (x).f.k,.int .i64 (x).f.r,.list (LI .i64 (x).f.m),.int .i64 (x).t.k,.int .i64 (x).t.r,.list (LI .i64 (x).t.m),.int .i64 (x).mi,.int .i64 (x).mo,.list (LI .i64 (x).mc),.int .i64 (x).r.c,.int .i64 (x).r.p.n,.int .i64 (x).r.p.d,.int .i64 (x).r.p.a,.int .i64 (x).r.p.p,.int .i64 (x).r.p.f,.list (LI .i32 (x).r.l)]:=Eq.trans rfl rfl
def ZMI (x:Cv):List C:=[.d (.int .i64 (x).f.k),.d (.int .i64 (x).f.r),.d (.list (LI .i64 (x).f.m)),.d (.int .i64 (x).t.k),.d (.int .i64 (x).t.r),.d (.list (LI .i64 (x).t.m)),.d (.int .i64 (x).mi),.d (.int .i64 (x).mo),.d (.list (LI .i64 (x).mc)),.d (.int .i64 (x).r.c),.d (.int .i64 (x).r.p.n),.d (.int .i64 (x).r.p.d),.d (.int .i64 (x).r.p.a),.d (.int .i64 (x).r.p.p),.d (.int .i64 (x).r.p.f),.d (.list (LI .i32 (x).r.l))]
theorem ZH (x:Cv):ZMI x=[.d (.int .i64 (x).f.k),.d (.int .i64 (x).f.r),.d (.list (LI .i64 (x).f.m)),.d (.int .i64 (x).t.k),.d (.int .i64 (x).t.r),.d (.list (LI .i64 (x).t.m)),.d (.int .i64 (x).mi),.d (.int .i64 (x).mo),.d (.list (LI .i64 (x).mc)),.d (.int .i64 (x).r.c),.d (.int .i64 (x).r.p.n),.d (.int .i64 (x).r.p.d),.d (.int .i64 (x).r.p.a),.d (.int .i64 (x).r.p.p),.d (.int .i64 (x).r.p.f),.d (.list (LI .i32 (x).r.l))]:=Eq.trans rfl rfl
def fmV (x:Fm):Bool:=decide (0 < szK x.k) && decide (1000≤x.r) && decide (x.r≤768000) && chV x.m
theorem ZGn {x:Fm} (h:fmV x=true):(1≤szK x.k∧szK x.k≤4)∧(1000≤x.r∧x.r≤768000)∧chV x.m=true∧1≤x.m.length∧x.m.length≤8:=by
 simp only [fmV,Bool.and_eq_true,decide_eq_true_eq] at h
 obtain ⟨⟨⟨h1,h2⟩,h3⟩,h4⟩:=h
 have h5:=h4
 simp only [chV,Bool.and_eq_true,decide_eq_true_eq] at h5
 refine ⟨⟨by omega,?_⟩,⟨h2,h3⟩,h4,h5.1.1,h5.1.2⟩
 unfold szK
 repeat' split
 all_goals omega
def cnE (x y:Fm):Int:=if (fmV x && fmV y)=true then 0 else 1
def cnR (x y:Fm):Cv:=if cnE x y=0 then ⟨x,y,dfN x.m y.m x.m,dfN x.m y.m y.m,dfO x.m y.m,nwR y.m.length (mqN x.r y.r) (mqD x.r y.r)⟩ else cv0
theorem ZAI (fk fr:Int) (fm:List Int) (hm:fm.length≤1000000):Spec Tryz.prog 0 106 [.agg [.d (.int .i64 fk),.d (.int .i64 fr),.d (.list (LI .i64 fm))]] [] [] (vB (fmV ⟨fk,fr,fm⟩)) [] []:=by
 refine sE (md:=fun _=>0) (L:=[(176,Zox),(80,ZdG)]) [(1,[0,0,0,0,0,4194183,0,0,0,0,0,4182023,0,0,0,0,0,3276807,0,0])] 7 (Za Zx7 (Za Zfz Zb)) Tryz.func106 rfl rfl rfl ?_
 simp (maxSteps:=1000000) only [↓Zo,Ze,Zd,Zn,gSt,gS0,Ya,Yb,↓reduceIte,reduceCtorEq,Yc,Yd,Ye,Yf,Yg,Yj,Yk,Yl,Ym,Yn,Zx6,Zaj,gE1,Zdw,Zdv,ZbW,ZH,Tryz.ntmps106,Tryz.results106,gTT]
 exact ⟨fun _=>hm,rfl⟩
def ZnQ:List V→Zf→Zw→Name→Option Ent
 | [.agg [.d (.int .i64 fk),.d (.int .i64 fr),.d (.list q_fm)]],[],[],_=>some ⟨(Zc q_fm).length≤1000000∧q_fm=LI .i64 (Zc q_fm),vB (fmV ⟨fk,fr,(Zc q_fm)⟩),[],[]⟩
 | _,_,_,_=>none
def ZxC:=And.intro (@ZnQ.eq_1) (@ZnQ.eq_1)
theorem ZxD:Snd Tryz.prog 106 ZnQ:=by
 intro vs b k n e h hn hp
 unfold ZnQ at h
 split at h
 ·cases h; obtain ⟨hp0,hq0⟩:=hp; obtain ⟨_,rfl⟩:=Zu hq0; simp only [Zi,Zp,Zj,Zq] at hp0 ⊢; exact (ZAI _ _ _ hp0).lift rfl _
 ·cases h
theorem ZAD (fk fr:Int) (fm:List Int) (hm:fm.length≤1000000):Spec Tryz.prog 0 107 [.agg [.d (.int .i64 fk),.d (.int .i64 fr),.d (.list (LI .i64 fm))]] [] [] (.agg [.d (.int .i64 fk),.d (.int .i64 fr),.d (.list (LI .i64 fm))]) [] []:=by
 refine sE (md:=fun _=>0) (L:=[(138,Zc9)]) [] 7 (Za ZhL Zb) Tryz.func107 rfl rfl rfl ?_
 simp (maxSteps:=1000000) only [↓Zo,Ze,Zd,Zn,gSt,gS0,Ya,Yb,↓reduceIte,reduceCtorEq,Yc,Yd,Ye,Yf,Yg,Yj,Yk,Yl,Ym,Yn,ZcL,gE1,Zdw,Zdv,ZbW,ZH,Tryz.ntmps107,Tryz.results107,gTT]
 omega
def ZnE:List V→Zf→Zw→Name→Option Ent
 | [.agg [.d (.int .i64 fk),.d (.int .i64 fr),.d (.list q_fm)]],[],[],_=>some ⟨(Zc q_fm).length≤1000000∧q_fm=LI .i64 (Zc q_fm),.agg [.d (.int .i64 fk),.d (.int .i64 fr),.d (.list (LI .i64 (Zc q_fm)))],[],[]⟩
 | _,_,_,_=>none
def Zxv:=And.intro (@ZnE.eq_1) (@ZnE.eq_1)
theorem Zxw:Snd Tryz.prog 107 ZnE:=by
 intro vs b k n e h hn hp
 unfold ZnE at h
 split at h
 ·cases h; obtain ⟨hp0,hq0⟩:=hp; obtain ⟨_,rfl⟩:=Zu hq0; simp only [Zi,Zp,Zj,Zq] at hp0 ⊢; exact (ZAD _ _ _ hp0).lift rfl _
 ·cases h
theorem ZAC (fk fr:Int) (fm:List Int) (tk tr:Int) (tm:List Int) (hm:fm.length≤1000000) (ht:tm.length≤1000000):Spec Tryz.prog 0 42 [.agg [.d (.int .i64 fk),.d (.int .i64 fr),.d (.list (LI .i64 fm))],.agg [.d (.int .i64 tk),.d (.int .i64 tr),.d (.list (LI .i64 tm))]] [] [] (.tup [.agg (ZKD (cnR ⟨fk,fr,fm⟩ ⟨tk,tr,tm⟩)),.int .i64 (cnE ⟨fk,fr,fm⟩ ⟨tk,tr,tm⟩)]) [] []:=by
 refine sE (md:=fun _=>0) (L:=[(106,ZnQ),(107,ZnE),(29,ZnG),(108,Zji),(47,ZfG)]) [] 65791 (Za ZxD (Za Zxw (Za Zxy (Za Zvo (Za Zhq Zb))))) Tryz.func42 rfl rfl rfl ?_
 simp (maxSteps:=1000000) only [↓Zo,Ze,Zd,Zn,gSt,gS0,Ya,Yb,↓reduceIte,reduceCtorEq,Yc,Yd,Ye,Yf,Yg,Yj,Yk,Yl,Ym,Yn,ZxC,Zxv,Zxx,Zvn,Zhp,gE1,Zdw,Zdv,ZbW,ZH,Tryz.ntmps42,Tryz.results42,gTT]
 refine ⟨hm,fun _=>ht,fun h=>?_,fun h=>⟨by kernel_rfl,hm,ht,⟨hm,ht⟩,⟨?_,?_⟩,?_⟩⟩
 ·have e:cnE ⟨fk,fr,fm⟩ ⟨tk,tr,tm⟩=1:=by
   unfold cnE
   rw [if_neg]
   intro h2
   rw [Bool.and_eq_true] at h2
   rw [h2.1,h2.2] at h
   exact absurd h (by decide)
  simp [cnR,e,cv0,rs0,Zy]
 all_goals
  simp only [Bool.or_eq_false_iff,Bool.not_eq_false'] at h
  have hf:=ZGn h.1
  have hg:=ZGn h.2
  simp only at hf hg
 ·omega
 ·omega
 have e:cnE ⟨fk,fr,fm⟩ ⟨tk,tr,tm⟩=0:=by unfold cnE; rw [h.1,h.2]; rfl
 simp [cnR,e]
def ZnD:List V→Zf→Zw→Name→Option Ent
 | [.agg [.d (.int .i64 fk),.d (.int .i64 fr),.d (.list q_fm)],.agg [.d (.int .i64 tk),.d (.int .i64 tr),.d (.list q_tm)]],[],[],_=>some ⟨(Zc q_fm).length≤1000000∧(Zc q_tm).length≤1000000∧q_fm=LI .i64 (Zc q_fm)∧q_tm=LI .i64 (Zc q_tm),.tup [.agg (ZKD (cnR ⟨fk,fr,(Zc q_fm)⟩ ⟨tk,tr,(Zc q_tm)⟩)),.int .i64 (cnE ⟨fk,fr,(Zc q_fm)⟩ ⟨tk,tr,(Zc q_tm)⟩)],[],[]⟩
 | _,_,_,_=>none
def Zf9:=And.intro (@ZnD.eq_1) (@ZnD.eq_1)
theorem Zxu:Snd Tryz.prog 42 ZnD:=by
 intro vs b k n e h hn hp
 unfold ZnD at h
 split at h
 ·cases h; obtain ⟨hp0,hp1,hq0,hq1⟩:=hp; obtain ⟨_,rfl⟩:=Zu hq0; obtain ⟨_,rfl⟩:=Zu hq1; simp only [Zi,Zp,Zj,Zq] at hp0 hp1 ⊢; exact (ZAC _ _ _ _ _ _ hp0 hp1).lift rfl _
 ·cases h
end Go.Vam
