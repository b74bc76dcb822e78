/- A part of the proof. Conditions: none. -/
import Derived.Test.YtmpbpijnbmpbhaaGreatBDc
set_option linter.unusedVariables false
set_option linter.defProp false
set_option linter.unusedSimpArgs false
set_option maxRecDepth 40000
set_option maxHeartbeats 4000000
namespace Go.Vam
open Go.Proofs
open Nat renaming reduceShiftRight→Ya,reduceMod→Yb,reduceEqDiff→Yc,reduceLT→Yd,reduceLeDiff→Ye,reduceAdd→Yf,reduceMul→Yg
open Int renaming reduceLE→Yj,reduceLT→Yk,reduceNeg→Yl,reduceAdd→Ym,reduceToNat→Yn
theorem ZtJ (a b:List Int) (ha:a.length≤1000000000):Spec Tryz.prog 0 257 [vL (LI .i64 a),vL (LI .i64 b)] [] [] (vB (a==b)) [] []:=by
 refine sE (md:=fun _=>0) (L:=[]) [] 16806963 Zb Tryz.func257 rfl rfl rfl ?_
 simp (maxSteps:=1000000) only [↓Zn,Ze,Zd,Zm,gSt,gS0,Ya,Yb,↓reduceIte,reduceCtorEq,Yc,Yd,Ye,Yf,Yg,Yj,Yk,Yl,Ym,Yn,gE1,Tryz.ntmps257,Tryz.results257,gTT]
 refine ⟨fun h=>?_,fun h=>?_⟩
 ·rw [beq_eq_false_iff_ne]
  intro e
  subst e
  simp at h
 have hlen:a.length=b.length:=by
  have:(a.length:Int)=b.length:=by simpa using h
  omega
 refine Zk (fun n=>⟨[(13,vI .i64 (n:Nat))],[],[]⟩) (fun n=>n≤a.length∧a.take n=b.take n) (fun n=>a.length - n) (·+1) 0 ⟨Nat.zero_le _,rfl⟩ ?_ ?_
 ·simp (maxSteps:=1000000) only [↓Zn,Ze,Zd,Zm,gSt,gS0,Ya,Yb,↓reduceIte,reduceCtorEq,Yc,Yd,Ye,Yf,Yg,Yj,Yk,Yl,Ym,Yn,gE1,Tryz.ntmps257,Tryz.results257,gTT]
  rfl
 rintro n ⟨hn,heq⟩
 simp (maxSteps:=1000000) only [↓Zn,Ze,Zd,Zm,gSt,gS0,Ya,Yb,↓reduceIte,reduceCtorEq,Yc,Yd,Ye,Yf,Yg,Yj,Yk,Yl,Ym,Yn,gE1,Tryz.ntmps257,Tryz.results257,gTT]
 refine ⟨fun h1=>?_,fun h1=>?_⟩
 ·have hlt:n < a.length:=by have:=of_decide_eq_true h1; omega
  have hlt2:n < b.length:=by omega
  have g1:a[n]?.getD 0=a[n]:=by rw [List.getElem?_eq_getElem hlt]; rfl
  have g2:b[n]?.getD 0=b[n]:=by rw [List.getElem?_eq_getElem hlt2]; rfl
  rw [g1,g2]
  refine ⟨by kernel_rfl,by omega,by omega,fun h2=>?_,fun h2=>?_⟩
  ·rw [beq_eq_false_iff_ne]
   intro e
   subst e
   simp at h2
  ·have e:a[n]=b[n]:=by simpa using h2
   refine ⟨(ZY _ (by omega)).symm,⟨by omega,?_⟩,by omega⟩
   rw [List.take_add_one,List.take_add_one,heq,List.getElem?_eq_getElem hlt,List.getElem?_eq_getElem hlt2,e]
 ·have hnl:n=a.length:=by have:=of_decide_eq_false h1; omega
  rw [hnl,List.take_length,hlen,List.take_length] at heq
  rw [heq,beq_self_eq_true]
def ZgD:List V→Zf→Zr→Name→Option Ent
 | [.c (.d (.list q_a)),.c (.d (.list q_b))],[],[],_=>some ⟨(Zc q_a).length≤1000000000∧q_a=LI .i64 (Zc q_a)∧q_b=LI .i64 (Zc q_b),vB ((Zc q_a)==(Zc q_b)),[],[]⟩
 | _,_,_,_=>none
def Zsc:=And.intro (@ZgD.eq_1) (@ZgD.eq_1)
theorem Zsd:Snd Tryz.prog 257 ZgD:=by
 intro vs b k n e h hn hp
 unfold ZgD at h
 split at h
 ·cases h; obtain ⟨hp0,hq0,hq1⟩:=hp; obtain ⟨_,rfl⟩:=Zq hq0; obtain ⟨_,rfl⟩:=Zq hq1; simp only [Zi,Zo,Zj,Zp] at hp0 ⊢; exact (ZtJ _ _ hp0).lift rfl _
 ·cases h
def Zp3:List (List Int):=[[3],[1,2],[1,2,3,4,5,6],[2,1],[1,2,7,8],[4],[1,3]]
def ZsM (l:List UInt8):List Int:=Zp3[(dN l 7).toNat]?.getD []
theorem ZBU :Spec Tryz.prog 0 43 [] [] [] (vL (LL .i64 Zp3)) [] []:=by
 refine sE (md:=fun _=>0) (L:=[]) [] 1 Zb Tryz.func43 rfl rfl rfl ?_
 simp (maxSteps:=1000000) only [↓Zn,Ze,Zd,Zm,gSt,gS0,Ya,Yb,↓reduceIte,reduceCtorEq,Yc,Yd,Ye,Yf,Yg,Yj,Yk,Yl,Ym,Yn,gE1,Tryz.ntmps43,Tryz.results43,gTT]
 rfl
def Zom:List V→Zf→Zr→Name→Option Ent
 | [],[],[],_=>some ⟨True,vL (LL .i64 Zp3),[],[]⟩
 | _,_,_,_=>none
def ZyK:=And.intro (@Zom.eq_1) (@Zom.eq_1)
theorem ZyL:Snd Tryz.prog 43 Zom:=by
 intro vs b k n e h hn hp
 unfold Zom at h
 split at h
 ·cases h; exact (ZBU).lift rfl _
 ·cases h
theorem ZBW (l:List UInt8):Spec Tryz.prog 0 8 [.c (.lp ⟨0,0⟩ 0)] [(⟨0,0⟩,[.d (.list (LB l))])] [] (vL (LI .i64 (ZsM l))) [(⟨0,0⟩,[.d (.list (LB (dT l 7)))])] []:=by
 refine spec_of_E (X:=⟨Tryz.prog,tt,Tryz.f8.ntmps,1,fun _=>0,(tab [(43,Zom),(21,Zjk)])⟩) (M:=[]) (m:=5) rfl rfl ⟨Z7,ZI (Za ZyL (Za Zjl Zb)) _ rfl rfl⟩ Zs Tryz.func8 rfl (by decide) (by show (1:Nat)≤_; exact Nat.le_of_ble_eq_true rfl) ⟨by simp [V.has,C.has,ZF],by simp [C.has],by simp⟩ ?_
 simp (maxSteps:=1000000) only [↓Zn,Ze,Zd,Zm,gSt,gS0,Ya,Yb,↓reduceIte,reduceCtorEq,Yc,Yd,Ye,Yf,Yg,Yj,Yk,Yl,Ym,Yn,ZyK,ZeD,gE1,Tryz.ntmps8,Tryz.results8,gTT]
 exact ⟨⟨Zm0 _ _,Zm1 _ _ (by decide)⟩,rfl⟩
def Zlv:List V→Zf→Zr→Name→Option Ent
 | [.c (.lp n0 0)],[(m0,[.d (.list q_l)])],[],_=>some ⟨n0.lv≤1∧m0=n0∧q_l=LB (bys q_l),vL (LI .i64 (ZsM (bys q_l))),[(n0,[.d (.list (LB (dT (bys q_l) 7)))])],[]⟩
 | _,_,_,_=>none
def ZbL:=And.intro (@Zlv.eq_1) (@Zlv.eq_1)
theorem Zoo:Snd Tryz.prog 8 Zlv:=by
 intro vs b k n e h hn hp
 unfold Zlv at h
 split at h
 ·cases h; obtain ⟨hl0,rfl,hq0⟩:=hp; obtain ⟨_,rfl⟩:=Zpc hq0; simp only [Zi,Zo,Zj,Zp]; exact Spec.ren1 (ZBW _) 0 (by simp [Za9,V.names,C.names,ZJ,ZK,ZF]) hl0
 ·cases h
theorem ZxY (n d:Int) (hn:n≤1000000000000) (hd:d≤1000000000000):Spec Tryz.prog 0 108 [vI .i64 n,vI .i64 d] [] [] (.tup [.agg [.int .i64 (mqN n d),.int .i64 (mqD n d)],.int .i64 (mqE n d)]) [] []:=by
 refine spec_of_E (X:=⟨Tryz.prog,tt,Tryz.f108.ntmps,1,fun _=>0,(tab [(177,ZrP)])⟩) (M:=[]) (m:=268439667) rfl rfl ⟨Z7,ZI (Za Zmx Zb) _ rfl rfl⟩ Zs Tryz.func108 rfl (by decide) (by show (2:Nat)≤_; exact Nat.le_of_ble_eq_true rfl) ⟨by simp [V.has,C.has,ZF],by simp [C.has],by simp⟩ ?_
 simp (maxSteps:=1000000) only [↓Zn,Ze,Zd,Zm,gSt,gS0,Ya,Yb,↓reduceIte,reduceCtorEq,Yc,Yd,Ye,Yf,Yg,Yj,Yk,Yl,Ym,Yn,Zmw,gE1,Tryz.ntmps108,Tryz.results108,gTT]
 refine ⟨fun h=>?_,fun h=>?_⟩
 ·have e:mqE n d=1:=by unfold mqE; rw [if_pos h]
  simp [mqN,mqD,e]
 have hb:1≤n∧1≤d:=by simp only [Bool.or_eq_false_iff,decide_eq_false_iff_not] at h; omega
 have hg:=ZuZ (d:=d) hb.1
 have h1:0≤n / Zeg n d∧n / Zeg n d≤n:=⟨Int.ediv_nonneg (by omega) (by omega),Int.ediv_le_self _ (by omega)⟩
 have h2:0≤d / Zeg n d∧d / Zeg n d≤d:=⟨Int.ediv_nonneg (by omega) (by omega),Int.ediv_le_self _ (by omega)⟩
 refine ⟨by omega,by kernel_rfl,by omega,by omega,?_⟩
 rw [Int.tdiv_eq_ediv_of_nonneg (by omega),Int.tdiv_eq_ediv_of_nonneg (by omega),IntWalk.i64_in (n / Zeg n d) (by omega),IntWalk.i64_in (d / Zeg n d) (by omega)]
 refine ⟨fun h3=>?_,fun h3=>?_⟩
 ·have e:mqE n d=2:=by unfold mqE; rw [if_neg (by rw [h]; decide),if_pos h3]
  simp [mqN,mqD,e]
 ·have e:mqE n d=0:=by unfold mqE; rw [if_neg (by rw [h]; decide),if_neg (by rw [h3]; decide)]
  simp [mqN,mqD,e]
def ZjD:List V→Zf→Zr→Name→Option Ent
 | [.c (.d (.int .i64 n)),.c (.d (.int .i64 d))],[],[],_=>some ⟨n≤1000000000000∧d≤1000000000000,.tup [.agg [.int .i64 (mqN n d),.int .i64 (mqD n d)],.int .i64 (mqE n d)],[],[]⟩
 | _,_,_,_=>none
def Zwo:=And.intro (@ZjD.eq_1) (@ZjD.eq_1)
theorem Zwp:Snd Tryz.prog 108 ZjD:=by
 intro vs b k n e h hn hp
 unfold ZjD at h
 split at h
 ·cases h; obtain ⟨hp0,hp1⟩:=hp; exact (ZxY _ _ hp0 hp1).lift rfl _
 ·cases h
structure Fm where
 k:Int
 r:Int
 m:List Int
structure Cv where
 f:Fm
 t:Fm
 mi:Int
 mo:Int
 mc:List Int
 r:Rs
def cv0:Cv:=⟨⟨0,0,[]⟩,⟨0,0,[]⟩,0,0,[],rs0⟩
theorem ZcM (x:Fm):(⟨x.k,x.r,x.m⟩:Fm)=x:=rfl
theorem ZcL (x:Cv):(⟨x.f,x.t,x.mi,x.mo,x.mc,x.r⟩:Cv)=x:=rfl
def ZHn (x:Cv):List D:=[.int .i64 (x).f.k,.int .i64 (x).f.r,.list (LI .i64 (x).f.m),.int .i64 (x).t.k,.int .i64 (x).t.r,.list (LI .i64 (x).t.m),.int .i64 (x).mi,.int .i64 (x).mo,.list (LI .i64 (x).mc),.int .i64 (x).r.c,.int .i64 (x).r.p.n,.int .i64 (x).r.p.d,.int .i64 (x).r.p.a,.int .i64 (x).r.p.p,.int .i64 (x).r.p.f,.list (LI .i32 (x).r.l)]
theorem Zbp (x:Cv):ZHn x=[.int .i64 (x).f.k,.int .i64 (x).f.r,.list (LI .i64 (x).f.m),.int .i64 (x).t.k,.int .i64 (x).t.r,.list (LI .i64 (x).t.m),.int .i64 (x).mi,.int .i64 (x).mo,.list (LI .i64 (x).mc),.int .i64 (x).r.c,.int .i64 (x).r.p.n,.int .i64 (x).r.p.d,.int .i64 (x).r.p.a,.int .i64 (x).r.p.p,.int .i64 (x).r.p.f,.list (LI .i32 (x).r.l)]:=Eq.trans rfl rfl
def ZNG (x:Cv):List C:=[.d (.int .i64 (x).f.k),.d (.int .i64 (x).f.r),.d (.list (LI .i64 (x).f.m)),.d (.int .i64 (x).t.k),.d (.int .i64 (x).t.r),.d (.list (LI .i64 (x).t.m)),.d (.int .i64 (x).mi),.d (.int .i64 (x).mo),.d (.list (LI .i64 (x).mc)),.d (.int .i64 (x).r.c),.d (.int .i64 (x).r.p.n),.d (.int .i64 (x).r.p.d),.d (.int .i64 (x).r.p.a),.d (.int .i64 (x).r.p.p),.d (.int .i64 (x).r.p.f),.d (.list (LI .i32 (x).r.l))]
theorem Zz (x:Cv):ZNG x=[.d (.int .i64 (x).f.k),.d (.int .i64 (x).f.r),.d (.list (LI .i64 (x).f.m)),.d (.int .i64 (x).t.k),.d (.int .i64 (x).t.r),.d (.list (LI .i64 (x).t.m)),.d (.int .i64 (x).mi),.d (.int .i64 (x).mo),.d (.list (LI .i64 (x).mc)),.d (.int .i64 (x).r.c),.d (.int .i64 (x).r.p.n),.d (.int .i64 (x).r.p.d),.d (.int .i64 (x).r.p.a),.d (.int .i64 (x).r.p.p),.d (.int .i64 (x).r.p.f),.d (.list (LI .i32 (x).r.l))]:=Eq.trans rfl rfl
def fmV (x:Fm):Bool:=decide (0 < szK x.k) && decide (1000≤x.r) && decide (x.r≤768000) && chV x.m
theorem ZpH {x:Fm} (h:fmV x=true):(1≤szK x.k∧szK x.k≤4)∧(1000≤x.r∧x.r≤768000)∧chV x.m=true∧1≤x.m.length∧x.m.length≤8:=by
 simp only [fmV,Bool.and_eq_true,decide_eq_true_eq] at h
 obtain ⟨⟨⟨h1,h2⟩,h3⟩,h4⟩:=h
 have h5:=h4
 simp only [chV,Bool.and_eq_true,decide_eq_true_eq] at h5
 refine ⟨⟨by omega,?_⟩,⟨h2,h3⟩,h4,h5.1.1,h5.1.2⟩
 unfold szK
 repeat' split
 all_goals omega
theorem ZAr {x:Fm} (h:fmV x=true):1≤szK x.k*(x.m.length:Int)∧szK x.k*(x.m.length:Int)≤32:=by
 obtain ⟨h1,_,_,h3⟩:=ZpH h
 have e1:1*1≤szK x.k*(x.m.length:Int):=Int.mul_le_mul h1.1 (by omega) (by decide) (by omega)
 have e2:szK x.k*(x.m.length:Int)≤4*8:=Int.mul_le_mul h1.2 (by omega) (by omega) (by decide)
 omega
def fmZ (x:Fm):Int:=if fmV x=true then szK x.k*x.m.length else 0
def cnE (x y:Fm):Int:=if (fmV x && fmV y)=true then 0 else 1
def cnR (x y:Fm):Cv:=if cnE x y=0 then ⟨x,y,dfN x.m y.m x.m,dfN x.m y.m y.m,dfO x.m y.m,nwR y.m.length (mqN x.r y.r) (mqD x.r y.r)⟩ else cv0
theorem ZBN (fk fr:Int) (fm:List Int) (hm:fm.length≤1000000):Spec Tryz.prog 0 106 [.agg [.d (.int .i64 fk),.d (.int .i64 fr),.d (.list (LI .i64 fm))]] [] [] (vB (fmV ⟨fk,fr,fm⟩)) [] []:=by
 refine sE (md:=fun _=>0) (L:=[(176,ZoZ),(80,ZdS)]) [(1,[0,0,0,0,0,4194183,0,0,0,0,0,4182023,0,0,0,0,0,3276807,0,0])] 7 (Za Zzb (Za ZfD Zb)) Tryz.func106 rfl rfl rfl ?_
 simp (maxSteps:=1000000) only [↓Zn,Ze,Zd,Zm,gSt,gS0,Ya,Yb,↓reduceIte,reduceCtorEq,Yc,Yd,Ye,Yf,Yg,Yj,Yk,Yl,Ym,Yn,Zza,Zad,gE1,ZcM,ZcL,Zbp,Zz,Tryz.ntmps106,Tryz.results106,gTT]
 exact ⟨fun _=>hm,rfl⟩
def Zoc:List V→Zf→Zr→Name→Option Ent
 | [.agg [.d (.int .i64 fk),.d (.int .i64 fr),.d (.list q_fm)]],[],[],_=>some ⟨(Zc q_fm).length≤1000000∧q_fm=LI .i64 (Zc q_fm),vB (fmV ⟨fk,fr,(Zc q_fm)⟩),[],[]⟩
 | _,_,_,_=>none
def Zyy:=And.intro (@Zoc.eq_1) (@Zoc.eq_1)
theorem Zyz:Snd Tryz.prog 106 Zoc:=by
 intro vs b k n e h hn hp
 unfold Zoc at h
 split at h
 ·cases h; obtain ⟨hp0,hq0⟩:=hp; obtain ⟨_,rfl⟩:=Zq hq0; simp only [Zi,Zo,Zj,Zp] at hp0 ⊢; exact (ZBN _ _ _ hp0).lift rfl _
 ·cases h
theorem ZxW (fk fr:Int) (fm:List Int) (hm:fm.length≤1000000):Spec Tryz.prog 0 77 [.agg [.d (.int .i64 fk),.d (.int .i64 fr),.d (.list (LI .i64 fm))]] [] [] (vB (fmV ⟨fk,fr,fm⟩)) [] []:=by
 refine sE (md:=fun _=>0) (L:=[(152,Zho),(153,ZdE)]) [(1,[0,0,0,0,0,4194183,0,0,0,0,0,4182023,0,0,0,0,0,3276807,0,0])] 7 (Za ZlG (Za Zh7 Zb)) Tryz.func77 rfl rfl rfl ?_
 simp (maxSteps:=1000000) only [↓Zn,Ze,Zd,Zm,gSt,gS0,Ya,Yb,↓reduceIte,reduceCtorEq,Yc,Yd,Ye,Yf,Yg,Yj,Yk,Yl,Ym,Yn,ZlF,ZaF,gE1,ZcM,ZcL,Zbp,Zz,Tryz.ntmps77,Tryz.results77,gTT]
 exact ⟨fun _=>hm,rfl⟩
def Zhn:List V→Zf→Zr→Name→Option Ent
 | [.agg [.d (.int .i64 fk),.d (.int .i64 fr),.d (.list q_fm)]],[],[],_=>some ⟨(Zc q_fm).length≤1000000∧q_fm=LI .i64 (Zc q_fm),vB (fmV ⟨fk,fr,(Zc q_fm)⟩),[],[]⟩
 | _,_,_,_=>none
def ZlB:=And.intro (@Zhn.eq_1) (@Zhn.eq_1)
theorem ZlC:Snd Tryz.prog 77 Zhn:=by
 intro vs b k n e h hn hp
 unfold Zhn at h
 split at h
 ·cases h; obtain ⟨hp0,hq0⟩:=hp; obtain ⟨_,rfl⟩:=Zq hq0; simp only [Zi,Zo,Zj,Zp] at hp0 ⊢; exact (ZxW _ _ _ hp0).lift rfl _
 ·cases h
theorem ZtC (fk fr:Int) (fm:List Int) (hm:fm.length≤1000000):Spec Tryz.prog 0 73 [.agg [.d (.int .i64 fk),.d (.int .i64 fr),.d (.list (LI .i64 fm))]] [] [] (vI .i64 (fmZ ⟨fk,fr,fm⟩)) [] []:=by
 refine sE (md:=fun _=>0) (L:=[(77,Zhn),(152,Zho)]) [] 39 (Za ZlC (Za ZlG Zb)) Tryz.func73 rfl rfl rfl ?_
 simp (maxSteps:=1000000) only [↓Zn,Ze,Zd,Zm,gSt,gS0,Ya,Yb,↓reduceIte,reduceCtorEq,Yc,Yd,Ye,Yf,Yg,Yj,Yk,Yl,Ym,Yn,ZlB,ZlF,gE1,ZcM,ZcL,Zbp,Zz,Tryz.ntmps73,Tryz.results73,gTT]
 refine ⟨hm,fun h=>by simp [fmZ,h],fun h=>⟨by kernel_rfl,?_⟩⟩
 have hv:fmV ⟨fk,fr,fm⟩=true:=by simpa using h
 have hb:=ZAr hv
 simp only at hb
 rw [IntWalk.i64_in _ (by omega)]
 exact if_pos hv
def Zgy:List V→Zf→Zr→Name→Option Ent
 | [.agg [.d (.int .i64 fk),.d (.int .i64 fr),.d (.list q_fm)]],[],[],_=>some ⟨(Zc q_fm).length≤1000000∧q_fm=LI .i64 (Zc q_fm),vI .i64 (fmZ ⟨fk,fr,(Zc q_fm)⟩),[],[]⟩
 | _,_,_,_=>none
def ZfJ:=And.intro (@Zgy.eq_1) (@Zgy.eq_1)
theorem Zr7:Snd Tryz.prog 73 Zgy:=by
 intro vs b k n e h hn hp
 unfold Zgy at h
 split at h
 ·cases h; obtain ⟨hp0,hq0⟩:=hp; obtain ⟨_,rfl⟩:=Zq hq0; simp only [Zi,Zo,Zj,Zp] at hp0 ⊢; exact (ZtC _ _ _ hp0).lift rfl _
 ·cases h
theorem ZBI (fk fr:Int) (fm:List Int) (hm:fm.length≤1000000):Spec Tryz.prog 0 107 [.agg [.d (.int .i64 fk),.d (.int .i64 fr),.d (.list (LI .i64 fm))]] [] [] (.agg [.d (.int .i64 fk),.d (.int .i64 fr),.d (.list (LI .i64 fm))]) [] []:=by
 refine sE (md:=fun _=>0) (L:=[(138,Zdm)]) [] 7 (Za ZhQ Zb) Tryz.func107 rfl rfl rfl ?_
 simp (maxSteps:=1000000) only [↓Zn,Ze,Zd,Zm,gSt,gS0,Ya,Yb,↓reduceIte,reduceCtorEq,Yc,Yd,Ye,Yf,Yg,Yj,Yk,Yl,Ym,Yn,ZcV,gE1,ZcM,ZcL,Zbp,Zz,Tryz.ntmps107,Tryz.results107,gTT]
 omega
def Zn2:List V→Zf→Zr→Name→Option Ent
 | [.agg [.d (.int .i64 fk),.d (.int .i64 fr),.d (.list q_fm)]],[],[],_=>some ⟨(Zc q_fm).length≤1000000∧q_fm=LI .i64 (Zc q_fm),.agg [.d (.int .i64 fk),.d (.int .i64 fr),.d (.list (LI .i64 (Zc q_fm)))],[],[]⟩
 | _,_,_,_=>none
def Zyv:=And.intro (@Zn2.eq_1) (@Zn2.eq_1)
theorem Zyw:Snd Tryz.prog 107 Zn2:=by
 intro vs b k n e h hn hp
 unfold Zn2 at h
 split at h
 ·cases h; obtain ⟨hp0,hq0⟩:=hp; obtain ⟨_,rfl⟩:=Zq hq0; simp only [Zi,Zo,Zj,Zp] at hp0 ⊢; exact (ZBI _ _ _ hp0).lift rfl _
 ·cases h
theorem ZBH (fk fr:Int) (fm:List Int) (tk tr:Int) (tm:List Int) (hm:fm.length≤1000000) (ht:tm.length≤1000000):Spec Tryz.prog 0 42 [.agg [.d (.int .i64 fk),.d (.int .i64 fr),.d (.list (LI .i64 fm))],.agg [.d (.int .i64 tk),.d (.int .i64 tr),.d (.list (LI .i64 tm))]] [] [] (.tup [.agg (ZHn (cnR ⟨fk,fr,fm⟩ ⟨tk,tr,tm⟩)),.int .i64 (cnE ⟨fk,fr,fm⟩ ⟨tk,tr,tm⟩)]) [] []:=by
 refine sE (md:=fun _=>0) (L:=[(106,Zoc),(107,Zn2),(29,Zls),(108,ZjD),(47,ZeO)]) [] 65791 (Za Zyz (Za Zyw (Za Zn4 (Za Zwp (Za Zfl Zb))))) Tryz.func42 rfl rfl rfl ?_
 simp (maxSteps:=1000000) only [↓Zn,Ze,Zd,Zm,gSt,gS0,Ya,Yb,↓reduceIte,reduceCtorEq,Yc,Yd,Ye,Yf,Yg,Yj,Yk,Yl,Ym,Yn,Zyy,Zyv,ZbK,Zwo,Zfk,gE1,ZcM,ZcL,Zbp,Zz,Tryz.ntmps42,Tryz.results42,gTT]
 refine ⟨hm,fun _=>ht,fun h=>?_,fun h=>⟨by kernel_rfl,hm,ht,⟨hm,ht⟩,⟨?_,?_⟩,?_⟩⟩
 ·have e:cnE ⟨fk,fr,fm⟩ ⟨tk,tr,tm⟩=1:=by
   unfold cnE
   rw [if_neg]
   intro h2
   rw [Bool.and_eq_true] at h2
   rw [h2.1,h2.2] at h
   exact absurd h (by decide)
  simp [cnR,e,cv0,rs0,Zw]
 all_goals
  simp only [Bool.or_eq_false_iff,Bool.not_eq_false'] at h
  have hf:=ZpH h.1
  have hg:=ZpH h.2
  simp only at hf hg
 ·omega
 ·omega
 have e:cnE ⟨fk,fr,fm⟩ ⟨tk,tr,tm⟩=0:=by unfold cnE; rw [h.1,h.2]; rfl
 simp [cnR,e]
def Zn1:List V→Zf→Zr→Name→Option Ent
 | [.agg [.d (.int .i64 fk),.d (.int .i64 fr),.d (.list q_fm)],.agg [.d (.int .i64 tk),.d (.int .i64 tr),.d (.list q_tm)]],[],[],_=>some ⟨(Zc q_fm).length≤1000000∧(Zc q_tm).length≤1000000∧q_fm=LI .i64 (Zc q_fm)∧q_tm=LI .i64 (Zc q_tm),.tup [.agg (ZHn (cnR ⟨fk,fr,(Zc q_fm)⟩ ⟨tk,tr,(Zc q_tm)⟩)),.int .i64 (cnE ⟨fk,fr,(Zc q_fm)⟩ ⟨tk,tr,(Zc q_tm)⟩)],[],[]⟩
 | _,_,_,_=>none
def Zga:=And.intro (@Zn1.eq_1) (@Zn1.eq_1)
theorem Zyu:Snd Tryz.prog 42 Zn1:=by
 intro vs b k n e h hn hp
 unfold Zn1 at h
 split at h
 ·cases h; obtain ⟨hp0,hp1,hq0,hq1⟩:=hp; obtain ⟨_,rfl⟩:=Zq hq0; obtain ⟨_,rfl⟩:=Zq hq1; simp only [Zi,Zo,Zj,Zp] at hp0 hp1 ⊢; exact (ZBH _ _ _ _ _ _ hp0 hp1).lift rfl _
 ·cases h
theorem ZxT (fk fr:Int) (fm:List Int) (tk tr:Int) (tm:List Int) (hm:fm.length≤1000000) (ht:tm.length≤1000000):Spec Tryz.prog 0 28 [.agg [.d (.int .i64 fk),.d (.int .i64 fr),.d (.list (LI .i64 fm))],.agg [.d (.int .i64 tk),.d (.int .i64 tr),.d (.list (LI .i64 tm))]] [] [] (.tup [.agg (ZHn (cnR ⟨fk,fr,fm⟩ ⟨tk,tr,tm⟩)),.int .i64 (cnE ⟨fk,fr,fm⟩ ⟨tk,tr,tm⟩)]) [] []:=by
 refine sE (md:=fun _=>0) (L:=[(77,Zhn),(78,Zjv),(79,Zjt),(38,Zfj)]) [] 65791 (Za ZlC (Za Zwj (Za Zwg (Za ZjK Zb)))) Tryz.func28 rfl rfl rfl ?_
 simp (maxSteps:=1000000) only [↓Zn,Ze,Zd,Zm,gSt,gS0,Ya,Yb,↓reduceIte,reduceCtorEq,Yc,Yd,Ye,Yf,Yg,Yj,Yk,Yl,Ym,Yn,ZlB,Zwi,Zwf,ZaI,gE1,ZcM,ZcL,Zbp,Zz,Tryz.ntmps28,Tryz.results28,gTT]
 refine ⟨hm,fun _=>ht,fun h=>?_,fun h=>⟨⟨hm,ht⟩,⟨?_,?_⟩,?_⟩⟩
 ·have e:cnE ⟨fk,fr,fm⟩ ⟨tk,tr,tm⟩=1:=by
   unfold cnE
   rw [if_neg]
   intro h2
   rw [Bool.and_eq_true] at h2
   rw [h2.1,h2.2] at h
   exact absurd h (by decide)
  simp [cnR,e,cv0,rs0,Zw]
 all_goals
  simp only [Bool.or_eq_false_iff,Bool.not_eq_false'] at h
  have hf:=ZpH h.1
  have hg:=ZpH h.2
  simp only at hf hg
 ·omega
 ·omega
 have e:cnE ⟨fk,fr,fm⟩ ⟨tk,tr,tm⟩=0:=by unfold cnE; rw [h.1,h.2]; rfl
 simp [cnR,e]
def Zju:List V→Zf→Zr→Name→Option Ent
 | [.agg [.d (.int .i64 fk),.d (.int .i64 fr),.d (.list q_fm)],.agg [.d (.int .i64 tk),.d (.int .i64 tr),.d (.list q_tm)]],[],[],_=>some ⟨(Zc q_fm).length≤1000000∧(Zc q_tm).length≤1000000∧q_fm=LI .i64 (Zc q_fm)∧q_tm=LI .i64 (Zc q_tm),.tup [.agg (ZHn (cnR ⟨fk,fr,(Zc q_fm)⟩ ⟨tk,tr,(Zc q_tm)⟩)),.int .i64 (cnE ⟨fk,fr,(Zc q_fm)⟩ ⟨tk,tr,(Zc q_tm)⟩)],[],[]⟩
 | _,_,_,_=>none
def Zbx:=And.intro (@Zju.eq_1) (@Zju.eq_1)
theorem Zwh:Snd Tryz.prog 28 Zju:=by
 intro vs b k n e h hn hp
 unfold Zju at h
 split at h
 ·cases h; obtain ⟨hp0,hp1,hq0,hq1⟩:=hp; obtain ⟨_,rfl⟩:=Zq hq0; obtain ⟨_,rfl⟩:=Zq hq1; simp only [Zi,Zo,Zj,Zp] at hp0 hp1 ⊢; exact (ZxT _ _ _ _ _ _ hp0 hp1).lift rfl _
 ·cases h
end Go.Vam
