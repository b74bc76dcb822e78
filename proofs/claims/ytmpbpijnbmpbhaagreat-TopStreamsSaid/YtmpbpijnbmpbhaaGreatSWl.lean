/- A part of the proof. Conditions: none. -/
import Derived.Test.YtmpbpijnbmpbhaaGreatSWk
set_option linter.unusedVariables false
set_option linter.defProp false
set_option linter.unusedSimpArgs false
set_option maxRecDepth 40000
set_option maxHeartbeats 4000000
namespace Go.Vam
open Go.Proofs
open Nat renaming reduceShiftRight→Ya,reduceMod→Yb,reduceEqDiff→Yc,reduceLT→Yd,reduceLeDiff→Ye,reduceAdd→Yf,reduceMul→Yg
open Int renaming reduceLE→Yj,reduceLT→Yk,reduceNeg→Yl,reduceAdd→Ym,reduceToNat→Yn
def Zwg (c n:Int):Bool:=decide (c < 1) || decide (8 < c) || decide (n < 0) || decide (65536 < n)
def Zxn (c n:Int):Int:=if Zwg c n=true then 0 else c
def Zxo (c n:Int):List Int:=if Zwg c n=true then [] else List.replicate (c*n).toNat 0
def ZBK (c n:Int):Int:=if Zwg c n=true then 2 else 0
theorem ZqC (c n:Int):Spec Tryz.prog 0 58 [vI .i64 c,vI .i64 n] [] [] (.tup [.agg [.int .i64 (Zxn c n),.list (LI .i32 (Zxo c n))],.int .i64 (ZBK c n)]) [] []:=by
 refine sE (md:=fun _=>0) (L:=[]) [(1,[0,0,0,0,0,1046579,0,0,0,0,0,983091,0,0])] 524339 Zb Tryz.func58 rfl rfl rfl ?_
 simp (maxSteps:=1000000) only [↓Zo,Ze,Zd,Zn,gSt,gS0,Ya,Yb,↓reduceIte,reduceCtorEq,Yc,Yd,Ye,Yf,Yg,Yj,Yk,Yl,Ym,Yn,gE1,Tryz.ntmps58,Tryz.results58,gTT]
 refine ⟨fun h=>?_,fun h=>?_⟩
 ·have e:Zwg c n=true:=h
  simp only [Zxn,Zxo,ZBK,e,if_true,Zy]
 ·have e:Zwg c n=false:=h
  have h2:=e
  simp only [Zwg,Bool.or_eq_false_iff,decide_eq_false_iff_not] at h2
  have h0:0≤c*n:=Int.mul_nonneg (by omega) (by omega)
  have h1:c*n≤8*65536:=Int.mul_le_mul (by omega) (by omega) (by omega) (by decide)
  rw [IntWalk.i64_in (c*n) (by omega)]
  refine ⟨⟨h0,by omega,by omega⟩,?_⟩
  simp [Zxn,Zxo,ZBK,e]
def Zcc:List V→Zf→Zw→Name→Option Ent
 | [.c (.d (.int .i64 c)),.c (.d (.int .i64 n))],[],[],_=>some ⟨True,.tup [.agg [.int .i64 (Zxn c n),.list (LI .i32 (Zxo c n))],.int .i64 (ZBK c n)],[],[]⟩
 | _,_,_,_=>none
def ZcW:=And.intro (@Zcc.eq_1) (@Zcc.eq_1)
theorem ZcX:Snd Tryz.prog 58 Zcc:=by
 intro vs b k n e h hn hp
 unfold Zcc at h
 split at h
 ·cases h; exact (ZqC _ _).lift rfl _
 ·cases h
theorem Znk (c n:Int):Spec Tryz.prog 0 12 [vI .i64 c,vI .i64 n] [] [] (.tup [.agg [.int .i64 (Zxn c n),.list (LI .i32 (Zxo c n))],.int .i64 (ZBK c n)]) [] []:=by
 refine sE (md:=fun _=>0) (L:=[]) [(1,[0,0,0,0,0,1046579,0,0,0,0,0,983091,0,0])] 524339 Zb Tryz.func12 rfl rfl rfl ?_
 simp (maxSteps:=1000000) only [↓Zo,Ze,Zd,Zn,gSt,gS0,Ya,Yb,↓reduceIte,reduceCtorEq,Yc,Yd,Ye,Yf,Yg,Yj,Yk,Yl,Ym,Yn,gE1,Tryz.ntmps12,Tryz.results12,gTT]
 refine ⟨fun h=>?_,fun h=>?_⟩
 ·have e:Zwg c n=true:=h
  simp only [Zxn,Zxo,ZBK,e,if_true,Zy]
 ·have e:Zwg c n=false:=h
  have h2:=e
  simp only [Zwg,Bool.or_eq_false_iff,decide_eq_false_iff_not] at h2
  have h0:0≤c*n:=Int.mul_nonneg (by omega) (by omega)
  have h1:c*n≤8*65536:=Int.mul_le_mul (by omega) (by omega) (by omega) (by decide)
  rw [IntWalk.i64_in (c*n) (by omega)]
  refine ⟨⟨h0,by omega,by omega⟩,?_⟩
  simp [Zxn,Zxo,ZBK,e]
def ZbS:List V→Zf→Zw→Name→Option Ent
 | [.c (.d (.int .i64 c)),.c (.d (.int .i64 n))],[],[],_=>some ⟨True,.tup [.agg [.int .i64 (Zxn c n),.list (LI .i32 (Zxo c n))],.int .i64 (ZBK c n)],[],[]⟩
 | _,_,_,_=>none
def ZdQ:=And.intro (@ZbS.eq_1) (@ZbS.eq_1)
theorem ZdR:Snd Tryz.prog 12 ZbS:=by
 intro vs b k n e h hn hp
 unfold ZbS at h
 split at h
 ·cases h; exact (Znk _ _).lift rfl _
 ·cases h
def skK (x:Sm) (i:Int):Int:=min ((mkN x.r.p (waN x.r):Nat):Int) i
def skM (x:Sm) (i:Int):Int:=if x.st=3 then skK x i else if x.st=5 then cnt x.r i else 0
def skE (x:Sm) (i:Int):Int:=if smP x=false then 1 else if (decide (i < 0) || decide (65536 < i))=true then 2 else if x.st=3 then tkE x.r (skK x i) else if x.st=5 then fiE x.r i else 0
def skC (x:Sm) (i:Int):Int:=if skE x i=0 then x.r.c else 0
def skO (x:Sm) (i:Int):List Int:=if skE x i=0 then Zbo x.r (skM x i).toNat++List.replicate ((i.toNat - (skM x i).toNat)*x.r.c.toNat) 0 else []
def skX (x:Sm) (i:Int):Int:=if skE x i=0∧x.st=3 then i - skK x i else 0
def skS (x:Sm) (i:Int):Int:=if x.st=5∧(poR x.r (skM x i)).l.length=0 then 6 else x.st
def skR (x:Sm) (i:Int):Sm:=if skE x i=0 then (if x.st=3∨x.st=5 then ⟨x.di,skS x i,x.q,x.s0,poR x.r (skM x i),x.g,x.wr,IntKind.i64.wrap (x.pl+i),IntKind.i64.wrap (x.mi+skX x i)⟩ else x) else sm0
def gvE (x:Sm) (k:Int) (y:List Int):Int:=if (!smR x || !ZaR k y)=true then 1 else if k≠x.r.c then 11 else if x.st≠3 then 0 else if cvE x.r k y≠0 then cvE x.r k y else rwE x.g (cvC x.r k y) (cvO x.r k y)
def gvL (x:Sm) (k:Int) (y:List Int):Int:=if gvE x k y=0∧x.st=3 then rwL x.g (cvC x.r k y) (cvO x.r k y) else 0
def gvR (x:Sm) (k:Int) (y:List Int):Sm:=if gvE x k y=0 then (if x.st=3 then ⟨x.di,x.st,x.q,x.s0,cvR x.r k y,rwR x.g (cvC x.r k y) (cvO x.r k y),x.wr,IntKind.i64.wrap (x.pl+swN k y),IntKind.i64.wrap (x.mi+gvL x k y)⟩ else x) else sm0
theorem ZfX {x:Sm} {i:Int} (h:smP x=false):skE x i=1:=by unfold skE; rw [if_pos h]
theorem ZfY {x:Sm} {i:Int} (h:smP x=true) (h2:(decide (i < 0) || decide (65536 < i))=true):skE x i=2:=by unfold skE; rw [if_neg (by rw [h]; decide),if_pos h2]
theorem Zih {x:Sm} {i:Int} (h:smP x=true) (h2:(decide (i < 0) || decide (65536 < i))=false):skE x i=if x.st=3 then tkE x.r (skK x i) else if x.st=5 then fiE x.r i else 0:=by unfold skE; rw [if_neg (by rw [h]; decide),if_neg (by rw [h2]; decide)]
theorem Zbh {x:Sm} {i:Int} (h:skE x i≠0):skR x i=sm0∧skC x i=0∧skO x i=[]∧skX x i=0:=by
 refine ⟨if_neg h,if_neg h,if_neg h,if_neg fun h2=>h h2.1⟩
theorem ZlQ {p:Ph} (hp:phV p=true) {w:Int} (hw:0≤w∧w≤65536):maN p w=((mkN p w:Nat):Int):=by
 have e1:maE p w=0:=by
  unfold maE
  rw [if_neg (by rw [hp]; decide),if_neg (by simp only [Bool.or_eq_true,decide_eq_true_eq]; omega)]
 unfold maN
 rw [if_pos e1]
theorem Zg0 {x:Sm} {i:Int} (hi:0≤i):0≤skK x i∧skK x i≤i:=by unfold skK; omega
theorem Zm0 {c n:Int} (hc:1≤c∧c≤8) (hn:0≤n∧n≤65536):Zxn c n=c∧ZBK c n=0∧Zxo c n=List.replicate (n.toNat*c.toNat) 0:=by
 have hb:Zwg c n=false:=by
  simp only [Zwg,Bool.or_eq_false_iff,decide_eq_false_iff_not]
  omega
 have hm:(c*n).toNat=n.toNat*c.toNat:=by rw [Int.mul_comm,Int.toNat_mul (by omega) (by omega)]
 unfold Zxn ZBK Zxo
 rw [if_neg (by rw [hb]; decide),if_neg (by rw [hb]; decide),if_neg (by rw [hb]; decide),hm]
 exact ⟨rfl,rfl,rfl⟩
theorem Zna (c n d a p f:Int) (l:List Int) (i:Int) (hl:l.length≤1000000) (hv:rsV ⟨c,⟨n,d,a,p,f⟩,l⟩=true) (hi:0≤i∧i≤65536) (hne:0 < i→0 < l.length) (he0:poE ⟨c,⟨n,d,a,p,f⟩,l⟩ i=0):Spec Tryz.prog 0 164 [.agg [.d (.int .i64 c),.d (.int .i64 n),.d (.int .i64 d),.d (.int .i64 a),.d (.int .i64 p),.d (.int .i64 f),.d (.list (LI .i32 l))],vI .i64 i] [] [] (.ts [some 2,some 7,none] [.d (.int .i64 (poC ⟨c,⟨n,d,a,p,f⟩,l⟩ i)),.own ⟨0,9⟩ (LI .i32 (poO ⟨c,⟨n,d,a,p,f⟩,l⟩ i)),.d (.int .i64 (poR ⟨c,⟨n,d,a,p,f⟩,l⟩ i).c),.d (.int .i64 (poR ⟨c,⟨n,d,a,p,f⟩,l⟩ i).p.n),.d (.int .i64 (poR ⟨c,⟨n,d,a,p,f⟩,l⟩ i).p.d),.d (.int .i64 (poR ⟨c,⟨n,d,a,p,f⟩,l⟩ i).p.a),.d (.int .i64 (poR ⟨c,⟨n,d,a,p,f⟩,l⟩ i).p.p),.d (.int .i64 (poR ⟨c,⟨n,d,a,p,f⟩,l⟩ i).p.f),.d (.list (LI .i32 (poR ⟨c,⟨n,d,a,p,f⟩,l⟩ i).l)),.d (.int .i64 (poE ⟨c,⟨n,d,a,p,f⟩,l⟩ i))]) [] [(⟨0,9⟩,⟨false,1,LI .i32 (poO ⟨c,⟨n,d,a,p,f⟩,l⟩ i)⟩)]:=by
 refine ZbI (X:=⟨Tryz.prog,tt,Tryz.f164.ntmps,1,fun s=>if s=45 then 1 else 0,(tab [(218,Zll),(219,Zrq),(220,Zhi),(131,Zeg)])⟩) (M:=[(15,[0,0,0,0,0,5149829387557928694202194968567,0,0,0,0,0,5149695196791951470363802583031,0,0,0,0,0,5144878836326606787731773177847,0,0,0]),(22,[0,0,0,0,0,169891958281861993975001811129907265527,0,0,0,0,0,127688969415690915010305936966006325239,0,0])]) (m:=5070602433969483971237825724407) (r0:=.ts [some 2,some 7,none] [.d (.int .i64 (poC ⟨c,⟨n,d,a,p,f⟩,l⟩ i)),.own ⟨1,45⟩ (LI .i32 (poO ⟨c,⟨n,d,a,p,f⟩,l⟩ i)),.d (.int .i64 (poR ⟨c,⟨n,d,a,p,f⟩,l⟩ i).c),.d (.int .i64 (poR ⟨c,⟨n,d,a,p,f⟩,l⟩ i).p.n),.d (.int .i64 (poR ⟨c,⟨n,d,a,p,f⟩,l⟩ i).p.d),.d (.int .i64 (poR ⟨c,⟨n,d,a,p,f⟩,l⟩ i).p.a),.d (.int .i64 (poR ⟨c,⟨n,d,a,p,f⟩,l⟩ i).p.p),.d (.int .i64 (poR ⟨c,⟨n,d,a,p,f⟩,l⟩ i).p.f),.d (.list (LI .i32 (poR ⟨c,⟨n,d,a,p,f⟩,l⟩ i).l)),.d (.int .i64 (poE ⟨c,⟨n,d,a,p,f⟩,l⟩ i))]) (b0:=[]) (k0:=[(⟨1,45⟩,⟨false,1,LI .i32 (poO ⟨c,⟨n,d,a,p,f⟩,l⟩ i)⟩)]) ⟨1,45⟩ ⟨0,9⟩ rfl rfl ⟨Zah,ZU (Za Zn5 (Za Zmj (Za Zlf (Za Ze8 Zb)))) _ rfl rfl⟩ ZB Tryz.func164 rfl (by decide) (by show (2:Nat)≤_; exact Nat.le_of_ble_eq_true rfl) rfl rfl rfl ⟨by simp [V.has,C.has,Z6],by simp [C.has],by simp⟩ (by decide) (by simp [V.names,C.names,ZS,ZT]) (by simp [lk]) (by simp [lk]) (by simp [lk]) ?_
 simp (maxSteps:=1000000) only [↓Zo,Ze,Zd,Zn,gSt,gS0,Ya,Yb,↓reduceIte,reduceCtorEq,Yc,Yd,Ye,Yf,Yg,Yj,Yk,Yl,Ym,Yn,Zbj,ZbA,ZaM,Zai,gE1,Tryz.ntmps164,Tryz.results164,gTT]
 obtain ⟨⟨k1,k2⟩,k3,k4,k5⟩:=ZW (ZD hv).2 hl
 have hp:=(ZD hv).1
 simp only at k1 k2 hp k3
 have hc:(c.toNat:Int)=c:=by omega
 have hi2:(i.toNat:Int)=i:=by omega
 have hm:i*c=((i.toNat*c.toNat:Nat):Int):=by rw [Int.natCast_mul,hc,hi2]
 have hmb:=Nat.mul_le_mul (show i.toNat≤65536 by omega) (show c.toNat≤8 by omega)
 have hd:=Zbw hp
 simp only at hd
 have hpr:=ZcG hp
 have hP:IntKind.i64.wrap (d*65536)=prt ⟨n,d,a,p,f⟩:=rfl
 rw [hP]
 refine ⟨fun h=>?_,fun h=>⟨by kernel_rfl,?_⟩⟩
 ·have hne:adE ⟨n,d,a,p,f⟩ i≠0:=by simpa using h
  exact absurd he0 hne
 have he:adE ⟨n,d,a,p,f⟩ i=0:=by simpa using h
 obtain ⟨he0,hadP⟩:=ZoL he
 rw [hm,IntWalk.i64_in ((i.toNat*c.toNat:Nat):Int) (by omega)]
 refine ⟨⟨by omega,by omega,by omega⟩,?_⟩
 refine Zl (fun g=>⟨[(48,vI .i64 (g:Nat))],[(⟨1,10⟩,[.d (.int .i64 c),.own ⟨1,45⟩ (LI .i32 (Zbo ⟨c,⟨n,d,a,p,f⟩,l⟩ g))])],[(⟨1,45⟩,⟨false,1,LI .i32 (Zbo ⟨c,⟨n,d,a,p,f⟩,l⟩ g)⟩)]⟩) (fun g=>g≤i.toNat) (fun g=>i.toNat - g) (·+1) 0 (Nat.zero_le _) ?_ ?_
 ·simp (maxSteps:=1000000) only [↓Zo,Ze,Zd,Zn,gSt,gS0,Ya,Yb,↓reduceIte,reduceCtorEq,Yc,Yd,Ye,Yf,Yg,Yj,Yk,Yl,Ym,Yn,Zbj,ZbA,ZaM,Zai,gE1,Tryz.ntmps164,Tryz.results164,gTT]
  exact ⟨rfl,rfl,rfl⟩
 intro g hg
 simp (maxSteps:=1000000) only [↓Zo,Ze,Zd,Zn,gSt,gS0,Ya,Yb,↓reduceIte,reduceCtorEq,Yc,Yd,Ye,Yf,Yg,Yj,Yk,Yl,Ym,Yn,Zbj,ZbA,ZaM,Zai,gE1,Tryz.ntmps164,Tryz.results164,gTT]
 refine ⟨fun h1=>?_,fun h1=>?_⟩
 ·have hgi:(g:Int) < i:=of_decide_eq_true h1
  have hg6:g≤65536:=by omega
  obtain ⟨q1,q2,q3⟩:=at_eq hp hg6
  have q4:=(ZfT hp hg6).2
  simp only at q3
  rw [q3]
  have q5:IntKind.i64.wrap (((qN ⟨n,d,a,p,f⟩ g:Nat):Int)+1)=((qN ⟨n,d,a,p,f⟩ g+1:Nat):Int):=by rw [IntWalk.i64_in _ (by omega)]; rfl
  rw [q5]
  have hl0:0 < l.length:=hne (by omega)
  have hfa:=Zh7 hv hl hl0 (qN ⟨n,d,a,p,f⟩ g)
  have hfb:=Zh7 hv hl hl0 (qN ⟨n,d,a,p,f⟩ g+1)
  simp only at hfa hfb
  have hfr0:=(Zbm hp (n:=(g:Int)) (by omega)).2
  have hfr:0≤fAt ⟨n,d,a,p,f⟩ g∧fAt ⟨n,d,a,p,f⟩ g < prt ⟨n,d,a,p,f⟩:=⟨hfr0.1,hfr0.2.1⟩
  refine ⟨by kernel_rfl,⟨hl,hv,hl0,by omega,by omega⟩,⟨hl,hv,hl0,by omega,by omega⟩,?_⟩
  rw [Int.toNat_natCast,Int.toNat_natCast]
  have hA:∀ j,j < c.toNat→(List.take c.toNat (List.drop (frA ⟨c,⟨n,d,a,p,f⟩,l⟩ (qN ⟨n,d,a,p,f⟩ g)) l))[j]?.getD 0=gx ⟨c,⟨n,d,a,p,f⟩,l⟩ (qN ⟨n,d,a,p,f⟩ g) j:=fun j hj=>by
   rw [List.getElem?_take_of_lt hj,List.getElem?_drop]; rfl
  have hB:∀ j,j < c.toNat→(List.take c.toNat (List.drop (frA ⟨c,⟨n,d,a,p,f⟩,l⟩ (qN ⟨n,d,a,p,f⟩ g+1)) l))[j]?.getD 0=gx ⟨c,⟨n,d,a,p,f⟩,l⟩ (qN ⟨n,d,a,p,f⟩ g+1) j:=fun j hj=>by
   rw [List.getElem?_take_of_lt hj,List.getElem?_drop]; rfl
  have hlA:(List.take c.toNat (List.drop (frA ⟨c,⟨n,d,a,p,f⟩,l⟩ (qN ⟨n,d,a,p,f⟩ g)) l)).length=c.toNat:=by rw [List.length_take,List.length_drop]; omega
  have hlB:(List.take c.toNat (List.drop (frA ⟨c,⟨n,d,a,p,f⟩,l⟩ (qN ⟨n,d,a,p,f⟩ g+1)) l)).length=c.toNat:=by rw [List.length_take,List.length_drop]; omega
  generalize List.take c.toNat (List.drop (frA ⟨c,⟨n,d,a,p,f⟩,l⟩ (qN ⟨n,d,a,p,f⟩ g)) l)=FA at *
  generalize List.take c.toNat (List.drop (frA ⟨c,⟨n,d,a,p,f⟩,l⟩ (qN ⟨n,d,a,p,f⟩ g+1)) l)=FB at *
  have hol:=Zbp ⟨c,⟨n,d,a,p,f⟩,l⟩ g
  simp only at hol
  have hgc:=Nat.mul_le_mul (show g≤65536 by omega) (show c.toNat≤8 by omega)
  refine Zl (fun j=>⟨[(73,vI .i64 (j:Nat))],[(⟨1,10⟩,[.d (.int .i64 c),.own ⟨1,45⟩ (LI .i32 (Zbo ⟨c,⟨n,d,a,p,f⟩,l⟩ g++ZiB ⟨c,⟨n,d,a,p,f⟩,l⟩ g j))])],[(⟨1,45⟩,⟨false,1,LI .i32 (Zbo ⟨c,⟨n,d,a,p,f⟩,l⟩ g++ZiB ⟨c,⟨n,d,a,p,f⟩,l⟩ g j)⟩)]⟩) (fun j=>j≤c.toNat) (fun j=>c.toNat - j) (·+1) 0 (Nat.zero_le _) ?_ ?_
  ·simp (maxSteps:=1000000) only [↓Zo,Ze,Zd,Zn,gSt,gS0,Ya,Yb,↓reduceIte,reduceCtorEq,Yc,Yd,Ye,Yf,Yg,Yj,Yk,Yl,Ym,Yn,Zbj,ZbA,ZaM,Zai,gE1,Tryz.ntmps164,Tryz.results164,gTT]
   simp [ZiB]
  intro j hj
  simp (maxSteps:=1000000) only [↓Zo,Ze,Zd,Zn,gSt,gS0,Ya,Yb,↓reduceIte,reduceCtorEq,Yc,Yd,Ye,Yf,Yg,Yj,Yk,Yl,Ym,Yn,Zbj,ZbA,ZaM,Zai,gE1,Tryz.ntmps164,Tryz.results164,gTT]
  have hfl:=ZiC ⟨c,⟨n,d,a,p,f⟩,l⟩ g j
  refine ⟨fun h2=>?_,fun h2=>?_⟩
  ·have hjc:j < c.toNat:=by have:=of_decide_eq_true h2; omega
   have sA:=Ze0 k5 (frA ⟨c,⟨n,d,a,p,f⟩,l⟩ (qN ⟨n,d,a,p,f⟩ g)+j)
   have sB:=Ze0 k5 (frA ⟨c,⟨n,d,a,p,f⟩,l⟩ (qN ⟨n,d,a,p,f⟩ g+1)+j)
   have hq:=ZBo (a:=gx ⟨c,⟨n,d,a,p,f⟩,l⟩ (qN ⟨n,d,a,p,f⟩ g) j) (b:=gx ⟨c,⟨n,d,a,p,f⟩,l⟩ (qN ⟨n,d,a,p,f⟩ g+1) j) hpr hfr sA sB
   refine ⟨by kernel_rfl,?_⟩
   rw [hA j hjc,hB j hjc,q2]
   have hs:Zbo ⟨c,⟨n,d,a,p,f⟩,l⟩ g++ZiB ⟨c,⟨n,d,a,p,f⟩,l⟩ g (j+1)=Zbo ⟨c,⟨n,d,a,p,f⟩,l⟩ g++ZiB ⟨c,⟨n,d,a,p,f⟩,l⟩ g j++[btw (gx ⟨c,⟨n,d,a,p,f⟩,l⟩ (qN ⟨n,d,a,p,f⟩ g) j) (gx ⟨c,⟨n,d,a,p,f⟩,l⟩ (qN ⟨n,d,a,p,f⟩ g+1) j) (fAt ⟨n,d,a,p,f⟩ g) (prt ⟨n,d,a,p,f⟩)]:=by
    rw [ZkA,List.append_assoc]; rfl
   rw [hs]
   unfold Ztg at hq
   refine ⟨by omega,by omega,by decide,by omega,by omega,fun h3=>?_,fun h3=>?_⟩
   ·rw [hq.1 h3]
    exact ⟨by unfold Zag; rw [List.length_append]; omega,⟨(Zaz _ (by omega)).symm,rfl,rfl⟩,by omega,by omega⟩
   ·rw [hq.2 h3]
    exact ⟨by unfold Zag; rw [List.length_append]; omega,⟨(Zaz _ (by omega)).symm,rfl,rfl⟩,by omega,by omega⟩
  ·have hjc:j=c.toNat:=by have:=of_decide_eq_false h2; omega
   subst hjc
   exact ⟨⟨(Zaz _ (by omega)).symm,rfl,rfl⟩,by omega,by omega⟩
 ·have hgi:g=i.toNat:=by have:=of_decide_eq_false h1; omega
  have hq:=ZfT hp (g:=i.toNat) (by omega)
  rw [hi2] at hq
  refine ⟨by kernel_rfl,?_⟩
  have hpp:(adP ⟨n,d,a,p,f⟩ i).p - p=((qN ⟨n,d,a,p,f⟩ i.toNat:Nat):Int):=by rw [hadP,hq.1]; show p+_ - p=_; omega
  rw [hpp]
  have hgone:(if IntKind.i64.wrap (IntKind.i64.wrap ((qN ⟨n,d,a,p,f⟩ i.toNat:Nat):Int)*c) < (l.length:Int) then IntKind.i64.wrap (IntKind.i64.wrap ((qN ⟨n,d,a,p,f⟩ i.toNat:Nat):Int)*c) else (l.length:Int))=((min l.length (qN ⟨n,d,a,p,f⟩ i.toNat*c.toNat):Nat):Int):=by
   have hqc:=Nat.mul_le_mul hq.2 (show c.toNat≤8 by omega)
   rw [IntWalk.i64_in ((qN ⟨n,d,a,p,f⟩ i.toNat:Nat):Int) (by omega)]
   have e:((qN ⟨n,d,a,p,f⟩ i.toNat:Nat):Int)*c=((qN ⟨n,d,a,p,f⟩ i.toNat*c.toNat:Nat):Int):=by rw [Int.natCast_mul,hc]
   rw [e,IntWalk.i64_in _ (by omega)]
   split <;> omega
  rw [hgone,Int.toNat_natCast]
  have htk:∀ m,List.take (l.length - m) (List.drop m l)=List.drop m l:=fun m=>List.take_of_length_le (by rw [List.length_drop]; omega)
  rw [htk]
  refine ⟨⟨by omega,by omega,by omega⟩,by rw [List.length_drop]; omega,by kernel_rfl,?_⟩
  simp [poC,poO,poR,poE,he,hgi]
def Zcr:List V→Zf→Zw→Name→Option Ent
 | [.agg [.d (.int .i64 c),.d (.int .i64 n),.d (.int .i64 d),.d (.int .i64 a),.d (.int .i64 p),.d (.int .i64 f),.d (.list q_l)],.c (.d (.int .i64 i))],[],[],nF=>some ⟨(Zc q_l).length≤1000000∧rsV ⟨c,⟨n,d,a,p,f⟩,(Zc q_l)⟩=true∧(0≤i∧i≤65536)∧(0 < i→0 < (Zc q_l).length)∧poE ⟨c,⟨n,d,a,p,f⟩,(Zc q_l)⟩ i=0∧q_l=LI .i32 (Zc q_l),.ts [some 2,some 7,none] [.d (.int .i64 (poC ⟨c,⟨n,d,a,p,f⟩,(Zc q_l)⟩ i)),.own nF (LI .i32 (poO ⟨c,⟨n,d,a,p,f⟩,(Zc q_l)⟩ i)),.d (.int .i64 (poR ⟨c,⟨n,d,a,p,f⟩,(Zc q_l)⟩ i).c),.d (.int .i64 (poR ⟨c,⟨n,d,a,p,f⟩,(Zc q_l)⟩ i).p.n),.d (.int .i64 (poR ⟨c,⟨n,d,a,p,f⟩,(Zc q_l)⟩ i).p.d),.d (.int .i64 (poR ⟨c,⟨n,d,a,p,f⟩,(Zc q_l)⟩ i).p.a),.d (.int .i64 (poR ⟨c,⟨n,d,a,p,f⟩,(Zc q_l)⟩ i).p.p),.d (.int .i64 (poR ⟨c,⟨n,d,a,p,f⟩,(Zc q_l)⟩ i).p.f),.d (.list (LI .i32 (poR ⟨c,⟨n,d,a,p,f⟩,(Zc q_l)⟩ i).l)),.d (.int .i64 (poE ⟨c,⟨n,d,a,p,f⟩,(Zc q_l)⟩ i))],[],[(nF,⟨false,1,LI .i32 (poO ⟨c,⟨n,d,a,p,f⟩,(Zc q_l)⟩ i)⟩)]⟩
 | _,_,_,_=>none
def Zgs:=And.intro (@Zcr.eq_1) (@Zcr.eq_1)
theorem Zgt:Snd Tryz.prog 164 Zcr:=by
 intro vs b k n e h hn hp
 unfold Zcr at h
 split at h
 ·cases h; obtain ⟨hp0,hp1,hp2,hp3,hp4,hq0⟩:=hp; obtain ⟨_,rfl⟩:=Zu hq0; simp only [Zi,Zp,Zj,Zq] at hp0 hp1 hp2 hp3 hp4 ⊢; exact Spec.ren1 (Zna _ _ _ _ _ _ _ _ hp0 hp1 hp2 hp3 hp4) 9 (by simp [Zbi,V.names,C.names,ZS,ZT,Z6]) (Nat.le_of_eq hn)
 ·cases h
theorem Zw9 (c n d a p f:Int) (l:List Int) (i:Int) (hl:l.length≤1000000) (ht:tkE ⟨c,⟨n,d,a,p,f⟩,l⟩ i=0):Spec Tryz.prog 0 92 [.agg [.d (.int .i64 c),.d (.int .i64 n),.d (.int .i64 d),.d (.int .i64 a),.d (.int .i64 p),.d (.int .i64 f),.d (.list (LI .i32 l))],vI .i64 i] [] [] (.ts [some 2,some 7,none] [.d (.int .i64 (tkC ⟨c,⟨n,d,a,p,f⟩,l⟩ i)),.own ⟨0,9⟩ (LI .i32 (tkO ⟨c,⟨n,d,a,p,f⟩,l⟩ i)),.d (.int .i64 (tkR ⟨c,⟨n,d,a,p,f⟩,l⟩ i).c),.d (.int .i64 (tkR ⟨c,⟨n,d,a,p,f⟩,l⟩ i).p.n),.d (.int .i64 (tkR ⟨c,⟨n,d,a,p,f⟩,l⟩ i).p.d),.d (.int .i64 (tkR ⟨c,⟨n,d,a,p,f⟩,l⟩ i).p.a),.d (.int .i64 (tkR ⟨c,⟨n,d,a,p,f⟩,l⟩ i).p.p),.d (.int .i64 (tkR ⟨c,⟨n,d,a,p,f⟩,l⟩ i).p.f),.d (.list (LI .i32 (tkR ⟨c,⟨n,d,a,p,f⟩,l⟩ i).l)),.d (.int .i64 (tkE ⟨c,⟨n,d,a,p,f⟩,l⟩ i))]) [] [(⟨0,9⟩,⟨false,1,LI .i32 (tkO ⟨c,⟨n,d,a,p,f⟩,l⟩ i)⟩)]:=by
 refine ZbI (X:=⟨Tryz.prog,tt,Tryz.f92.ntmps,1,fun _=>0,(tab [(163,Zb8),(90,Zhn),(164,Zcr)])⟩) (M:=[]) (m:=4294984183) (r0:=.ts [some 2,some 7,none] [.d (.int .i64 (tkC ⟨c,⟨n,d,a,p,f⟩,l⟩ i)),.own ⟨1,37⟩ (LI .i32 (tkO ⟨c,⟨n,d,a,p,f⟩,l⟩ i)),.d (.int .i64 (tkR ⟨c,⟨n,d,a,p,f⟩,l⟩ i).c),.d (.int .i64 (tkR ⟨c,⟨n,d,a,p,f⟩,l⟩ i).p.n),.d (.int .i64 (tkR ⟨c,⟨n,d,a,p,f⟩,l⟩ i).p.d),.d (.int .i64 (tkR ⟨c,⟨n,d,a,p,f⟩,l⟩ i).p.a),.d (.int .i64 (tkR ⟨c,⟨n,d,a,p,f⟩,l⟩ i).p.p),.d (.int .i64 (tkR ⟨c,⟨n,d,a,p,f⟩,l⟩ i).p.f),.d (.list (LI .i32 (tkR ⟨c,⟨n,d,a,p,f⟩,l⟩ i).l)),.d (.int .i64 (tkE ⟨c,⟨n,d,a,p,f⟩,l⟩ i))]) (b0:=[]) (k0:=[(⟨1,37⟩,⟨false,1,LI .i32 (tkO ⟨c,⟨n,d,a,p,f⟩,l⟩ i)⟩)]) ⟨1,37⟩ ⟨0,9⟩ rfl rfl ⟨Zah,ZU (Za ZcT (Za Zln (Za Zgt Zb))) _ rfl rfl⟩ ZB Tryz.func92 rfl (by decide) (by show (2:Nat)≤_; exact Nat.le_of_ble_eq_true rfl) rfl rfl rfl ⟨by simp [V.has,C.has,Z6],by simp [C.has],by simp⟩ (by decide) (by simp [V.names,C.names,ZS,ZT]) (by simp [lk]) (by simp [lk]) (by simp [lk]) ?_
 simp (maxSteps:=1000000) only [↓Zo,Ze,Zd,Zn,gSt,gS0,Ya,Yb,↓reduceIte,reduceCtorEq,Yc,Yd,Ye,Yf,Yg,Yj,Yk,Yl,Ym,Yn,ZcS,Zlm,Zgs,gE1,Tryz.ntmps92,Tryz.results92,gTT]
 refine ⟨hl,fun h=>?_,fun h=>?_⟩
 ·have hne:rcE ⟨c,⟨n,d,a,p,f⟩,l⟩ i≠0:=by simpa using h
  exact absurd (ZqM ht).1 hne
 have he:rcE ⟨c,⟨n,d,a,p,f⟩,l⟩ i=0:=by simpa using h
 obtain ⟨hv,hi⟩:=ZkD he
 obtain ⟨⟨k1,k2⟩,k3,k4,k5⟩:=ZW (ZD hv).2 hl
 have hp:=(ZD hv).1
 simp only at k1 k2 hp k3
 have hN:neE ⟨n,d,a,p,f⟩ i=ned ⟨n,d,a,p,f⟩ i:=by unfold neE; rw [if_pos (ZgY hp hi)]
 have hpo:=ZqM ht
 simp only at hpo
 rw [Zc3 k1 (by omega),hN]
 refine ⟨by omega,fun h2=>?_,fun h2=>?_⟩
 ·have:=of_decide_eq_true h2
  omega
 have hne:0 < i→0 < l.length:=fun h0=>by
  have h3:=Zr7 hp (n:=i) (by omega)
  have h4:=of_decide_eq_false h2
  rcases Nat.eq_zero_or_pos l.length with h5 | h5
  ·rw [h5,Nat.zero_div] at h4; simp at h4; omega
  ·exact h5
 refine ⟨⟨hl,hv,hi,hne,hpo.2.1⟩,?_⟩
 simp [tkC,tkO,tkR,ht,hpo.2.1,poC,poO]
def Zhs:List V→Zf→Zw→Name→Option Ent
 | [.agg [.d (.int .i64 c),.d (.int .i64 n),.d (.int .i64 d),.d (.int .i64 a),.d (.int .i64 p),.d (.int .i64 f),.d (.list q_l)],.c (.d (.int .i64 i))],[],[],nF=>some ⟨(Zc q_l).length≤1000000∧tkE ⟨c,⟨n,d,a,p,f⟩,(Zc q_l)⟩ i=0∧q_l=LI .i32 (Zc q_l),.ts [some 2,some 7,none] [.d (.int .i64 (tkC ⟨c,⟨n,d,a,p,f⟩,(Zc q_l)⟩ i)),.own nF (LI .i32 (tkO ⟨c,⟨n,d,a,p,f⟩,(Zc q_l)⟩ i)),.d (.int .i64 (tkR ⟨c,⟨n,d,a,p,f⟩,(Zc q_l)⟩ i).c),.d (.int .i64 (tkR ⟨c,⟨n,d,a,p,f⟩,(Zc q_l)⟩ i).p.n),.d (.int .i64 (tkR ⟨c,⟨n,d,a,p,f⟩,(Zc q_l)⟩ i).p.d),.d (.int .i64 (tkR ⟨c,⟨n,d,a,p,f⟩,(Zc q_l)⟩ i).p.a),.d (.int .i64 (tkR ⟨c,⟨n,d,a,p,f⟩,(Zc q_l)⟩ i).p.p),.d (.int .i64 (tkR ⟨c,⟨n,d,a,p,f⟩,(Zc q_l)⟩ i).p.f),.d (.list (LI .i32 (tkR ⟨c,⟨n,d,a,p,f⟩,(Zc q_l)⟩ i).l)),.d (.int .i64 (tkE ⟨c,⟨n,d,a,p,f⟩,(Zc q_l)⟩ i))],[],[(nF,⟨false,1,LI .i32 (tkO ⟨c,⟨n,d,a,p,f⟩,(Zc q_l)⟩ i)⟩)]⟩
 | _,_,_,_=>none
def Zlu:=And.intro (@Zhs.eq_1) (@Zhs.eq_1)
theorem Zlv:Snd Tryz.prog 92 Zhs:=by
 intro vs b k n e h hn hp
 unfold Zhs at h
 split at h
 ·cases h; obtain ⟨hp0,hp1,hq0⟩:=hp; obtain ⟨_,rfl⟩:=Zu hq0; simp only [Zi,Zp,Zj,Zq] at hp0 hp1 ⊢; exact Spec.ren1 (Zw9 _ _ _ _ _ _ _ _ hp0 hp1) 9 (by simp [Zbi,V.names,C.names,ZS,ZT,Z6]) (Nat.le_of_eq hn)
 ·cases h
theorem Zp4 (c n d a p f:Int) (l:List Int) (i:Int) (hl:l.length≤1000000) (ht:fiE ⟨c,⟨n,d,a,p,f⟩,l⟩ i=0):Spec Tryz.prog 0 93 [.agg [.d (.int .i64 c),.d (.int .i64 n),.d (.int .i64 d),.d (.int .i64 a),.d (.int .i64 p),.d (.int .i64 f),.d (.list (LI .i32 l))],vI .i64 i] [] [] (.ts [some 2,some 7,none] [.d (.int .i64 (fiC ⟨c,⟨n,d,a,p,f⟩,l⟩ i)),.own ⟨0,9⟩ (LI .i32 (fiO ⟨c,⟨n,d,a,p,f⟩,l⟩ i)),.d (.int .i64 (fiR ⟨c,⟨n,d,a,p,f⟩,l⟩ i).c),.d (.int .i64 (fiR ⟨c,⟨n,d,a,p,f⟩,l⟩ i).p.n),.d (.int .i64 (fiR ⟨c,⟨n,d,a,p,f⟩,l⟩ i).p.d),.d (.int .i64 (fiR ⟨c,⟨n,d,a,p,f⟩,l⟩ i).p.a),.d (.int .i64 (fiR ⟨c,⟨n,d,a,p,f⟩,l⟩ i).p.p),.d (.int .i64 (fiR ⟨c,⟨n,d,a,p,f⟩,l⟩ i).p.f),.d (.list (LI .i32 (fiR ⟨c,⟨n,d,a,p,f⟩,l⟩ i).l)),.d (.int .i64 (fiE ⟨c,⟨n,d,a,p,f⟩,l⟩ i))]) [] [(⟨0,9⟩,⟨false,1,LI .i32 (fiO ⟨c,⟨n,d,a,p,f⟩,l⟩ i)⟩)]:=by
 refine ZbI (X:=⟨Tryz.prog,tt,Tryz.f93.ntmps,1,fun _=>0,(tab [(163,Zb8),(164,Zcr)])⟩) (M:=[(6,[0,0,0,0,0,210556476788727,0,0,0,0,0,175921860513783,0])]) (m:=140737488424951) (r0:=.ts [some 2,some 7,none] [.d (.int .i64 (fiC ⟨c,⟨n,d,a,p,f⟩,l⟩ i)),.own ⟨1,58⟩ (LI .i32 (fiO ⟨c,⟨n,d,a,p,f⟩,l⟩ i)),.d (.int .i64 (fiR ⟨c,⟨n,d,a,p,f⟩,l⟩ i).c),.d (.int .i64 (fiR ⟨c,⟨n,d,a,p,f⟩,l⟩ i).p.n),.d (.int .i64 (fiR ⟨c,⟨n,d,a,p,f⟩,l⟩ i).p.d),.d (.int .i64 (fiR ⟨c,⟨n,d,a,p,f⟩,l⟩ i).p.a),.d (.int .i64 (fiR ⟨c,⟨n,d,a,p,f⟩,l⟩ i).p.p),.d (.int .i64 (fiR ⟨c,⟨n,d,a,p,f⟩,l⟩ i).p.f),.d (.list (LI .i32 (fiR ⟨c,⟨n,d,a,p,f⟩,l⟩ i).l)),.d (.int .i64 (fiE ⟨c,⟨n,d,a,p,f⟩,l⟩ i))]) (b0:=[]) (k0:=[(⟨1,58⟩,⟨false,1,LI .i32 (fiO ⟨c,⟨n,d,a,p,f⟩,l⟩ i)⟩)]) ⟨1,58⟩ ⟨0,9⟩ rfl rfl ⟨Zah,ZU (Za ZcT (Za Zgt Zb)) _ rfl rfl⟩ ZB Tryz.func93 rfl (by decide) (by show (2:Nat)≤_; exact Nat.le_of_ble_eq_true rfl) rfl rfl rfl ⟨by simp [V.has,C.has,Z6],by simp [C.has],by simp⟩ (by decide) (by simp [V.names,C.names,ZS,ZT]) (by simp [lk]) (by simp [lk]) (by simp [lk]) ?_
 simp (maxSteps:=1000000) only [↓Zo,Ze,Zd,Zn,gSt,gS0,Ya,Yb,↓reduceIte,reduceCtorEq,Yc,Yd,Ye,Yf,Yg,Yj,Yk,Yl,Ym,Yn,ZcS,Zgs,gE1,Tryz.ntmps93,Tryz.results93,gTT]
 refine ⟨hl,fun h=>?_,fun h=>⟨by kernel_rfl,?_⟩⟩
 ·have hne:rcE ⟨c,⟨n,d,a,p,f⟩,l⟩ i≠0:=by simpa using h
  have e:fiE ⟨c,⟨n,d,a,p,f⟩,l⟩ i=rcE ⟨c,⟨n,d,a,p,f⟩,l⟩ i:=by unfold fiE; rw [if_pos hne]
  exact absurd (e.symm.trans ht) hne
 have he:rcE ⟨c,⟨n,d,a,p,f⟩,l⟩ i=0:=by simpa using h
 obtain ⟨hv,hi⟩:=ZkD he
 obtain ⟨⟨k1,k2⟩,k3,k4,k5⟩:=ZW (ZD hv).2 hl
 have hp:=(ZD hv).1
 simp only at k1 k2 hp k3 k4
 have hpi:=Zbw hp
 simp only at hpi
 have hpr:=ZcG hp
 have hst:=Zfx hp
 have hlf:=ZzJ hv hl
 have hct:=Zj5 hv hl hi.1
 have hP:IntKind.i64.wrap (d*65536)=prt ⟨n,d,a,p,f⟩:=rfl
 have hS:IntKind.i64.wrap (n*IntKind.i64.wrap (65536+a))=stp ⟨n,d,a,p,f⟩:=rfl
 have hL:IntKind.i64.wrap (IntKind.i64.wrap (IntKind.i64.wrap ((l.length:Int).tdiv c)*prt ⟨n,d,a,p,f⟩) - f)=Zfo ⟨c,⟨n,d,a,p,f⟩,l⟩:=by
  have e1:Zfo ⟨c,⟨n,d,a,p,f⟩,l⟩=((l.length / c.toNat:Nat):Int)*prt ⟨n,d,a,p,f⟩ - f:=rfl
  rw [e1] at hlf
  rw [Zc3 k1 (by omega),e1]
  generalize ((l.length / c.toNat:Nat):Int)*prt ⟨n,d,a,p,f⟩=m at *
  rw [IntWalk.i64_in m (by omega),IntWalk.i64_in (m - f) (by omega)]
 rw [hP,hS,hL]
 have e:fiE ⟨c,⟨n,d,a,p,f⟩,l⟩ i=poE ⟨c,⟨n,d,a,p,f⟩,l⟩ (cnt ⟨c,⟨n,d,a,p,f⟩,l⟩ i):=by unfold fiE; rw [if_neg (by rw [he]; decide)]
 have hpo:poE ⟨c,⟨n,d,a,p,f⟩,l⟩ (cnt ⟨c,⟨n,d,a,p,f⟩,l⟩ i)=0:=by rw [← e]; exact ht
 
 refine ⟨by omega,fun h2=>?_,fun h2=>?_⟩
 ·have h3:=of_decide_eq_true h2
  have hcn:(if IntKind.i64.wrap ((IntKind.i64.wrap (IntKind.i64.wrap (Zfo ⟨c,⟨n,d,a,p,f⟩,l⟩+stp ⟨n,d,a,p,f⟩) - 1)).tdiv (stp ⟨n,d,a,p,f⟩)) < i then IntKind.i64.wrap ((IntKind.i64.wrap (IntKind.i64.wrap (Zfo ⟨c,⟨n,d,a,p,f⟩,l⟩+stp ⟨n,d,a,p,f⟩) - 1)).tdiv (stp ⟨n,d,a,p,f⟩)) else i)=cnt ⟨c,⟨n,d,a,p,f⟩,l⟩ i:=by
   have e1:cnt ⟨c,⟨n,d,a,p,f⟩,l⟩ i=min i ((Zfo ⟨c,⟨n,d,a,p,f⟩,l⟩+stp ⟨n,d,a,p,f⟩ - 1) / stp ⟨n,d,a,p,f⟩):=by unfold cnt; rw [if_pos h3]
   rw [e1,IntWalk.i64_in (Zfo ⟨c,⟨n,d,a,p,f⟩,l⟩+stp ⟨n,d,a,p,f⟩) (by omega),IntWalk.i64_in (Zfo ⟨c,⟨n,d,a,p,f⟩,l⟩+stp ⟨n,d,a,p,f⟩ - 1) (by omega),Int.tdiv_eq_ediv_of_nonneg (by omega)]
   have h4:0≤(Zfo ⟨c,⟨n,d,a,p,f⟩,l⟩+stp ⟨n,d,a,p,f⟩ - 1) / stp ⟨n,d,a,p,f⟩:=Int.ediv_nonneg (by omega) (by omega)
   have h5:(Zfo ⟨c,⟨n,d,a,p,f⟩,l⟩+stp ⟨n,d,a,p,f⟩ - 1) / stp ⟨n,d,a,p,f⟩≤Zfo ⟨c,⟨n,d,a,p,f⟩,l⟩+stp ⟨n,d,a,p,f⟩ - 1:=Int.ediv_le_self _ (by omega)
   generalize (Zfo ⟨c,⟨n,d,a,p,f⟩,l⟩+stp ⟨n,d,a,p,f⟩ - 1) / stp ⟨n,d,a,p,f⟩=q at *
   rw [IntWalk.i64_in q (by omega)]
   split <;> omega
  rw [hcn]
  refine ⟨by omega,⟨hl,hv,⟨hct.1,by omega⟩,hct.2.2,hpo⟩,?_⟩
  simp [fiC,fiO,fiR,ht,hpo,poC,poO]
 ·have e1:cnt ⟨c,⟨n,d,a,p,f⟩,l⟩ i=0:=by unfold cnt; rw [if_neg (of_decide_eq_false h2)]
  rw [e1] at hpo
  refine ⟨⟨hl,hv,hpo⟩,?_⟩
  simp [fiC,fiO,fiR,ht,hpo,poC,poO,e1]
def Zen:List V→Zf→Zw→Name→Option Ent
 | [.agg [.d (.int .i64 c),.d (.int .i64 n),.d (.int .i64 d),.d (.int .i64 a),.d (.int .i64 p),.d (.int .i64 f),.d (.list q_l)],.c (.d (.int .i64 i))],[],[],nF=>some ⟨(Zc q_l).length≤1000000∧fiE ⟨c,⟨n,d,a,p,f⟩,(Zc q_l)⟩ i=0∧q_l=LI .i32 (Zc q_l),.ts [some 2,some 7,none] [.d (.int .i64 (fiC ⟨c,⟨n,d,a,p,f⟩,(Zc q_l)⟩ i)),.own nF (LI .i32 (fiO ⟨c,⟨n,d,a,p,f⟩,(Zc q_l)⟩ i)),.d (.int .i64 (fiR ⟨c,⟨n,d,a,p,f⟩,(Zc q_l)⟩ i).c),.d (.int .i64 (fiR ⟨c,⟨n,d,a,p,f⟩,(Zc q_l)⟩ i).p.n),.d (.int .i64 (fiR ⟨c,⟨n,d,a,p,f⟩,(Zc q_l)⟩ i).p.d),.d (.int .i64 (fiR ⟨c,⟨n,d,a,p,f⟩,(Zc q_l)⟩ i).p.a),.d (.int .i64 (fiR ⟨c,⟨n,d,a,p,f⟩,(Zc q_l)⟩ i).p.p),.d (.int .i64 (fiR ⟨c,⟨n,d,a,p,f⟩,(Zc q_l)⟩ i).p.f),.d (.list (LI .i32 (fiR ⟨c,⟨n,d,a,p,f⟩,(Zc q_l)⟩ i).l)),.d (.int .i64 (fiE ⟨c,⟨n,d,a,p,f⟩,(Zc q_l)⟩ i))],[],[(nF,⟨false,1,LI .i32 (fiO ⟨c,⟨n,d,a,p,f⟩,(Zc q_l)⟩ i)⟩)]⟩
 | _,_,_,_=>none
def ZnO:=And.intro (@Zen.eq_1) (@Zen.eq_1)
theorem ZnP:Snd Tryz.prog 93 Zen:=by
 intro vs b k n e h hn hp
 unfold Zen at h
 split at h
 ·cases h; obtain ⟨hp0,hp1,hq0⟩:=hp; obtain ⟨_,rfl⟩:=Zu hq0; simp only [Zi,Zp,Zj,Zq] at hp0 hp1 ⊢; exact Spec.ren1 (Zp4 _ _ _ _ _ _ _ _ hp0 hp1) 9 (by simp [Zbi,V.names,C.names,ZS,ZT,Z6]) (Nat.le_of_eq hn)
 ·cases h
theorem ZBa (k:Int) (y:List Int) (i:Int) (hb:(y.length:Int)≤i*k∧i*k≤524288):Spec Tryz.prog 0 94 [.agg [.d (.int .i64 k),.own ⟨0,0⟩ (LI .i32 y)],vI .i64 i] [] [(⟨0,0⟩,⟨false,1,(LI .i32 y)⟩)] (.agg [.d (.int .i64 k),.own ⟨0,0⟩ (LI .i32 (y++List.replicate (i*k - (y.length:Int)).toNat 0))]) [] [(⟨0,0⟩,⟨false,1,LI .i32 (y++List.replicate (i*k - (y.length:Int)).toNat 0)⟩)]:=by
 refine spec_of_E (X:=⟨Tryz.prog,tt,Tryz.f94.ntmps,1,fun _=>0,(tab [])⟩) (M:=[(1,[0,0,0,0,0,130135,0,0,0,0,0,98327,0])]) (m:=23) rfl rfl ⟨Zah,ZU Zb _ rfl rfl⟩ ZB Tryz.func94 rfl (by decide) (by show (2:Nat)≤_; exact Nat.le_of_ble_eq_true rfl) ⟨by simp [V.has,C.has,Z6],by simp [C.has],by simp⟩ ?_
 simp (maxSteps:=1000000) only [↓Zo,Ze,Zd,Zn,gSt,gS0,Ya,Yb,↓reduceIte,reduceCtorEq,Yc,Yd,Ye,Yf,Yg,Yj,Yk,Yl,Ym,Yn,gE1,Tryz.ntmps94,Tryz.results94,gTT]
 rw [IntWalk.i64_in (i*k) (by omega),IntWalk.i64_in (i*k - (y.length:Int)) (by omega)]
 refine ⟨⟨by omega,by omega,by omega⟩,by unfold Zag; rw [List.length_replicate]; omega,rfl,rfl⟩
def ZjB:List V→Zf→Zw→Name→Option Ent
 | [.agg [.d (.int .i64 k),.own n0 q_y],.c (.d (.int .i64 i))],[],[(j0,⟨false,1,q_y_1⟩)],_=>some ⟨q_y_1=q_y∧(((Zc q_y).length:Int)≤i*k∧i*k≤524288)∧n0.lv≤1∧j0=n0∧q_y=LI .i32 (Zc q_y),.agg [.d (.int .i64 k),.own n0 (LI .i32 ((Zc q_y)++List.replicate (i*k - ((Zc q_y).length:Int)).toNat 0))],[],[(n0,⟨false,1,LI .i32 ((Zc q_y)++List.replicate (i*k - ((Zc q_y).length:Int)).toNat 0)⟩)]⟩
 | _,_,_,_=>none
def ZjC:=And.intro (@ZjB.eq_1) (@ZjB.eq_1)
theorem ZjD:Snd Tryz.prog 94 ZjB:=by
 intro vs b k n e h hn hp
 unfold ZjB at h
 split at h
 ·cases h; obtain ⟨rfl,hp0,hl0,rfl,hq0⟩:=hp; obtain ⟨_,rfl⟩:=Zu hq0; simp only [Zi,Zp,Zj,Zq] at hp0 ⊢; exact Spec.ren1 (ZBa _ _ _ hp0) 0 (by simp [Zbi,V.names,C.names,ZS,ZT,Z6]) hl0
 ·cases h
theorem ZAM (c d:Int) (a b:List Int) (hl:a.length+b.length≤1000000):Spec Tryz.prog 0 18 [.agg [.d (.int .i64 c),.d (.list (LI .i32 a))],.agg [.d (.int .i64 d),.d (.list (LI .i32 b))]] [] [] (.agg [.d (.int .i64 c),.d (.list (LI .i32 (a++b)))]) [] []:=by
 refine sE (md:=fun _=>0) (L:=[]) [] 31 Zb Tryz.func18 rfl rfl rfl ?_
 simp (maxSteps:=1000000) only [↓Zo,Ze,Zd,Zn,gSt,gS0,Ya,Yb,↓reduceIte,reduceCtorEq,Yc,Yd,Ye,Yf,Yg,Yj,Yk,Yl,Ym,Yn,gE1,Tryz.ntmps18,Tryz.results18,gTT]
 exact ⟨by kernel_rfl,by unfold Zag; omega,by unfold Zag; omega⟩
def Zgk:List V→Zf→Zw→Name→Option Ent
 | [.agg [.d (.int .i64 c),.d (.list q_a)],.agg [.d (.int .i64 d),.d (.list q_b)]],[],[],_=>some ⟨(Zc q_a).length+(Zc q_b).length≤1000000∧q_a=LI .i32 (Zc q_a)∧q_b=LI .i32 (Zc q_b),.agg [.d (.int .i64 c),.d (.list (LI .i32 ((Zc q_a)++(Zc q_b))))],[],[]⟩
 | _,_,_,_=>none
def Zak:=And.intro (@Zgk.eq_1) (@Zgk.eq_1)
theorem Zeq:Snd Tryz.prog 18 Zgk:=by
 intro vs b k n e h hn hp
 unfold Zgk at h
 split at h
 ·cases h; obtain ⟨hp0,hq0,hq1⟩:=hp; obtain ⟨_,rfl⟩:=Zu hq0; obtain ⟨_,rfl⟩:=Zu hq1; simp only [Zi,Zp,Zj,Zq] at hp0 ⊢; exact (ZAM _ _ _ _ hp0).lift rfl _
 ·cases h
end Go.Vam
