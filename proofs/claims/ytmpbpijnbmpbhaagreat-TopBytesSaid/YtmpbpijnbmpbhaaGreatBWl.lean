/- A part of the proof. Conditions: none. -/
import Derived.Test.YtmpbpijnbmpbhaaGreatBWk
set_option linter.unusedVariables false
set_option linter.defProp false
set_option linter.unusedSimpArgs false
set_option maxRecDepth 40000
set_option maxHeartbeats 4000000
namespace Go.Vam
open Go.Proofs
open Nat renaming reduceShiftRight→Ya,reduceMod→Yb,reduceEqDiff→Yc,reduceLT→Yd,reduceLeDiff→Ye,reduceAdd→Yf,reduceMul→Yg
open Int renaming reduceLE→Yj,reduceLT→Yk,reduceNeg→Yl,reduceAdd→Ym,reduceToNat→Yn
def Zxl (c n:Int):Bool:=decide (c < 1) || decide (8 < c) || decide (n < 0) || decide (65536 < n)
def Zyp (c n:Int):Int:=if Zxl c n=true then 0 else c
def Zxm (c n:Int):List Int:=if Zxl c n=true then [] else List.replicate (c*n).toNat 0
def ZCT (c n:Int):Int:=if Zxl c n=true then 2 else 0
theorem Zra (c n:Int):Spec Tryz.prog 0 58 [vI .i64 c,vI .i64 n] [] [] (.tup [.agg [.int .i64 (Zyp c n),.list (LI .i32 (Zxm c n))],.int .i64 (ZCT c n)]) [] []:=by
 refine sE (md:=fun _=>0) (L:=[]) [(1,[0,0,0,0,0,1046579,0,0,0,0,0,983091,0,0])] 524339 Zb Tryz.func58 rfl rfl rfl ?_
 simp (maxSteps:=1000000) only [↓Zn,Ze,Zd,Zm,gSt,gS0,Ya,Yb,↓reduceIte,reduceCtorEq,Yc,Yd,Ye,Yf,Yg,Yj,Yk,Yl,Ym,Yn,gE1,Tryz.ntmps58,Tryz.results58,gTT]
 refine ⟨fun h=>?_,fun h=>?_⟩
 ·have e:Zxl c n=true:=h
  simp only [Zyp,Zxm,ZCT,e,if_true,Zw]
 ·have e:Zxl c n=false:=h
  have h2:=e
  simp only [Zxl,Bool.or_eq_false_iff,decide_eq_false_iff_not] at h2
  have h0:0≤c*n:=Int.mul_nonneg (by omega) (by omega)
  have h1:c*n≤8*65536:=Int.mul_le_mul (by omega) (by omega) (by omega) (by decide)
  rw [IntWalk.i64_in (c*n) (by omega)]
  refine ⟨⟨h0,by omega,by omega⟩,?_⟩
  simp [Zyp,Zxm,ZCT,e]
def Zcm:List V→Zf→Zr→Name→Option Ent
 | [.c (.d (.int .i64 c)),.c (.d (.int .i64 n))],[],[],_=>some ⟨True,.tup [.agg [.int .i64 (Zyp c n),.list (LI .i32 (Zxm c n))],.int .i64 (ZCT c n)],[],[]⟩
 | _,_,_,_=>none
def Zc5:=And.intro (@Zcm.eq_1) (@Zcm.eq_1)
theorem Zc6:Snd Tryz.prog 58 Zcm:=by
 intro vs b k n e h hn hp
 unfold Zcm at h
 split at h
 ·cases h; exact (Zra _ _).lift rfl _
 ·cases h
theorem ZnH (c n:Int):Spec Tryz.prog 0 12 [vI .i64 c,vI .i64 n] [] [] (.tup [.agg [.int .i64 (Zyp c n),.list (LI .i32 (Zxm c n))],.int .i64 (ZCT c n)]) [] []:=by
 refine sE (md:=fun _=>0) (L:=[]) [(1,[0,0,0,0,0,1046579,0,0,0,0,0,983091,0,0])] 524339 Zb Tryz.func12 rfl rfl rfl ?_
 simp (maxSteps:=1000000) only [↓Zn,Ze,Zd,Zm,gSt,gS0,Ya,Yb,↓reduceIte,reduceCtorEq,Yc,Yd,Ye,Yf,Yg,Yj,Yk,Yl,Ym,Yn,gE1,Tryz.ntmps12,Tryz.results12,gTT]
 refine ⟨fun h=>?_,fun h=>?_⟩
 ·have e:Zxl c n=true:=h
  simp only [Zyp,Zxm,ZCT,e,if_true,Zw]
 ·have e:Zxl c n=false:=h
  have h2:=e
  simp only [Zxl,Bool.or_eq_false_iff,decide_eq_false_iff_not] at h2
  have h0:0≤c*n:=Int.mul_nonneg (by omega) (by omega)
  have h1:c*n≤8*65536:=Int.mul_le_mul (by omega) (by omega) (by omega) (by decide)
  rw [IntWalk.i64_in (c*n) (by omega)]
  refine ⟨⟨h0,by omega,by omega⟩,?_⟩
  simp [Zyp,Zxm,ZCT,e]
def ZdG:List V→Zf→Zr→Name→Option Ent
 | [.c (.d (.int .i64 c)),.c (.d (.int .i64 n))],[],[],_=>some ⟨True,.tup [.agg [.int .i64 (Zyp c n),.list (LI .i32 (Zxm c n))],.int .i64 (ZCT c n)],[],[]⟩
 | _,_,_,_=>none
def Zaw:=And.intro (@ZdG.eq_1) (@ZdG.eq_1)
theorem ZmI:Snd Tryz.prog 12 ZdG:=by
 intro vs b k n e h hn hp
 unfold ZdG at h
 split at h
 ·cases h; exact (ZnH _ _).lift rfl _
 ·cases h
def skK (x:Sm) (i:Int):Int:=min ((mkN x.r.p (waN x.r):Nat):Int) i
def skM (x:Sm) (i:Int):Int:=if x.st=3 then skK x i else if x.st=5 then cnt x.r i else 0
def skE (x:Sm) (i:Int):Int:=if smP x=false then 1 else if (decide (i < 0) || decide (65536 < i))=true then 2 else if x.st=3 then tkE x.r (skK x i) else if x.st=5 then fiE x.r i else 0
def skC (x:Sm) (i:Int):Int:=if skE x i=0 then x.r.c else 0
def skO (x:Sm) (i:Int):List Int:=if skE x i=0 then ZcQ x.r (skM x i).toNat++List.replicate ((i.toNat - (skM x i).toNat)*x.r.c.toNat) 0 else []
def skX (x:Sm) (i:Int):Int:=if skE x i=0∧x.st=3 then i - skK x i else 0
def skS (x:Sm) (i:Int):Int:=if x.st=5∧(poR x.r (skM x i)).l.length=0 then 6 else x.st
def skR (x:Sm) (i:Int):Sm:=if skE x i=0 then (if x.st=3∨x.st=5 then ⟨x.di,skS x i,x.q,x.s0,poR x.r (skM x i),x.g,x.wr,IntKind.i64.wrap (x.pl+i),IntKind.i64.wrap (x.mi+skX x i)⟩ else x) else sm0
theorem Zno {x:Sm} {i:Int} (h:smP x=false):skE x i=1:=by unfold skE; rw [if_pos h]
theorem Znp {x:Sm} {i:Int} (h:smP x=true) (h2:(decide (i < 0) || decide (65536 < i))=true):skE x i=2:=by unfold skE; rw [if_neg (by rw [h]; decide),if_pos h2]
theorem Zqq {x:Sm} {i:Int} (h:smP x=true) (h2:(decide (i < 0) || decide (65536 < i))=false):skE x i=if x.st=3 then tkE x.r (skK x i) else if x.st=5 then fiE x.r i else 0:=by unfold skE; rw [if_neg (by rw [h]; decide),if_neg (by rw [h2]; decide)]
theorem Ze1 {x:Sm} {i:Int} (h:skE x i≠0):skR x i=sm0∧skC x i=0∧skO x i=[]∧skX x i=0:=by
 refine ⟨if_neg h,if_neg h,if_neg h,if_neg fun h2=>h h2.1⟩
theorem ZAZ {p:Ph} (hp:phV p=true) {w:Int} (hw:0≤w∧w≤65536):maN p w=((mkN p w:Nat):Int):=by
 have e1:maE p w=0:=by
  unfold maE
  rw [if_neg (by rw [hp]; decide),if_neg (by simp only [Bool.or_eq_true,decide_eq_true_eq]; omega)]
 unfold maN
 rw [if_pos e1]
theorem Zmh {x:Sm} {i:Int} (hi:0≤i):0≤skK x i∧skK x i≤i:=by unfold skK; omega
theorem ZBw {c n:Int} (hc:1≤c∧c≤8) (hn:0≤n∧n≤65536):Zyp c n=c∧ZCT c n=0∧Zxm c n=List.replicate (n.toNat*c.toNat) 0:=by
 have hb:Zxl c n=false:=by
  simp only [Zxl,Bool.or_eq_false_iff,decide_eq_false_iff_not]
  omega
 have hm:(c*n).toNat=n.toNat*c.toNat:=by rw [Int.mul_comm,Int.toNat_mul (by omega) (by omega)]
 unfold Zyp ZCT Zxm
 rw [if_neg (by rw [hb]; decide),if_neg (by rw [hb]; decide),if_neg (by rw [hb]; decide),hm]
 exact ⟨rfl,rfl,rfl⟩
theorem ZnA (c n d a p f:Int) (l:List Int) (i:Int) (hl:l.length≤1000000) (hv:rsV ⟨c,⟨n,d,a,p,f⟩,l⟩=true) (hi:0≤i∧i≤65536) (hne:0 < i→0 < l.length) (he0:poE ⟨c,⟨n,d,a,p,f⟩,l⟩ i=0):Spec Tryz.prog 0 164 [.agg [.d (.int .i64 c),.d (.int .i64 n),.d (.int .i64 d),.d (.int .i64 a),.d (.int .i64 p),.d (.int .i64 f),.d (.list (LI .i32 l))],vI .i64 i] [] [] (.ts [some 2,some 7,none] [.d (.int .i64 (poC ⟨c,⟨n,d,a,p,f⟩,l⟩ i)),.own ⟨0,9⟩ (LI .i32 (poO ⟨c,⟨n,d,a,p,f⟩,l⟩ i)),.d (.int .i64 (poR ⟨c,⟨n,d,a,p,f⟩,l⟩ i).c),.d (.int .i64 (poR ⟨c,⟨n,d,a,p,f⟩,l⟩ i).p.n),.d (.int .i64 (poR ⟨c,⟨n,d,a,p,f⟩,l⟩ i).p.d),.d (.int .i64 (poR ⟨c,⟨n,d,a,p,f⟩,l⟩ i).p.a),.d (.int .i64 (poR ⟨c,⟨n,d,a,p,f⟩,l⟩ i).p.p),.d (.int .i64 (poR ⟨c,⟨n,d,a,p,f⟩,l⟩ i).p.f),.d (.list (LI .i32 (poR ⟨c,⟨n,d,a,p,f⟩,l⟩ i).l)),.d (.int .i64 (poE ⟨c,⟨n,d,a,p,f⟩,l⟩ i))]) [] [(⟨0,9⟩,⟨false,1,LI .i32 (poO ⟨c,⟨n,d,a,p,f⟩,l⟩ i)⟩)]:=by
 refine ZbW (X:=⟨Tryz.prog,tt,Tryz.f164.ntmps,1,fun s=>if s=45 then 1 else 0,(tab [(218,ZlA),(219,Zr4),(220,Zhh),(131,Zes)])⟩) (M:=[(15,[0,0,0,0,0,5149829387557928694202194968567,0,0,0,0,0,5149695196791951470363802583031,0,0,0,0,0,5144878836326606787731773177847,0,0,0]),(22,[0,0,0,0,0,169891958281861993975001811129907265527,0,0,0,0,0,127688969415690915010305936966006325239,0,0])]) (m:=5070602433969483971237825724407) (r0:=.ts [some 2,some 7,none] [.d (.int .i64 (poC ⟨c,⟨n,d,a,p,f⟩,l⟩ i)),.own ⟨1,45⟩ (LI .i32 (poO ⟨c,⟨n,d,a,p,f⟩,l⟩ i)),.d (.int .i64 (poR ⟨c,⟨n,d,a,p,f⟩,l⟩ i).c),.d (.int .i64 (poR ⟨c,⟨n,d,a,p,f⟩,l⟩ i).p.n),.d (.int .i64 (poR ⟨c,⟨n,d,a,p,f⟩,l⟩ i).p.d),.d (.int .i64 (poR ⟨c,⟨n,d,a,p,f⟩,l⟩ i).p.a),.d (.int .i64 (poR ⟨c,⟨n,d,a,p,f⟩,l⟩ i).p.p),.d (.int .i64 (poR ⟨c,⟨n,d,a,p,f⟩,l⟩ i).p.f),.d (.list (LI .i32 (poR ⟨c,⟨n,d,a,p,f⟩,l⟩ i).l)),.d (.int .i64 (poE ⟨c,⟨n,d,a,p,f⟩,l⟩ i))]) (b0:=[]) (k0:=[(⟨1,45⟩,⟨false,1,LI .i32 (poO ⟨c,⟨n,d,a,p,f⟩,l⟩ i)⟩)]) ⟨1,45⟩ ⟨0,9⟩ rfl rfl ⟨Z7,ZI (Za Zot (Za ZmB (Za Zlu (Za Ze9 Zb)))) _ rfl rfl⟩ Zs Tryz.func164 rfl (by decide) (by show (2:Nat)≤_; exact Nat.le_of_ble_eq_true rfl) rfl rfl rfl ⟨by simp [V.has,C.has,ZF],by simp [C.has],by simp⟩ (by decide) (by simp [V.names,C.names,ZJ,ZK]) (by simp [lk]) (by simp [lk]) (by simp [lk]) ?_
 simp (maxSteps:=1000000) only [↓Zn,Ze,Zd,Zm,gSt,gS0,Ya,Yb,↓reduceIte,reduceCtorEq,Yc,Yd,Ye,Yf,Yg,Yj,Yk,Yl,Ym,Yn,Zbg,ZbM,ZaN,Zaa,gE1,Tryz.ntmps164,Tryz.results164,gTT]
 obtain ⟨⟨k1,k2⟩,k3,k4,k5⟩:=ZW (ZA hv).2 hl
 have hp:=(ZA hv).1
 simp only at k1 k2 hp k3
 have hc:(c.toNat:Int)=c:=by omega
 have hi2:(i.toNat:Int)=i:=by omega
 have hm:i*c=((i.toNat*c.toNat:Nat):Int):=by rw [Int.natCast_mul,hc,hi2]
 have hmb:=Nat.mul_le_mul (show i.toNat≤65536 by omega) (show c.toNat≤8 by omega)
 have hd:=ZbG hp
 simp only at hd
 have hpr:=Zdf hp
 have hP:IntKind.i64.wrap (d*65536)=prt ⟨n,d,a,p,f⟩:=rfl
 rw [hP]
 refine ⟨fun h=>?_,fun h=>⟨by kernel_rfl,?_⟩⟩
 ·have hne:adE ⟨n,d,a,p,f⟩ i≠0:=by simpa using h
  exact absurd he0 hne
 have he:adE ⟨n,d,a,p,f⟩ i=0:=by simpa using h
 obtain ⟨he0,hadP⟩:=Zpf he
 rw [hm,IntWalk.i64_in ((i.toNat*c.toNat:Nat):Int) (by omega)]
 refine ⟨⟨by omega,by omega,by omega⟩,?_⟩
 refine Zk (fun g=>⟨[(48,vI .i64 (g:Nat))],[(⟨1,10⟩,[.d (.int .i64 c),.own ⟨1,45⟩ (LI .i32 (ZcQ ⟨c,⟨n,d,a,p,f⟩,l⟩ g))])],[(⟨1,45⟩,⟨false,1,LI .i32 (ZcQ ⟨c,⟨n,d,a,p,f⟩,l⟩ g)⟩)]⟩) (fun g=>g≤i.toNat) (fun g=>i.toNat - g) (·+1) 0 (Nat.zero_le _) ?_ ?_
 ·simp (maxSteps:=1000000) only [↓Zn,Ze,Zd,Zm,gSt,gS0,Ya,Yb,↓reduceIte,reduceCtorEq,Yc,Yd,Ye,Yf,Yg,Yj,Yk,Yl,Ym,Yn,Zbg,ZbM,ZaN,Zaa,gE1,Tryz.ntmps164,Tryz.results164,gTT]
  exact ⟨rfl,rfl,rfl⟩
 intro g hg
 simp (maxSteps:=1000000) only [↓Zn,Ze,Zd,Zm,gSt,gS0,Ya,Yb,↓reduceIte,reduceCtorEq,Yc,Yd,Ye,Yf,Yg,Yj,Yk,Yl,Ym,Yn,Zbg,ZbM,ZaN,Zaa,gE1,Tryz.ntmps164,Tryz.results164,gTT]
 refine ⟨fun h1=>?_,fun h1=>?_⟩
 ·have hgi:(g:Int) < i:=of_decide_eq_true h1
  have hg6:g≤65536:=by omega
  obtain ⟨q1,q2,q3⟩:=at_eq hp hg6
  have q4:=(ZfW hp hg6).2
  simp only at q3
  rw [q3]
  have q5:IntKind.i64.wrap (((qN ⟨n,d,a,p,f⟩ g:Nat):Int)+1)=((qN ⟨n,d,a,p,f⟩ g+1:Nat):Int):=by rw [IntWalk.i64_in _ (by omega)]; rfl
  rw [q5]
  have hl0:0 < l.length:=hne (by omega)
  have hfa:=Zic hv hl hl0 (qN ⟨n,d,a,p,f⟩ g)
  have hfb:=Zic hv hl hl0 (qN ⟨n,d,a,p,f⟩ g+1)
  simp only at hfa hfb
  have hfr0:=(Zbk hp (n:=(g:Int)) (by omega)).2
  have hfr:0≤fAt ⟨n,d,a,p,f⟩ g∧fAt ⟨n,d,a,p,f⟩ g < prt ⟨n,d,a,p,f⟩:=⟨hfr0.1,hfr0.2.1⟩
  refine ⟨by kernel_rfl,⟨hl,hv,hl0,by omega,by omega⟩,⟨hl,hv,hl0,by omega,by omega⟩,?_⟩
  rw [Int.toNat_natCast,Int.toNat_natCast]
  have hA:∀ j,j < c.toNat→(List.take c.toNat (List.drop (frA ⟨c,⟨n,d,a,p,f⟩,l⟩ (qN ⟨n,d,a,p,f⟩ g)) l))[j]?.getD 0=gx ⟨c,⟨n,d,a,p,f⟩,l⟩ (qN ⟨n,d,a,p,f⟩ g) j:=fun j hj=>by
   rw [List.getElem?_take_of_lt hj,List.getElem?_drop]; rfl
  have hB:∀ j,j < c.toNat→(List.take c.toNat (List.drop (frA ⟨c,⟨n,d,a,p,f⟩,l⟩ (qN ⟨n,d,a,p,f⟩ g+1)) l))[j]?.getD 0=gx ⟨c,⟨n,d,a,p,f⟩,l⟩ (qN ⟨n,d,a,p,f⟩ g+1) j:=fun j hj=>by
   rw [List.getElem?_take_of_lt hj,List.getElem?_drop]; rfl
  have hlA:(List.take c.toNat (List.drop (frA ⟨c,⟨n,d,a,p,f⟩,l⟩ (qN ⟨n,d,a,p,f⟩ g)) l)).length=c.toNat:=by rw [List.length_take,List.length_drop]; omega
  have hlB:(List.take c.toNat (List.drop (frA ⟨c,⟨n,d,a,p,f⟩,l⟩ (qN ⟨n,d,a,p,f⟩ g+1)) l)).length=c.toNat:=by rw [List.length_take,List.length_drop]; omega
  generalize List.take c.toNat (List.drop (frA ⟨c,⟨n,d,a,p,f⟩,l⟩ (qN ⟨n,d,a,p,f⟩ g)) l)=FA at *
  generalize List.take c.toNat (List.drop (frA ⟨c,⟨n,d,a,p,f⟩,l⟩ (qN ⟨n,d,a,p,f⟩ g+1)) l)=FB at *
  have hol:=Zd9 ⟨c,⟨n,d,a,p,f⟩,l⟩ g
  simp only at hol
  have hgc:=Nat.mul_le_mul (show g≤65536 by omega) (show c.toNat≤8 by omega)
  refine Zk (fun j=>⟨[(73,vI .i64 (j:Nat))],[(⟨1,10⟩,[.d (.int .i64 c),.own ⟨1,45⟩ (LI .i32 (ZcQ ⟨c,⟨n,d,a,p,f⟩,l⟩ g++Zla ⟨c,⟨n,d,a,p,f⟩,l⟩ g j))])],[(⟨1,45⟩,⟨false,1,LI .i32 (ZcQ ⟨c,⟨n,d,a,p,f⟩,l⟩ g++Zla ⟨c,⟨n,d,a,p,f⟩,l⟩ g j)⟩)]⟩) (fun j=>j≤c.toNat) (fun j=>c.toNat - j) (·+1) 0 (Nat.zero_le _) ?_ ?_
  ·simp (maxSteps:=1000000) only [↓Zn,Ze,Zd,Zm,gSt,gS0,Ya,Yb,↓reduceIte,reduceCtorEq,Yc,Yd,Ye,Yf,Yg,Yj,Yk,Yl,Ym,Yn,Zbg,ZbM,ZaN,Zaa,gE1,Tryz.ntmps164,Tryz.results164,gTT]
   simp [Zla]
  intro j hj
  simp (maxSteps:=1000000) only [↓Zn,Ze,Zd,Zm,gSt,gS0,Ya,Yb,↓reduceIte,reduceCtorEq,Yc,Yd,Ye,Yf,Yg,Yj,Yk,Yl,Ym,Yn,Zbg,ZbM,ZaN,Zaa,gE1,Tryz.ntmps164,Tryz.results164,gTT]
  have hfl:=ZiK ⟨c,⟨n,d,a,p,f⟩,l⟩ g j
  refine ⟨fun h2=>?_,fun h2=>?_⟩
  ·have hjc:j < c.toNat:=by have:=of_decide_eq_true h2; omega
   have sA:=Ze2 k5 (frA ⟨c,⟨n,d,a,p,f⟩,l⟩ (qN ⟨n,d,a,p,f⟩ g)+j)
   have sB:=Ze2 k5 (frA ⟨c,⟨n,d,a,p,f⟩,l⟩ (qN ⟨n,d,a,p,f⟩ g+1)+j)
   have hq:=ZCy (a:=gx ⟨c,⟨n,d,a,p,f⟩,l⟩ (qN ⟨n,d,a,p,f⟩ g) j) (b:=gx ⟨c,⟨n,d,a,p,f⟩,l⟩ (qN ⟨n,d,a,p,f⟩ g+1) j) hpr hfr sA sB
   refine ⟨by kernel_rfl,?_⟩
   rw [hA j hjc,hB j hjc,q2]
   have hs:ZcQ ⟨c,⟨n,d,a,p,f⟩,l⟩ g++Zla ⟨c,⟨n,d,a,p,f⟩,l⟩ g (j+1)=ZcQ ⟨c,⟨n,d,a,p,f⟩,l⟩ g++Zla ⟨c,⟨n,d,a,p,f⟩,l⟩ g j++[btw (gx ⟨c,⟨n,d,a,p,f⟩,l⟩ (qN ⟨n,d,a,p,f⟩ g) j) (gx ⟨c,⟨n,d,a,p,f⟩,l⟩ (qN ⟨n,d,a,p,f⟩ g+1) j) (fAt ⟨n,d,a,p,f⟩ g) (prt ⟨n,d,a,p,f⟩)]:=by
    rw [ZkO,List.append_assoc]; rfl
   rw [hs]
   unfold Zt0 at hq
   refine ⟨by omega,by omega,by decide,by omega,by omega,fun h3=>?_,fun h3=>?_⟩
   ·rw [hq.1 h3]
    exact ⟨by unfold Zab; rw [List.length_append]; omega,⟨(ZY _ (by omega)).symm,rfl,rfl⟩,by omega,by omega⟩
   ·rw [hq.2 h3]
    exact ⟨by unfold Zab; rw [List.length_append]; omega,⟨(ZY _ (by omega)).symm,rfl,rfl⟩,by omega,by omega⟩
  ·have hjc:j=c.toNat:=by have:=of_decide_eq_false h2; omega
   subst hjc
   exact ⟨⟨(ZY _ (by omega)).symm,rfl,rfl⟩,by omega,by omega⟩
 ·have hgi:g=i.toNat:=by have:=of_decide_eq_false h1; omega
  have hq:=ZfW hp (g:=i.toNat) (by omega)
  rw [hi2] at hq
  refine ⟨by kernel_rfl,?_⟩
  have hpp:(adP ⟨n,d,a,p,f⟩ i).p - p=((qN ⟨n,d,a,p,f⟩ i.toNat:Nat):Int):=by rw [hadP,hq.1]; show p+_ - p=_; omega
  rw [hpp]
  have hgone:(if IntKind.i64.wrap (IntKind.i64.wrap ((qN ⟨n,d,a,p,f⟩ i.toNat:Nat):Int)*c) < (l.length:Int) then IntKind.i64.wrap (IntKind.i64.wrap ((qN ⟨n,d,a,p,f⟩ i.toNat:Nat):Int)*c) else (l.length:Int))=((min l.length (qN ⟨n,d,a,p,f⟩ i.toNat*c.toNat):Nat):Int):=by
   have hqc:=Nat.mul_le_mul hq.2 (show c.toNat≤8 by omega)
   rw [IntWalk.i64_in ((qN ⟨n,d,a,p,f⟩ i.toNat:Nat):Int) (by omega)]
   have e:((qN ⟨n,d,a,p,f⟩ i.toNat:Nat):Int)*c=((qN ⟨n,d,a,p,f⟩ i.toNat*c.toNat:Nat):Int):=by rw [Int.natCast_mul,hc]
   rw [e,IntWalk.i64_in _ (by omega)]
   split <;> omega
  rw [hgone,Int.toNat_natCast]
  have htk:∀ m,List.take (l.length - m) (List.drop m l)=List.drop m l:=fun m=>List.take_of_length_le (by rw [List.length_drop]; omega)
  rw [htk]
  refine ⟨⟨by omega,by omega,by omega⟩,by rw [List.length_drop]; omega,by kernel_rfl,?_⟩
  simp [poC,poO,poR,poE,he,hgi]
def ZcC:List V→Zf→Zr→Name→Option Ent
 | [.agg [.d (.int .i64 c),.d (.int .i64 n),.d (.int .i64 d),.d (.int .i64 a),.d (.int .i64 p),.d (.int .i64 f),.d (.list q_l)],.c (.d (.int .i64 i))],[],[],nF=>some ⟨(Zc q_l).length≤1000000∧rsV ⟨c,⟨n,d,a,p,f⟩,(Zc q_l)⟩=true∧(0≤i∧i≤65536)∧(0 < i→0 < (Zc q_l).length)∧poE ⟨c,⟨n,d,a,p,f⟩,(Zc q_l)⟩ i=0∧q_l=LI .i32 (Zc q_l),.ts [some 2,some 7,none] [.d (.int .i64 (poC ⟨c,⟨n,d,a,p,f⟩,(Zc q_l)⟩ i)),.own nF (LI .i32 (poO ⟨c,⟨n,d,a,p,f⟩,(Zc q_l)⟩ i)),.d (.int .i64 (poR ⟨c,⟨n,d,a,p,f⟩,(Zc q_l)⟩ i).c),.d (.int .i64 (poR ⟨c,⟨n,d,a,p,f⟩,(Zc q_l)⟩ i).p.n),.d (.int .i64 (poR ⟨c,⟨n,d,a,p,f⟩,(Zc q_l)⟩ i).p.d),.d (.int .i64 (poR ⟨c,⟨n,d,a,p,f⟩,(Zc q_l)⟩ i).p.a),.d (.int .i64 (poR ⟨c,⟨n,d,a,p,f⟩,(Zc q_l)⟩ i).p.p),.d (.int .i64 (poR ⟨c,⟨n,d,a,p,f⟩,(Zc q_l)⟩ i).p.f),.d (.list (LI .i32 (poR ⟨c,⟨n,d,a,p,f⟩,(Zc q_l)⟩ i).l)),.d (.int .i64 (poE ⟨c,⟨n,d,a,p,f⟩,(Zc q_l)⟩ i))],[],[(nF,⟨false,1,LI .i32 (poO ⟨c,⟨n,d,a,p,f⟩,(Zc q_l)⟩ i)⟩)]⟩
 | _,_,_,_=>none
def Zgt:=And.intro (@ZcC.eq_1) (@ZcC.eq_1)
theorem Zgu:Snd Tryz.prog 164 ZcC:=by
 intro vs b k n e h hn hp
 unfold ZcC at h
 split at h
 ·cases h; obtain ⟨hp0,hp1,hp2,hp3,hp4,hq0⟩:=hp; obtain ⟨_,rfl⟩:=Zq hq0; simp only [Zi,Zo,Zj,Zp] at hp0 hp1 hp2 hp3 hp4 ⊢; exact Spec.ren1 (ZnA _ _ _ _ _ _ _ _ hp0 hp1 hp2 hp3 hp4) 9 (by simp [Za9,V.names,C.names,ZJ,ZK,ZF]) (Nat.le_of_eq hn)
 ·cases h
theorem Zyd (c n d a p f:Int) (l:List Int) (i:Int) (hl:l.length≤1000000) (ht:tkE ⟨c,⟨n,d,a,p,f⟩,l⟩ i=0):Spec Tryz.prog 0 92 [.agg [.d (.int .i64 c),.d (.int .i64 n),.d (.int .i64 d),.d (.int .i64 a),.d (.int .i64 p),.d (.int .i64 f),.d (.list (LI .i32 l))],vI .i64 i] [] [] (.ts [some 2,some 7,none] [.d (.int .i64 (tkC ⟨c,⟨n,d,a,p,f⟩,l⟩ i)),.own ⟨0,9⟩ (LI .i32 (tkO ⟨c,⟨n,d,a,p,f⟩,l⟩ i)),.d (.int .i64 (tkR ⟨c,⟨n,d,a,p,f⟩,l⟩ i).c),.d (.int .i64 (tkR ⟨c,⟨n,d,a,p,f⟩,l⟩ i).p.n),.d (.int .i64 (tkR ⟨c,⟨n,d,a,p,f⟩,l⟩ i).p.d),.d (.int .i64 (tkR ⟨c,⟨n,d,a,p,f⟩,l⟩ i).p.a),.d (.int .i64 (tkR ⟨c,⟨n,d,a,p,f⟩,l⟩ i).p.p),.d (.int .i64 (tkR ⟨c,⟨n,d,a,p,f⟩,l⟩ i).p.f),.d (.list (LI .i32 (tkR ⟨c,⟨n,d,a,p,f⟩,l⟩ i).l)),.d (.int .i64 (tkE ⟨c,⟨n,d,a,p,f⟩,l⟩ i))]) [] [(⟨0,9⟩,⟨false,1,LI .i32 (tkO ⟨c,⟨n,d,a,p,f⟩,l⟩ i)⟩)]:=by
 refine ZbW (X:=⟨Tryz.prog,tt,Tryz.f92.ntmps,1,fun _=>0,(tab [(163,Zcj),(90,ZfI),(164,ZcC)])⟩) (M:=[]) (m:=4294984183) (r0:=.ts [some 2,some 7,none] [.d (.int .i64 (tkC ⟨c,⟨n,d,a,p,f⟩,l⟩ i)),.own ⟨1,37⟩ (LI .i32 (tkO ⟨c,⟨n,d,a,p,f⟩,l⟩ i)),.d (.int .i64 (tkR ⟨c,⟨n,d,a,p,f⟩,l⟩ i).c),.d (.int .i64 (tkR ⟨c,⟨n,d,a,p,f⟩,l⟩ i).p.n),.d (.int .i64 (tkR ⟨c,⟨n,d,a,p,f⟩,l⟩ i).p.d),.d (.int .i64 (tkR ⟨c,⟨n,d,a,p,f⟩,l⟩ i).p.a),.d (.int .i64 (tkR ⟨c,⟨n,d,a,p,f⟩,l⟩ i).p.p),.d (.int .i64 (tkR ⟨c,⟨n,d,a,p,f⟩,l⟩ i).p.f),.d (.list (LI .i32 (tkR ⟨c,⟨n,d,a,p,f⟩,l⟩ i).l)),.d (.int .i64 (tkE ⟨c,⟨n,d,a,p,f⟩,l⟩ i))]) (b0:=[]) (k0:=[(⟨1,37⟩,⟨false,1,LI .i32 (tkO ⟨c,⟨n,d,a,p,f⟩,l⟩ i)⟩)]) ⟨1,37⟩ ⟨0,9⟩ rfl rfl ⟨Z7,ZI (Za Zc3 (Za Zhm (Za Zgu Zb))) _ rfl rfl⟩ Zs Tryz.func92 rfl (by decide) (by show (2:Nat)≤_; exact Nat.le_of_ble_eq_true rfl) rfl rfl rfl ⟨by simp [V.has,C.has,ZF],by simp [C.has],by simp⟩ (by decide) (by simp [V.names,C.names,ZJ,ZK]) (by simp [lk]) (by simp [lk]) (by simp [lk]) ?_
 simp (maxSteps:=1000000) only [↓Zn,Ze,Zd,Zm,gSt,gS0,Ya,Yb,↓reduceIte,reduceCtorEq,Yc,Yd,Ye,Yf,Yg,Yj,Yk,Yl,Ym,Yn,Zc2,Zhl,Zgt,gE1,Tryz.ntmps92,Tryz.results92,gTT]
 refine ⟨hl,fun h=>?_,fun h=>?_⟩
 ·have hne:rcE ⟨c,⟨n,d,a,p,f⟩,l⟩ i≠0:=by simpa using h
  exact absurd (ZCE ht).1 hne
 have he:rcE ⟨c,⟨n,d,a,p,f⟩,l⟩ i=0:=by simpa using h
 obtain ⟨hv,hi⟩:=Zqd he
 obtain ⟨⟨k1,k2⟩,k3,k4,k5⟩:=ZW (ZA hv).2 hl
 have hp:=(ZA hv).1
 simp only at k1 k2 hp k3
 have hN:neE ⟨n,d,a,p,f⟩ i=ned ⟨n,d,a,p,f⟩ i:=by unfold neE; rw [if_pos (ZfA hp hi)]
 have hpo:=ZCE ht
 simp only at hpo
 rw [Zdg k1 (by omega),hN]
 refine ⟨by omega,fun h2=>?_,fun h2=>?_⟩
 ·have:=of_decide_eq_true h2
  omega
 have hne:0 < i→0 < l.length:=fun h0=>by
  have h3:=ZsP hp (n:=i) (by omega)
  have h4:=of_decide_eq_false h2
  rcases Nat.eq_zero_or_pos l.length with h5 | h5
  ·rw [h5,Nat.zero_div] at h4; simp at h4; omega
  ·exact h5
 refine ⟨⟨hl,hv,hi,hne,hpo.2.1⟩,?_⟩
 simp [tkC,tkO,tkR,ht,hpo.2.1,poC,poO]
def Zhq:List V→Zf→Zr→Name→Option Ent
 | [.agg [.d (.int .i64 c),.d (.int .i64 n),.d (.int .i64 d),.d (.int .i64 a),.d (.int .i64 p),.d (.int .i64 f),.d (.list q_l)],.c (.d (.int .i64 i))],[],[],nF=>some ⟨(Zc q_l).length≤1000000∧tkE ⟨c,⟨n,d,a,p,f⟩,(Zc q_l)⟩ i=0∧q_l=LI .i32 (Zc q_l),.ts [some 2,some 7,none] [.d (.int .i64 (tkC ⟨c,⟨n,d,a,p,f⟩,(Zc q_l)⟩ i)),.own nF (LI .i32 (tkO ⟨c,⟨n,d,a,p,f⟩,(Zc q_l)⟩ i)),.d (.int .i64 (tkR ⟨c,⟨n,d,a,p,f⟩,(Zc q_l)⟩ i).c),.d (.int .i64 (tkR ⟨c,⟨n,d,a,p,f⟩,(Zc q_l)⟩ i).p.n),.d (.int .i64 (tkR ⟨c,⟨n,d,a,p,f⟩,(Zc q_l)⟩ i).p.d),.d (.int .i64 (tkR ⟨c,⟨n,d,a,p,f⟩,(Zc q_l)⟩ i).p.a),.d (.int .i64 (tkR ⟨c,⟨n,d,a,p,f⟩,(Zc q_l)⟩ i).p.p),.d (.int .i64 (tkR ⟨c,⟨n,d,a,p,f⟩,(Zc q_l)⟩ i).p.f),.d (.list (LI .i32 (tkR ⟨c,⟨n,d,a,p,f⟩,(Zc q_l)⟩ i).l)),.d (.int .i64 (tkE ⟨c,⟨n,d,a,p,f⟩,(Zc q_l)⟩ i))],[],[(nF,⟨false,1,LI .i32 (tkO ⟨c,⟨n,d,a,p,f⟩,(Zc q_l)⟩ i)⟩)]⟩
 | _,_,_,_=>none
def ZlI:=And.intro (@Zhq.eq_1) (@Zhq.eq_1)
theorem ZlJ:Snd Tryz.prog 92 Zhq:=by
 intro vs b k n e h hn hp
 unfold Zhq at h
 split at h
 ·cases h; obtain ⟨hp0,hp1,hq0⟩:=hp; obtain ⟨_,rfl⟩:=Zq hq0; simp only [Zi,Zo,Zj,Zp] at hp0 hp1 ⊢; exact Spec.ren1 (Zyd _ _ _ _ _ _ _ _ hp0 hp1) 9 (by simp [Za9,V.names,C.names,ZJ,ZK,ZF]) (Nat.le_of_eq hn)
 ·cases h
theorem ZqJ (c n d a p f:Int) (l:List Int) (i:Int) (hl:l.length≤1000000) (ht:fiE ⟨c,⟨n,d,a,p,f⟩,l⟩ i=0):Spec Tryz.prog 0 93 [.agg [.d (.int .i64 c),.d (.int .i64 n),.d (.int .i64 d),.d (.int .i64 a),.d (.int .i64 p),.d (.int .i64 f),.d (.list (LI .i32 l))],vI .i64 i] [] [] (.ts [some 2,some 7,none] [.d (.int .i64 (fiC ⟨c,⟨n,d,a,p,f⟩,l⟩ i)),.own ⟨0,9⟩ (LI .i32 (fiO ⟨c,⟨n,d,a,p,f⟩,l⟩ i)),.d (.int .i64 (fiR ⟨c,⟨n,d,a,p,f⟩,l⟩ i).c),.d (.int .i64 (fiR ⟨c,⟨n,d,a,p,f⟩,l⟩ i).p.n),.d (.int .i64 (fiR ⟨c,⟨n,d,a,p,f⟩,l⟩ i).p.d),.d (.int .i64 (fiR ⟨c,⟨n,d,a,p,f⟩,l⟩ i).p.a),.d (.int .i64 (fiR ⟨c,⟨n,d,a,p,f⟩,l⟩ i).p.p),.d (.int .i64 (fiR ⟨c,⟨n,d,a,p,f⟩,l⟩ i).p.f),.d (.list (LI .i32 (fiR ⟨c,⟨n,d,a,p,f⟩,l⟩ i).l)),.d (.int .i64 (fiE ⟨c,⟨n,d,a,p,f⟩,l⟩ i))]) [] [(⟨0,9⟩,⟨false,1,LI .i32 (fiO ⟨c,⟨n,d,a,p,f⟩,l⟩ i)⟩)]:=by
 refine ZbW (X:=⟨Tryz.prog,tt,Tryz.f93.ntmps,1,fun _=>0,(tab [(163,Zcj),(164,ZcC)])⟩) (M:=[(6,[0,0,0,0,0,210556476788727,0,0,0,0,0,175921860513783,0])]) (m:=140737488424951) (r0:=.ts [some 2,some 7,none] [.d (.int .i64 (fiC ⟨c,⟨n,d,a,p,f⟩,l⟩ i)),.own ⟨1,58⟩ (LI .i32 (fiO ⟨c,⟨n,d,a,p,f⟩,l⟩ i)),.d (.int .i64 (fiR ⟨c,⟨n,d,a,p,f⟩,l⟩ i).c),.d (.int .i64 (fiR ⟨c,⟨n,d,a,p,f⟩,l⟩ i).p.n),.d (.int .i64 (fiR ⟨c,⟨n,d,a,p,f⟩,l⟩ i).p.d),.d (.int .i64 (fiR ⟨c,⟨n,d,a,p,f⟩,l⟩ i).p.a),.d (.int .i64 (fiR ⟨c,⟨n,d,a,p,f⟩,l⟩ i).p.p),.d (.int .i64 (fiR ⟨c,⟨n,d,a,p,f⟩,l⟩ i).p.f),.d (.list (LI .i32 (fiR ⟨c,⟨n,d,a,p,f⟩,l⟩ i).l)),.d (.int .i64 (fiE ⟨c,⟨n,d,a,p,f⟩,l⟩ i))]) (b0:=[]) (k0:=[(⟨1,58⟩,⟨false,1,LI .i32 (fiO ⟨c,⟨n,d,a,p,f⟩,l⟩ i)⟩)]) ⟨1,58⟩ ⟨0,9⟩ rfl rfl ⟨Z7,ZI (Za Zc3 (Za Zgu Zb)) _ rfl rfl⟩ Zs Tryz.func93 rfl (by decide) (by show (2:Nat)≤_; exact Nat.le_of_ble_eq_true rfl) rfl rfl rfl ⟨by simp [V.has,C.has,ZF],by simp [C.has],by simp⟩ (by decide) (by simp [V.names,C.names,ZJ,ZK]) (by simp [lk]) (by simp [lk]) (by simp [lk]) ?_
 simp (maxSteps:=1000000) only [↓Zn,Ze,Zd,Zm,gSt,gS0,Ya,Yb,↓reduceIte,reduceCtorEq,Yc,Yd,Ye,Yf,Yg,Yj,Yk,Yl,Ym,Yn,Zc2,Zgt,gE1,Tryz.ntmps93,Tryz.results93,gTT]
 refine ⟨hl,fun h=>?_,fun h=>⟨by kernel_rfl,?_⟩⟩
 ·have hne:rcE ⟨c,⟨n,d,a,p,f⟩,l⟩ i≠0:=by simpa using h
  have e:fiE ⟨c,⟨n,d,a,p,f⟩,l⟩ i=rcE ⟨c,⟨n,d,a,p,f⟩,l⟩ i:=by unfold fiE; rw [if_pos hne]
  exact absurd (e.symm.trans ht) hne
 have he:rcE ⟨c,⟨n,d,a,p,f⟩,l⟩ i=0:=by simpa using h
 obtain ⟨hv,hi⟩:=Zqd he
 obtain ⟨⟨k1,k2⟩,k3,k4,k5⟩:=ZW (ZA hv).2 hl
 have hp:=(ZA hv).1
 simp only at k1 k2 hp k3 k4
 have hpi:=ZbG hp
 simp only at hpi
 have hpr:=Zdf hp
 have hst:=ZfB hp
 have hlf:=ZAR hv hl
 have hct:=ZuJ hv hl hi.1
 have hP:IntKind.i64.wrap (d*65536)=prt ⟨n,d,a,p,f⟩:=rfl
 have hS:IntKind.i64.wrap (n*IntKind.i64.wrap (65536+a))=stp ⟨n,d,a,p,f⟩:=rfl
 have hL:IntKind.i64.wrap (IntKind.i64.wrap (IntKind.i64.wrap ((l.length:Int).tdiv c)*prt ⟨n,d,a,p,f⟩) - f)=ZgV ⟨c,⟨n,d,a,p,f⟩,l⟩:=by
  have e1:ZgV ⟨c,⟨n,d,a,p,f⟩,l⟩=((l.length / c.toNat:Nat):Int)*prt ⟨n,d,a,p,f⟩ - f:=rfl
  rw [e1] at hlf
  rw [Zdg k1 (by omega),e1]
  generalize ((l.length / c.toNat:Nat):Int)*prt ⟨n,d,a,p,f⟩=m at *
  rw [IntWalk.i64_in m (by omega),IntWalk.i64_in (m - f) (by omega)]
 rw [hP,hS,hL]
 have e:fiE ⟨c,⟨n,d,a,p,f⟩,l⟩ i=poE ⟨c,⟨n,d,a,p,f⟩,l⟩ (cnt ⟨c,⟨n,d,a,p,f⟩,l⟩ i):=by unfold fiE; rw [if_neg (by rw [he]; decide)]
 have hpo:poE ⟨c,⟨n,d,a,p,f⟩,l⟩ (cnt ⟨c,⟨n,d,a,p,f⟩,l⟩ i)=0:=by rw [← e]; exact ht
 
 refine ⟨by omega,fun h2=>?_,fun h2=>?_⟩
 ·have h3:=of_decide_eq_true h2
  have hcn:(if IntKind.i64.wrap ((IntKind.i64.wrap (IntKind.i64.wrap (ZgV ⟨c,⟨n,d,a,p,f⟩,l⟩+stp ⟨n,d,a,p,f⟩) - 1)).tdiv (stp ⟨n,d,a,p,f⟩)) < i then IntKind.i64.wrap ((IntKind.i64.wrap (IntKind.i64.wrap (ZgV ⟨c,⟨n,d,a,p,f⟩,l⟩+stp ⟨n,d,a,p,f⟩) - 1)).tdiv (stp ⟨n,d,a,p,f⟩)) else i)=cnt ⟨c,⟨n,d,a,p,f⟩,l⟩ i:=by
   have e1:cnt ⟨c,⟨n,d,a,p,f⟩,l⟩ i=min i ((ZgV ⟨c,⟨n,d,a,p,f⟩,l⟩+stp ⟨n,d,a,p,f⟩ - 1) / stp ⟨n,d,a,p,f⟩):=by unfold cnt; rw [if_pos h3]
   rw [e1,IntWalk.i64_in (ZgV ⟨c,⟨n,d,a,p,f⟩,l⟩+stp ⟨n,d,a,p,f⟩) (by omega),IntWalk.i64_in (ZgV ⟨c,⟨n,d,a,p,f⟩,l⟩+stp ⟨n,d,a,p,f⟩ - 1) (by omega),Int.tdiv_eq_ediv_of_nonneg (by omega)]
   have h4:0≤(ZgV ⟨c,⟨n,d,a,p,f⟩,l⟩+stp ⟨n,d,a,p,f⟩ - 1) / stp ⟨n,d,a,p,f⟩:=Int.ediv_nonneg (by omega) (by omega)
   have h5:(ZgV ⟨c,⟨n,d,a,p,f⟩,l⟩+stp ⟨n,d,a,p,f⟩ - 1) / stp ⟨n,d,a,p,f⟩≤ZgV ⟨c,⟨n,d,a,p,f⟩,l⟩+stp ⟨n,d,a,p,f⟩ - 1:=Int.ediv_le_self _ (by omega)
   generalize (ZgV ⟨c,⟨n,d,a,p,f⟩,l⟩+stp ⟨n,d,a,p,f⟩ - 1) / stp ⟨n,d,a,p,f⟩=q at *
   rw [IntWalk.i64_in q (by omega)]
   split <;> omega
  rw [hcn]
  refine ⟨by omega,⟨hl,hv,⟨hct.1,by omega⟩,hct.2.2,hpo⟩,?_⟩
  simp [fiC,fiO,fiR,ht,hpo,poC,poO]
 ·have e1:cnt ⟨c,⟨n,d,a,p,f⟩,l⟩ i=0:=by unfold cnt; rw [if_neg (of_decide_eq_false h2)]
  rw [e1] at hpo
  refine ⟨⟨hl,hv,hpo⟩,?_⟩
  simp [fiC,fiO,fiR,ht,hpo,poC,poO,e1]
def Zez:List V→Zf→Zr→Name→Option Ent
 | [.agg [.d (.int .i64 c),.d (.int .i64 n),.d (.int .i64 d),.d (.int .i64 a),.d (.int .i64 p),.d (.int .i64 f),.d (.list q_l)],.c (.d (.int .i64 i))],[],[],nF=>some ⟨(Zc q_l).length≤1000000∧fiE ⟨c,⟨n,d,a,p,f⟩,(Zc q_l)⟩ i=0∧q_l=LI .i32 (Zc q_l),.ts [some 2,some 7,none] [.d (.int .i64 (fiC ⟨c,⟨n,d,a,p,f⟩,(Zc q_l)⟩ i)),.own nF (LI .i32 (fiO ⟨c,⟨n,d,a,p,f⟩,(Zc q_l)⟩ i)),.d (.int .i64 (fiR ⟨c,⟨n,d,a,p,f⟩,(Zc q_l)⟩ i).c),.d (.int .i64 (fiR ⟨c,⟨n,d,a,p,f⟩,(Zc q_l)⟩ i).p.n),.d (.int .i64 (fiR ⟨c,⟨n,d,a,p,f⟩,(Zc q_l)⟩ i).p.d),.d (.int .i64 (fiR ⟨c,⟨n,d,a,p,f⟩,(Zc q_l)⟩ i).p.a),.d (.int .i64 (fiR ⟨c,⟨n,d,a,p,f⟩,(Zc q_l)⟩ i).p.p),.d (.int .i64 (fiR ⟨c,⟨n,d,a,p,f⟩,(Zc q_l)⟩ i).p.f),.d (.list (LI .i32 (fiR ⟨c,⟨n,d,a,p,f⟩,(Zc q_l)⟩ i).l)),.d (.int .i64 (fiE ⟨c,⟨n,d,a,p,f⟩,(Zc q_l)⟩ i))],[],[(nF,⟨false,1,LI .i32 (fiO ⟨c,⟨n,d,a,p,f⟩,(Zc q_l)⟩ i)⟩)]⟩
 | _,_,_,_=>none
def Zoa:=And.intro (@Zez.eq_1) (@Zez.eq_1)
theorem Zob:Snd Tryz.prog 93 Zez:=by
 intro vs b k n e h hn hp
 unfold Zez at h
 split at h
 ·cases h; obtain ⟨hp0,hp1,hq0⟩:=hp; obtain ⟨_,rfl⟩:=Zq hq0; simp only [Zi,Zo,Zj,Zp] at hp0 hp1 ⊢; exact Spec.ren1 (ZqJ _ _ _ _ _ _ _ _ hp0 hp1) 9 (by simp [Za9,V.names,C.names,ZJ,ZK,ZF]) (Nat.le_of_eq hn)
 ·cases h
theorem ZCl (k:Int) (y:List Int) (i:Int) (hb:(y.length:Int)≤i*k∧i*k≤524288):Spec Tryz.prog 0 94 [.agg [.d (.int .i64 k),.own ⟨0,0⟩ (LI .i32 y)],vI .i64 i] [] [(⟨0,0⟩,⟨false,1,(LI .i32 y)⟩)] (.agg [.d (.int .i64 k),.own ⟨0,0⟩ (LI .i32 (y++List.replicate (i*k - (y.length:Int)).toNat 0))]) [] [(⟨0,0⟩,⟨false,1,LI .i32 (y++List.replicate (i*k - (y.length:Int)).toNat 0)⟩)]:=by
 refine spec_of_E (X:=⟨Tryz.prog,tt,Tryz.f94.ntmps,1,fun _=>0,(tab [])⟩) (M:=[(1,[0,0,0,0,0,130135,0,0,0,0,0,98327,0])]) (m:=23) rfl rfl ⟨Z7,ZI Zb _ rfl rfl⟩ Zs Tryz.func94 rfl (by decide) (by show (2:Nat)≤_; exact Nat.le_of_ble_eq_true rfl) ⟨by simp [V.has,C.has,ZF],by simp [C.has],by simp⟩ ?_
 simp (maxSteps:=1000000) only [↓Zn,Ze,Zd,Zm,gSt,gS0,Ya,Yb,↓reduceIte,reduceCtorEq,Yc,Yd,Ye,Yf,Yg,Yj,Yk,Yl,Ym,Yn,gE1,Tryz.ntmps94,Tryz.results94,gTT]
 rw [IntWalk.i64_in (i*k) (by omega),IntWalk.i64_in (i*k - (y.length:Int)) (by omega)]
 refine ⟨⟨by omega,by omega,by omega⟩,by unfold Zab; rw [List.length_replicate]; omega,rfl,rfl⟩
def ZjS:List V→Zf→Zr→Name→Option Ent
 | [.agg [.d (.int .i64 k),.own n0 q_y],.c (.d (.int .i64 i))],[],[(j0,⟨false,1,q_y_1⟩)],_=>some ⟨q_y_1=q_y∧(((Zc q_y).length:Int)≤i*k∧i*k≤524288)∧n0.lv≤1∧j0=n0∧q_y=LI .i32 (Zc q_y),.agg [.d (.int .i64 k),.own n0 (LI .i32 ((Zc q_y)++List.replicate (i*k - ((Zc q_y).length:Int)).toNat 0))],[],[(n0,⟨false,1,LI .i32 ((Zc q_y)++List.replicate (i*k - ((Zc q_y).length:Int)).toNat 0)⟩)]⟩
 | _,_,_,_=>none
def ZjT:=And.intro (@ZjS.eq_1) (@ZjS.eq_1)
theorem ZjU:Snd Tryz.prog 94 ZjS:=by
 intro vs b k n e h hn hp
 unfold ZjS at h
 split at h
 ·cases h; obtain ⟨rfl,hp0,hl0,rfl,hq0⟩:=hp; obtain ⟨_,rfl⟩:=Zq hq0; simp only [Zi,Zo,Zj,Zp] at hp0 ⊢; exact Spec.ren1 (ZCl _ _ _ hp0) 0 (by simp [Za9,V.names,C.names,ZJ,ZK,ZF]) hl0
 ·cases h
theorem ZBR (c d:Int) (a b:List Int) (hl:a.length+b.length≤1000000):Spec Tryz.prog 0 18 [.agg [.d (.int .i64 c),.d (.list (LI .i32 a))],.agg [.d (.int .i64 d),.d (.list (LI .i32 b))]] [] [] (.agg [.d (.int .i64 c),.d (.list (LI .i32 (a++b)))]) [] []:=by
 refine sE (md:=fun _=>0) (L:=[]) [] 31 Zb Tryz.func18 rfl rfl rfl ?_
 simp (maxSteps:=1000000) only [↓Zn,Ze,Zd,Zm,gSt,gS0,Ya,Yb,↓reduceIte,reduceCtorEq,Yc,Yd,Ye,Yf,Yg,Yj,Yk,Yl,Ym,Yn,gE1,Tryz.ntmps18,Tryz.results18,gTT]
 exact ⟨by kernel_rfl,by unfold Zab; omega,by unfold Zab; omega⟩
def Zoi:List V→Zf→Zr→Name→Option Ent
 | [.agg [.d (.int .i64 c),.d (.list q_a)],.agg [.d (.int .i64 d),.d (.list q_b)]],[],[],_=>some ⟨(Zc q_a).length+(Zc q_b).length≤1000000∧q_a=LI .i32 (Zc q_a)∧q_b=LI .i32 (Zc q_b),.agg [.d (.int .i64 c),.d (.list (LI .i32 ((Zc q_a)++(Zc q_b))))],[],[]⟩
 | _,_,_,_=>none
def Zcd:=And.intro (@Zoi.eq_1) (@Zoi.eq_1)
theorem ZyF:Snd Tryz.prog 18 Zoi:=by
 intro vs b k n e h hn hp
 unfold Zoi at h
 split at h
 ·cases h; obtain ⟨hp0,hq0,hq1⟩:=hp; obtain ⟨_,rfl⟩:=Zq hq0; obtain ⟨_,rfl⟩:=Zq hq1; simp only [Zi,Zo,Zj,Zp] at hp0 ⊢; exact (ZBR _ _ _ _ hp0).lift rfl _
 ·cases h
def Zc7 (k:Int) (l:List Int) (f t:Nat):List Int:=(l.drop (f*k.toNat)).take ((t - f)*k.toNat)
theorem ZD5 (k:Int) (l:List Int) (f t:Int) (hl:l.length≤1000000) (hk:1≤k∧k≤8) (hf:0≤f∧f≤t) (ht:t.toNat*k.toNat≤l.length):Spec Tryz.prog 0 67 [.agg [.d (.int .i64 k),.d (.list (LI .i32 l))],vI .i64 f,vI .i64 t] [] [] (.agg [.d (.int .i64 k),.d (.list (LI .i32 (Zc7 k l f.toNat t.toNat)))]) [] []:=by
 refine spec_of_E (X:=⟨Tryz.prog,tt,Tryz.f67.ntmps,1,fun _=>0,(tab [])⟩) (M:=[(1,[0,0,0,0,0,4193615,0,0,0,0,0,3949903,0,0,0,0])]) (m:=79) rfl rfl ⟨Z7,ZI Zb _ rfl rfl⟩ Zs Tryz.func67 rfl (by decide) (by show (3:Nat)≤_; exact Nat.le_of_ble_eq_true rfl) ⟨by simp [V.has,C.has,ZF],by simp [C.has],by simp⟩ ?_
 simp (maxSteps:=1000000) only [↓Zn,Ze,Zd,Zm,gSt,gS0,Ya,Yb,↓reduceIte,reduceCtorEq,Yc,Yd,Ye,Yf,Yg,Yj,Yk,Yl,Ym,Yn,gE1,Tryz.ntmps67,Tryz.results67,gTT]
 have hkm:(k.toNat:Int)=k:=by omega
 have hfm:(f.toNat:Int)=f:=by omega
 have htm:(t.toNat:Int)=t:=by omega
 have hle:f.toNat*k.toNat≤t.toNat*k.toNat:=Nat.mul_le_mul_right _ (by omega)
 have c1:f*k=((f.toNat*k.toNat:Nat):Int):=by rw [Int.natCast_mul,hkm,hfm]
 have c2:t*k=((t.toNat*k.toNat:Nat):Int):=by rw [Int.natCast_mul,hkm,htm]
 have hsub:(t.toNat - f.toNat)*k.toNat=t.toNat*k.toNat - f.toNat*k.toNat:=Nat.sub_mul ..
 refine ⟨by kernel_rfl,?_⟩
 unfold Zc7
 rw [c1,c2,hsub]
 generalize f.toNat*k.toNat=x at *
 generalize t.toNat*k.toNat=y at *
 rw [IntWalk.i64_in (x:Int) (by omega),IntWalk.i64_in (y:Int) (by omega)]
 refine ⟨by omega,?_,rfl⟩
 have:(List.take ((y:Int).toNat - (x:Int).toNat) (List.drop (x:Int).toNat l)).length≤l.length:=by rw [List.length_take,List.length_drop]; omega
 unfold Zab
 omega
def ZvV:List V→Zf→Zr→Name→Option Ent
 | [.agg [.d (.int .i64 k),.d (.list q_l)],.c (.d (.int .i64 f)),.c (.d (.int .i64 t))],[],[],_=>some ⟨(Zc q_l).length≤1000000∧(1≤k∧k≤8)∧(0≤f∧f≤t)∧t.toNat*k.toNat≤(Zc q_l).length∧q_l=LI .i32 (Zc q_l),.agg [.d (.int .i64 k),.d (.list (LI .i32 (Zc7 k (Zc q_l) f.toNat t.toNat)))],[],[]⟩
 | _,_,_,_=>none
def Zfa:=And.intro (@ZvV.eq_1) (@ZvV.eq_1)
theorem Zt4:Snd Tryz.prog 67 ZvV:=by
 intro vs b k n e h hn hp
 unfold ZvV at h
 split at h
 ·cases h; obtain ⟨hp0,hp1,hp2,hp3,hq0⟩:=hp; obtain ⟨_,rfl⟩:=Zq hq0; simp only [Zi,Zo,Zj,Zp] at hp0 hp1 hp2 hp3 ⊢; exact (ZD5 _ _ _ _ hp0 hp1 hp2 hp3).lift rfl _
 ·cases h
def cqP (n:Nat) (p:List UInt8):Nat→Nat
 | 0=>0
 | i+1=>if cqP n p i+(p[i]?.getD 0).toNat % 8≤n then cqP n p i+(p[i]?.getD 0).toNat % 8 else cqP n p i
def cqL (k:Int) (l:List Int) (n:Nat) (p:List UInt8):Nat→List (Int×List Int)
 | 0=>[]
 | i+1=>if cqP n p i+(p[i]?.getD 0).toNat % 8≤n then cqL k l n p i++[(k,Zc7 k l (cqP n p i) (cqP n p i+(p[i]?.getD 0).toNat % 8))] else cqL k l n p i
theorem ZAa (n:Nat) (p:List UInt8):∀ i,cqP n p i≤n
 | 0=>Nat.zero_le _
 | i+1=>by have:=ZAa n p i; unfold cqP; split <;> omega
theorem ZsA (k:Int) (l:List Int) (n:Nat) (p:List UInt8):∀ i,(cqL k l n p i).length≤i
 | 0=>Nat.le_refl _
 | i+1=>by
  have:=ZsA k l n p i
  unfold cqL
  split
  ·rw [List.length_append]; simp; omega
  ·omega
theorem ZBV (k:Int) (l:List Int) (p:List UInt8) (hl:l.length≤1000000) (hb:ZaL k l=true) (hp:p.length≤1000):Spec Tryz.prog 0 31 [.agg [.d (.int .i64 k),.d (.list (LI .i32 l))],vL (LB p)] [] [] (vL (LK (cqL k l (l.length / k.toNat) p p.length++[(k,Zc7 k l (cqP (l.length / k.toNat) p p.length) (l.length / k.toNat))]))) [] []:=by
 refine spec_of_E (X:=⟨Tryz.prog,tt,Tryz.f31.ntmps,1,fun _=>0,(tab [(20,ZdT),(67,ZvV)])⟩) (M:=[]) (m:=67233527) rfl rfl ⟨Z7,ZI (Za ZfF (Za Zt4 Zb)) _ rfl rfl⟩ Zs Tryz.func31 rfl (by decide) (by show (2:Nat)≤_; exact Nat.le_of_ble_eq_true rfl) ⟨by simp [V.has,C.has,ZF],by simp [C.has],by simp⟩ ?_
 simp (maxSteps:=1000000) only [↓Zn,Ze,Zd,Zm,gSt,gS0,Ya,Yb,↓reduceIte,reduceCtorEq,Yc,Yd,Ye,Yf,Yg,Yj,Yk,Yl,Ym,Yn,ZZ,Zfa,gE1,Tryz.ntmps31,Tryz.results31,gTT]
 obtain ⟨hc,_⟩:=ZfP hb
 obtain ⟨k1,k2,k3⟩:=Zd4 hc
 refine ⟨hl,?_⟩
 rw [if_pos hb]
 generalize hn:l.length / k.toNat=n at *
 have hnl:n≤l.length:=by rw [← hn]; exact Nat.div_le_self ..
 refine Ze5 5 2 ⟨1,99⟩ rfl (by simp (maxSteps:=1000000) only [↓Zn,Ze,Zd,Zm,gSt,gS0,Ya,Yb,↓reduceIte,reduceCtorEq,Yc,Yd,Ye,Yf,Yg,Yj,Yk,Yl,Ym,Yn,ZZ,Zfa,gE1,Tryz.ntmps31,Tryz.results31,gTT]) (Nat.le_refl _) ?_
 simp (maxSteps:=1000000) only [↓Zn,Ze,Zd,Zm,gSt,gS0,Ya,Yb,↓reduceIte,reduceCtorEq,Yc,Yd,Ye,Yf,Yg,Yj,Yk,Yl,Ym,Yn,ZZ,Zfa,gE1,Tryz.ntmps31,Tryz.results31,gTT]
 refine Zk (fun i=>⟨[(15,vI .i64 (i:Nat)),(6,vI .i64 ((cqP n p i:Nat):Int)),(5,.c (.own ⟨1,99⟩ (LK (cqL k l n p i))))],[],[(⟨1,99⟩,⟨false,2,LK (cqL k l n p i)⟩)]⟩) (fun i=>i≤p.length) (fun i=>p.length - i) (·+1) 0 (Nat.zero_le _) ?_ ?_
 ·simp (maxSteps:=1000000) only [↓Zn,Ze,Zd,Zm,gSt,gS0,Ya,Yb,↓reduceIte,reduceCtorEq,Yc,Yd,Ye,Yf,Yg,Yj,Yk,Yl,Ym,Yn,ZZ,Zfa,gE1,Tryz.ntmps31,Tryz.results31,gTT]
  exact ⟨⟨rfl,rfl,rfl⟩,rfl⟩
 intro i hi
 simp (maxSteps:=1000000) only [↓Zn,Ze,Zd,Zm,gSt,gS0,Ya,Yb,↓reduceIte,reduceCtorEq,Yc,Yd,Ye,Yf,Yg,Yj,Yk,Yl,Ym,Yn,ZZ,Zfa,gE1,Tryz.ntmps31,Tryz.results31,gTT]
 have hb8:(IntKind.i64.wrap (((p[i]?.getD 0).toNat:Nat):Int)).tmod 8=(((p[i]?.getD 0).toNat % 8:Nat):Int):=by
  have:=(p[i]?.getD 0).toNat_lt
  rw [IntWalk.i64_in _ (by omega),Int.tmod_eq_emod_of_nonneg (by omega)]
  omega
 have hb7:(p[i]?.getD 0).toNat % 8 < 8:=Nat.mod_lt _ (by decide)
 have hq:=ZAa n p i
 have hql:=ZsA k l n p i
 have hP:cqP n p (i+1)=if cqP n p i+(p[i]?.getD 0).toNat % 8≤n then cqP n p i+(p[i]?.getD 0).toNat % 8 else cqP n p i:=rfl
 have hL:cqL k l n p (i+1)=if cqP n p i+(p[i]?.getD 0).toNat % 8≤n then cqL k l n p i++[(k,Zc7 k l (cqP n p i) (cqP n p i+(p[i]?.getD 0).toNat % 8))] else cqL k l n p i:=rfl
 rw [hb8]
 generalize (p[i]?.getD 0).toNat % 8=b at *
 rw [IntWalk.i64_in (((cqP n p i:Nat):Int)+(b:Int)) (by omega)]
 have en:((cqP n p i:Nat):Int)+(b:Int)=((cqP n p i+b:Nat):Int):=by omega
 rw [en,Int.toNat_natCast]
 refine ⟨fun h1=>⟨by have:=of_decide_eq_true h1; omega,by decide,fun h2=>?_,fun h2=>?_⟩,fun h1=>?_⟩
 ·have h3:cqP n p i+b≤n:=by have:=of_decide_eq_true h2; omega
  have h4:=of_decide_eq_true h1
  rw [hP,hL,if_pos h3,if_pos h3]
  refine ⟨⟨hl,⟨k1,k2⟩,by omega,?_⟩,by unfold Zab; omega,⟨⟨(ZY _ (by omega)).symm,rfl,rfl⟩,rfl⟩,by omega,by omega⟩
  rw [k3]
  exact Nat.mul_le_mul_right _ h3
 ·have h3:¬ (cqP n p i+b≤n):=by have:=of_decide_eq_false h2; omega
  have h4:=of_decide_eq_true h1
  rw [hP,hL,if_neg h3,if_neg h3]
  exact ⟨⟨⟨(ZY _ (by omega)).symm,rfl,rfl⟩,rfl⟩,by omega,by omega⟩
 ·have h4:=of_decide_eq_false h1
  have hi2:p.length=i:=by omega
  rw [hi2]
  exact ⟨⟨hl,⟨k1,k2⟩,by omega,by omega⟩,by unfold Zab; omega,rfl⟩
def Zon:List V→Zf→Zr→Name→Option Ent
 | [.agg [.d (.int .i64 k),.d (.list q_l)],.c (.d (.list q_p))],[],[],_=>some ⟨(Zc q_l).length≤1000000∧ZaL k (Zc q_l)=true∧(bys q_p).length≤1000∧q_l=LI .i32 (Zc q_l)∧q_p=LB (bys q_p),vL (LK (cqL k (Zc q_l) ((Zc q_l).length / k.toNat) (bys q_p) (bys q_p).length++[(k,Zc7 k (Zc q_l) (cqP ((Zc q_l).length / k.toNat) (bys q_p) (bys q_p).length) ((Zc q_l).length / k.toNat))])),[],[]⟩
 | _,_,_,_=>none
def Zcf:=And.intro (@Zon.eq_1) (@Zon.eq_1)
theorem ZyM:Snd Tryz.prog 31 Zon:=by
 intro vs b k n e h hn hp
 unfold Zon at h
 split at h
 ·cases h; obtain ⟨hp0,hp1,hp2,hq0,hq1⟩:=hp; obtain ⟨_,rfl⟩:=Zq hq0; obtain ⟨_,rfl⟩:=Zpc hq1; simp only [Zi,Zo,Zj,Zp] at hp0 hp1 hp2 ⊢; exact (ZBV _ _ _ hp0 hp1 hp2).lift rfl _
 ·cases h
def Zpr (k:Int) (l:List Int) (n:Nat):Nat→List (Int×List Int)→Prop
 | q,[]=>q=n
 | q,x::xs=>∃ m,q≤m∧m≤n∧x=(k,Zc7 k l q m)∧Zpr k l n m xs
theorem chain_snoc {k:Int} {l:List Int} {n m:Nat} (h:m≤n):∀ {xs:List (Int×List Int)} {q:Nat},Zpr k l m q xs→Zpr k l n q (xs++[(k,Zc7 k l m n)])
 | [],q,e=>⟨n,by cases e; exact h,Nat.le_refl _,by cases e; rfl,rfl⟩
 | x::xs,q,⟨m',h1,h2,h3,h4⟩=>⟨m',h1,by omega,h3,chain_snoc h h4⟩
theorem ZuH (k:Int) (l:List Int) (n:Nat) (p:List UInt8):∀ i,Zpr k l (cqP n p i) 0 (cqL k l n p i)
 | 0=>rfl
 | i+1=>by
  have ih:=ZuH k l n p i
  show Zpr k l (if _ then _ else _) 0 (if _ then _ else _)
  split
  ·exact chain_snoc (Nat.le_add_right _ _) ih
  ·exact ih
theorem Zsu (k:Int) (l:List Int) (n:Nat) (p:List UInt8) (i:Nat):Zpr k l n 0 (cqL k l n p i++[(k,Zc7 k l (cqP n p i) n)]) :=
 chain_snoc (ZAa n p i) (ZuH k l n p i)
theorem ZmY {k:Int} {l:List Int} {f t:Nat} (h:t*k.toNat≤l.length):(Zc7 k l f t).length=(t - f)*k.toNat:=by
 unfold Zc7
 rw [List.length_take,List.length_drop,Nat.sub_mul]
 omega
theorem ZDl {k:Int} {l:List Int} {f t j:Nat} (hj:j < (t - f)*k.toNat):(Zc7 k l f t)[j]?=l[f*k.toNat+j]?:=by
 unfold Zc7
 rw [List.getElem?_take_of_lt hj,List.getElem?_drop]
end Go.Vam
