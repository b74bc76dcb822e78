/- A part of the proof. Conditions: none. -/
import Derived.Test.YtmpbpijnbmpbhaaGreatSDq
set_option linter.unusedVariables false
set_option linter.defProp false
set_option linter.unusedSimpArgs false
set_option maxRecDepth 40000
set_option maxHeartbeats 4000000
namespace Go.Vam
open Go.Proofs
open Nat renaming reduceShiftRight→Ya,reduceMod→Yb,reduceEqDiff→Yc,reduceLT→Yd,reduceLeDiff→Ye,reduceAdd→Yf,reduceMul→Yg
open Int renaming reduceLE→Yj,reduceLT→Yk,reduceNeg→Yl,reduceAdd→Ym,reduceToNat→Yn
def isG (n:Int):Bool:=decide (0≤n) && decide (n≤262144)
def ZgP (s n:Int):Int:=if (decide (s < -8388608) || decide (8388607 < s) || !isG n)=true then 0 else ZAm ((s*n+32768) / 65536)
def Zcl (a b c d:Int):Bool:=isG a && isG b && decide (0≤c) && decide (c≤4194304) && decide (0≤d) && decide (d≤c)
def ZvW (a b c d i:Int):Int:=if c - d≤i then b else a+(b - a)*(d+i) / c
theorem ZqN {a b c d:Int} (h:Zcl a b c d=true):(0≤a∧a≤262144)∧(0≤b∧b≤262144)∧0≤c∧c≤4194304∧0≤d∧d≤c:=by
 simp only [Zcl,isG,Bool.and_eq_true,decide_eq_true_eq] at h
 omega
theorem ZGy {n:Int} (h:isG n=true):0≤n∧n≤262144:=by simpa [isG] using h
theorem ZGm {n c:Int} (hc:0 < c):(if n.tmod c < 0 then n.tdiv c - 1 else n.tdiv c)=n / c:=by
 rw [Int.tmod_eq_emod,Int.tdiv_eq_ediv]
 have h1:=Int.emod_nonneg n (show c≠0 by omega)
 have h2:=Int.emod_lt_of_pos n hc
 have h3:(c.natAbs:Int)=c:=by omega
 have h4:c.sign=1:=Int.sign_eq_one_of_pos hc
 by_cases h:0≤n∨c ∣ n
 ·rw [if_pos h,if_pos h,if_neg (by omega)]; omega
 ·rw [if_neg h,if_neg h,h3,if_pos (by omega),h4]; omega
theorem ZCP (n:Int):Spec Tryz.prog 0 261 [vI .i64 n] [] [] (vB (isG n)) [] []:=by
 refine sE (md:=fun _=>0) (L:=[]) [] 5 Zb Tryz.func261 rfl rfl rfl ?_
 simp (maxSteps:=1000000) only [↓Zo,Ze,Zd,Zn,gSt,gS0,Ya,Yb,↓reduceIte,reduceCtorEq,Yc,Yd,Ye,Yf,Yg,Yj,Yk,Yl,Ym,Yn,gE1,gE2,gE3,Tryz.ntmps261,Tryz.results261,gTT]
 rfl
def Zu6:List V→Zf→Zw→Name→Option Ent
 | [.c (.d (.int .i64 n))],[],[],_=>some ⟨True,vB (isG n),[],[]⟩
 | _,_,_,_=>none
def Ztj:=And.intro (@Zu6.eq_1) (@Zu6.eq_1)
theorem Ztk:Snd Tryz.prog 261 Zu6:=by
 intro vs b k n e h hn hp
 unfold Zu6 at h
 split at h
 ·cases h; exact (ZCP _).lift rfl _
 ·cases h
theorem Zsz (s n:Int):Spec Tryz.prog 0 251 [vI .i32 s,vI .i64 n] [] [] (vI .i32 (ZgP s n)) [] []:=by
 refine sE (md:=fun _=>0) (L:=[(261,Zu6),(76,ZrH)]) [] 32787 (Za Ztk (Za Zmv Zb)) Tryz.func251 rfl rfl rfl ?_
 simp (maxSteps:=1000000) only [↓Zo,Ze,Zd,Zn,gSt,gS0,Ya,Yb,↓reduceIte,reduceCtorEq,Yc,Yd,Ye,Yf,Yg,Yj,Yk,Yl,Ym,Yn,Ztj,ZaI,gE1,gE2,gE3,Tryz.ntmps251,Tryz.results251,gTT]
 refine ⟨fun h=>by simp only [ZgP,h,if_true],fun h=>?_⟩
 have hf:¬ ((decide (s < -8388608) || decide (8388607 < s) || !isG n)=true):=by rw [h]; decide
 simp only [ZgP,if_neg hf]
 simp only [Bool.or_eq_false_iff,decide_eq_false_iff_not,Bool.not_eq_false'] at h
 have hn:=ZGy h.2
 have hb:=ZlR (x:=s) (y:=n) (A:=8388608) (B:=262144) (by omega) (by omega) hn.1 hn.2 (by decide)
 rw [ZK1,IntWalk.i64_in s (by omega),IntWalk.i64_in (s*n) (by omega),IntWalk.i64_in _ (by omega)]
def Zgg:List V→Zf→Zw→Name→Option Ent
 | [.c (.d (.int .i32 s)),.c (.d (.int .i64 n))],[],[],_=>some ⟨True,vI .i32 (ZgP s n),[],[]⟩
 | _,_,_,_=>none
def Zcw:=And.intro (@Zgg.eq_1) (@Zgg.eq_1)
theorem Zra:Snd Tryz.prog 251 Zgg:=by
 intro vs b k n e h hn hp
 unfold Zgg at h
 split at h
 ·cases h; exact (Zsz _ _).lift rfl _
 ·cases h
theorem Zp6 (a b c d:Int):Spec Tryz.prog 0 249 [.agg [.d (.int .i64 a),.d (.int .i64 b),.d (.int .i64 c),.d (.int .i64 d)]] [] [] (vB (Zcl a b c d)) [] []:=by
 refine sE (md:=fun _=>0) (L:=[(261,Zu6)]) [(1,[0,0,0,0,0,1099511627655,0,0,0,0,0,1099511619591,0,0,0,0,0,1099511103495,0,0,0,0,0,1099478073351,0,0,0,0,0,1097364144135,0,0,0,0,0,826781204487,0,0])] 7 (Za Ztk Zb) Tryz.func249 rfl rfl rfl ?_
 simp (maxSteps:=1000000) only [↓Zo,Ze,Zd,Zn,gSt,gS0,Ya,Yb,↓reduceIte,reduceCtorEq,Yc,Yd,Ye,Yf,Yg,Yj,Yk,Yl,Ym,Yn,Ztj,gE1,gE2,gE3,Tryz.ntmps249,Tryz.results249,gTT]
 rfl
def Zde:List V→Zf→Zw→Name→Option Ent
 | [.agg [.d (.int .i64 a),.d (.int .i64 b),.d (.int .i64 c),.d (.int .i64 d)]],[],[],_=>some ⟨True,vB (Zcl a b c d),[],[]⟩
 | _,_,_,_=>none
def Zbt:=And.intro (@Zde.eq_1) (@Zde.eq_1)
theorem ZhQ:Snd Tryz.prog 249 Zde:=by
 intro vs b k n e h hn hp
 unfold Zde at h
 split at h
 ·cases h; exact (Zp6 _ _ _ _).lift rfl _
 ·cases h
theorem Zw6 (a b c d i:Int) (hv:Zcl a b c d=true) (hi:0≤i):Spec Tryz.prog 0 250 [.agg [.d (.int .i64 a),.d (.int .i64 b),.d (.int .i64 c),.d (.int .i64 d)],vI .i64 i] [] [] (vI .i64 (ZvW a b c d i)) [] []:=by
 refine sE (md:=fun _=>0) (L:=[]) [(3,[0,0,0,0,0,4402326831223,0,0,0,0,0,4401301323895,0,0])] 4398046543991 Zb Tryz.func250 rfl rfl rfl ?_
 simp (maxSteps:=1000000) only [↓Zo,Ze,Zd,Zn,gSt,gS0,Ya,Yb,↓reduceIte,reduceCtorEq,Yc,Yd,Ye,Yf,Yg,Yj,Yk,Yl,Ym,Yn,gE1,gE2,gE3,Tryz.ntmps250,Tryz.results250,gTT]
 obtain ⟨ha,hb,hc0,hc,hd0,hd⟩:=ZqN hv
 have ew:IntKind.i64.wrap (c - d)=c - d:=IntWalk.i64_in _ (by omega)
 rw [ew]
 refine ⟨fun h=>by simp only [ZvW,if_pos (of_decide_eq_true h)],fun h=>?_⟩
 have hlt:¬ (c - d≤i):=of_decide_eq_false h
 have hcp:0 < c:=by omega
 have hm:=ZlR (x:=b - a) (y:=d+i) (A:=262144) (B:=4194304) (by omega) (by omega) (by omega) (by omega) (by decide)
 rw [IntWalk.i64_in (b - a) (by omega),IntWalk.i64_in (d+i) (by omega),IntWalk.i64_in ((b - a)*(d+i)) (by omega)]
 have hf:=ZGm (n:=(b - a)*(d+i)) hcp
 have hq:-262144≤(b - a)*(d+i) / c∧(b - a)*(d+i) / c≤262144:=by
  have h2:=ZlR (x:=b - a) (y:=d+i) (A:=262144) (B:=c) (by omega) (by omega) (by omega) (by omega) (by decide)
  exact ⟨Int.le_ediv_of_mul_le hcp (by omega),Int.ediv_le_of_le_mul hcp (by omega)⟩
 simp only [ZvW,if_neg hlt]
 refine ⟨by omega,by omega,fun h=>?_,fun h=>?_⟩
 ·rw [if_pos (of_decide_eq_true h)] at hf
  rw [IntWalk.i64_in (((b - a)*(d+i)).tdiv c) (by omega),hf,IntWalk.i64_in ((b - a)*(d+i) / c) (by omega),IntWalk.i64_in (a+(b - a)*(d+i) / c) (by omega)]
 ·rw [if_neg (of_decide_eq_false h)] at hf
  rw [hf,IntWalk.i64_in ((b - a)*(d+i) / c) (by omega),IntWalk.i64_in (a+(b - a)*(d+i) / c) (by omega)]
def Zju:List V→Zf→Zw→Name→Option Ent
 | [.agg [.d (.int .i64 a),.d (.int .i64 b),.d (.int .i64 c),.d (.int .i64 d)],.c (.d (.int .i64 i))],[],[],_=>some ⟨Zcl a b c d=true∧0≤i,vI .i64 (ZvW a b c d i),[],[]⟩
 | _,_,_,_=>none
def Zdu:=And.intro (@Zju.eq_1) (@Zju.eq_1)
theorem Zvw:Snd Tryz.prog 250 Zju:=by
 intro vs b k n e h hn hp
 unfold Zju at h
 split at h
 ·cases h; obtain ⟨hp0,hp1⟩:=hp; exact (Zw6 _ _ _ _ _ hp0 hp1).lift rfl _
 ·cases h
theorem ZsA (a b c d:Int):Spec Tryz.prog 0 222 [.agg [.d (.int .i64 a),.d (.int .i64 b),.d (.int .i64 c),.d (.int .i64 d)]] [] [] (vB (Zcl a b c d)) [] []:=by
 refine sE (md:=fun _=>0) (L:=[(249,Zde)]) [] 7 (Za ZhQ Zb) Tryz.func222 rfl rfl rfl ?_
 simp (maxSteps:=1000000) only [↓Zo,Ze,Zd,Zn,gSt,gS0,Ya,Yb,↓reduceIte,reduceCtorEq,Yc,Yd,Ye,Yf,Yg,Yj,Yk,Yl,Ym,Yn,Zbt,gE1,gE2,gE3,Tryz.ntmps222,Tryz.results222,gTT]
def Zgh:List V→Zf→Zw→Name→Option Ent
 | [.agg [.d (.int .i64 a),.d (.int .i64 b),.d (.int .i64 c),.d (.int .i64 d)]],[],[],_=>some ⟨True,vB (Zcl a b c d),[],[]⟩
 | _,_,_,_=>none
def Zrc:=And.intro (@Zgh.eq_1) (@Zgh.eq_1)
theorem Zrd:Snd Tryz.prog 222 Zgh:=by
 intro vs b k n e h hn hp
 unfold Zgh at h
 split at h
 ·cases h; exact (ZsA _ _ _ _).lift rfl _
 ·cases h
def gV (a b c d k:Int) (l:List Int) (j:Nat):Int:=ZgP (l[j]?.getD 0) (ZvW a b c d ((j / k.toNat:Nat):Int))
def gO (a b c d k:Int) (l:List Int) (n:Nat):List Int:=(List.range n).map (gV a b c d k l)
def grE (a b c d k:Int) (l:List Int):Int:=if Zcl a b c d=true then (if ZaR k l=true then 0 else 1) else 1
def grO (a b c d k:Int) (l:List Int):List Int:=if grE a b c d k l=0 then gO a b c d k l l.length else []
def grC (a b c d k:Int) (l:List Int):Int:=if grE a b c d k l=0 then k else 0
def grF (a b c d k:Int) (l:List Int):Int:=if grE a b c d k l=0 then a else 0
def grT (a b c d k:Int) (l:List Int):Int:=if grE a b c d k l=0 then b else 0
def grN (a b c d k:Int) (l:List Int):Int:=if grE a b c d k l=0 then c else 0
def grA (a b c d k:Int) (l:List Int):Int:=if grE a b c d k l=0 then (if d+((l.length / k.toNat:Nat):Int) < c then d+((l.length / k.toNat:Nat):Int) else c) else 0
theorem Zzz (a b c d k:Int) (l:List Int) (n:Nat):(gO a b c d k l n).length=n:=by simp [gO]
theorem ZEL (a b c d k:Int) (l:List Int) (n:Nat):gO a b c d k l (n+1)=gO a b c d k l n++[gV a b c d k l n]:=by simp [gO,List.range_succ]
theorem ZAL (a b c d k:Int) (l:List Int) (hl:l.length≤1000000):Spec Tryz.prog 0 225 [.agg [.d (.int .i64 a),.d (.int .i64 b),.d (.int .i64 c),.d (.int .i64 d)],.agg [.d (.int .i64 k),.d (.list (LI .i32 l))]] [] [] (.tup [.agg [.int .i64 (grC a b c d k l),.list (LI .i32 (grO a b c d k l))],.agg [.int .i64 (grF a b c d k l),.int .i64 (grT a b c d k l),.int .i64 (grN a b c d k l),.int .i64 (grA a b c d k l)],.int .i64 (grE a b c d k l)]) [] []:=by
 refine spec_of_E (X:=⟨Tryz.prog,tt,Tryz.f225.ntmps,1,fun s=>if s=31 then 1 else 0,(tab [(249,Zde),(62,Za8),(250,Zju),(251,Zgg)])⟩) (M:=[(10,[0,0,0,0,0,2303735795187462143,0,0,0,0,0,2161731669436936191,0,0]),(16,[0,0,0,0,0,19078362752525036100268031,0,0,0,0,0,0])]) (m:=2161731669436936191) rfl rfl ⟨Zah,ZU (Za ZhQ (Za ZaF (Za Zvw (Za Zra Zb)))) _ rfl rfl⟩ ZB Tryz.func225 rfl (by decide) (by show (2:Nat)≤_; exact Nat.le_of_ble_eq_true rfl) ⟨by simp [V.has,C.has,ZH],by simp [C.has],by simp⟩ ?_
 simp (maxSteps:=1000000) only [↓Zo,Ze,Zd,Zn,gSt,gS0,Ya,Yb,↓reduceIte,reduceCtorEq,Yc,Yd,Ye,Yf,Yg,Yj,Yk,Yl,Ym,Yn,Zbt,ZJ,Zdu,Zcw,gE1,gE2,gE3,Tryz.ntmps225,Tryz.results225,gTT]
 refine ⟨fun _=>hl,fun h=>?_,fun h=>⟨by kernel_rfl,by omega,?_,?_⟩⟩
 ·have e:grE a b c d k l=1:=by
   unfold grE
   by_cases h1:Zcl a b c d=true
   ·by_cases h2:ZaR k l=true
    ·simp [h1,h2] at h
    ·simp [h1,h2]
   ·simp [h1]
  simp [grC,grO,grF,grT,grN,grA,e,Zy]
 ·have hb:ZaR k l=true:=by simp at h; exact h.2
  have:=ZfN (ZjV hb).1
  omega
 have hv:Zcl a b c d=true:=by simp at h; exact h.1
 have hb:ZaR k l=true:=by simp at h; exact h.2
 have hE:grE a b c d k l=0:=by simp [grE,hv,hb]
 obtain ⟨hc,hsm⟩:=ZjV hb
 obtain ⟨k1,k2,k3⟩:=ZfN hc
 have hvi:=ZqN hv
 have hkm:(k.toNat:Int)=k:=by omega
 have hdiv:(l.length:Int).tdiv k=((l.length / k.toNat:Nat):Int):=by
  have e:k=(k.toNat:Int):=by omega
  rw [Int.tdiv_eq_ediv_of_nonneg (by omega),e]
  exact (Int.natCast_ediv ..).symm
 have hzl:l.length / k.toNat≤l.length:=Nat.div_le_self ..
 rw [hdiv]
 generalize hz:l.length / k.toNat=z at *
 rw [IntWalk.i64_in (z:Int) (by omega)]
 refine Zl (fun n=>⟨[(40,vI .i64 (n:Nat))],[(⟨1,8⟩,[.d (.int .i64 k),.own ⟨1,31⟩ (LI .i32 (gO a b c d k l (n*k.toNat)))])],[(⟨1,31⟩,⟨false,1,LI .i32 (gO a b c d k l (n*k.toNat))⟩)]⟩) (fun n=>n≤z) (fun n=>z - n) (·+1) 0 (Nat.zero_le _) ?_ ?_
 ·simp (maxSteps:=1000000) only [↓Zo,Ze,Zd,Zn,gSt,gS0,Ya,Yb,↓reduceIte,reduceCtorEq,Yc,Yd,Ye,Yf,Yg,Yj,Yk,Yl,Ym,Yn,Zbt,ZJ,Zdu,Zcw,gE1,gE2,gE3,Tryz.ntmps225,Tryz.results225,gTT]
  simp [gO]
 intro n hn
 simp (maxSteps:=1000000) only [↓Zo,Ze,Zd,Zn,gSt,gS0,Ya,Yb,↓reduceIte,reduceCtorEq,Yc,Yd,Ye,Yf,Yg,Yj,Yk,Yl,Ym,Yn,Zbt,ZJ,Zdu,Zcw,gE1,gE2,gE3,Tryz.ntmps225,Tryz.results225,gTT]
 have hol:=Zzz a b c d k l (n*k.toNat)
 refine ⟨fun h1=>?_,fun h1=>?_⟩
 ·have hlt:n < z:=by have:=of_decide_eq_true h1; omega
  have hle:(n+1)*k.toNat≤l.length:=by
   have:=Nat.mul_le_mul_right k.toNat (show n+1≤z from hlt)
   omega
  have he:(n+1)*k.toNat=n*k.toNat+k.toNat:=by rw [Nat.add_mul,Nat.one_mul]
  have c1:(n:Int)*k=((n*k.toNat:Nat):Int):=by rw [Int.natCast_mul,hkm]
  have c2:((n:Int)+1)*k=(((n+1)*k.toNat:Nat):Int):=by rw [Int.natCast_mul,hkm]; rfl
  rw [IntWalk.i64_in ((n:Int)+1) (by omega),c1,c2,IntWalk.i64_in ((n*k.toNat:Nat):Int) (by omega),IntWalk.i64_in (((n+1)*k.toNat:Nat):Int) (by omega)]
  have e2:((((n+1)*k.toNat:Nat):Int)).toNat - (((n*k.toNat:Nat):Int)).toNat=k.toNat:=by omega
  have e3:(((n*k.toNat:Nat):Int)).toNat=n*k.toNat:=by omega
  refine ⟨⟨hv,by omega⟩,by omega,?_⟩
  rw [e2,e3]
  have hfl:(List.take k.toNat (List.drop (n*k.toNat) l)).length=k.toNat:=by rw [List.length_take,List.length_drop]; omega
  have hfj:∀ j,j < k.toNat→(List.take k.toNat (List.drop (n*k.toNat) l))[j]?=l[n*k.toNat+j]?:=fun j hj=>by
   rw [List.getElem?_take_of_lt hj,List.getElem?_drop]
  generalize List.take k.toNat (List.drop (n*k.toNat) l)=F at *
  refine Zl (fun j=>⟨[(59,vI .i64 (j:Nat))],[(⟨1,8⟩,[.d (.int .i64 k),.own ⟨1,31⟩ (LI .i32 (gO a b c d k l (n*k.toNat+j)))])],[(⟨1,31⟩,⟨false,1,LI .i32 (gO a b c d k l (n*k.toNat+j))⟩)]⟩) (fun j=>j≤F.length) (fun j=>F.length - j) (·+1) 0 (Nat.zero_le _) ?_ ?_
  ·simp (maxSteps:=1000000) only [↓Zo,Ze,Zd,Zn,gSt,gS0,Ya,Yb,↓reduceIte,reduceCtorEq,Yc,Yd,Ye,Yf,Yg,Yj,Yk,Yl,Ym,Yn,Zbt,ZJ,Zdu,Zcw,gE1,gE2,gE3,Tryz.ntmps225,Tryz.results225,gTT]
   exact ⟨rfl,rfl,rfl⟩
  intro j hj
  simp (maxSteps:=1000000) only [↓Zo,Ze,Zd,Zn,gSt,gS0,Ya,Yb,↓reduceIte,reduceCtorEq,Yc,Yd,Ye,Yf,Yg,Yj,Yk,Yl,Ym,Yn,Zbt,ZJ,Zdu,Zcw,gE1,gE2,gE3,Tryz.ntmps225,Tryz.results225,gTT]
  have holj:=Zzz a b c d k l (n*k.toNat+j)
  refine ⟨fun h2=>?_,fun h2=>?_⟩
  ·have hlj:j < F.length:=by have:=of_decide_eq_true h2; omega
   have hll:n*k.toNat+j < l.length:=by omega
   have hg:F[j]?.getD 0=l[n*k.toNat+j]:=by rw [hfj j (by omega),List.getElem?_eq_getElem hll]; rfl
   have hs:=Zse (List.all_eq_true.1 hsm _ (List.getElem_mem hll))
   have hdv:(n*k.toNat+j) / k.toNat=n:=by
    rw [Nat.add_comm,Nat.add_mul_div_right _ _ (by omega),Nat.div_eq_of_lt (by omega),Nat.zero_add]
   have e4:ZgP (F[j]?.getD 0) (ZvW a b c d (n:Int))=gV a b c d k l (n*k.toNat+j):=by
    unfold gV
    rw [hdv,hg,List.getElem?_eq_getElem hll]
    rfl
   rw [e4,show n*k.toNat+(j+1)=n*k.toNat+j+1 from rfl,ZEL]
   exact ⟨by omega,by kernel_rfl,by unfold Zag; omega,⟨(Zaz _ (by omega)).symm,rfl,rfl⟩,by omega,by omega⟩
  ·have hjl:j=k.toNat:=by have:=of_decide_eq_false h2; omega
   rw [hjl,he]
   exact ⟨⟨(Zaz _ (by omega)).symm,rfl,rfl⟩,by omega,by omega⟩
 ·have hnz:n=z:=by have:=of_decide_eq_false h1; omega
  refine ⟨by kernel_rfl,?_⟩
  rw [hnz,← k3,IntWalk.i64_in (d+(z:Int)) (by omega)]
  simp only [grC,grO,grF,grT,grN,grA,hE,if_true,hz]
def ZnT:List V→Zf→Zw→Name→Option Ent
 | [.agg [.d (.int .i64 a),.d (.int .i64 b),.d (.int .i64 c),.d (.int .i64 d)],.agg [.d (.int .i64 k),.d (.list q_l)]],[],[],_=>some ⟨(Zc q_l).length≤1000000∧q_l=LI .i32 (Zc q_l),.tup [.agg [.int .i64 (grC a b c d k (Zc q_l)),.list (LI .i32 (grO a b c d k (Zc q_l)))],.agg [.int .i64 (grF a b c d k (Zc q_l)),.int .i64 (grT a b c d k (Zc q_l)),.int .i64 (grN a b c d k (Zc q_l)),.int .i64 (grA a b c d k (Zc q_l))],.int .i64 (grE a b c d k (Zc q_l))],[],[]⟩
 | _,_,_,_=>none
def ZxH:=And.intro (@ZnT.eq_1) (@ZnT.eq_1)
theorem ZxI:Snd Tryz.prog 225 ZnT:=by
 intro vs b k n e h hn hp
 unfold ZnT at h
 split at h
 ·cases h; obtain ⟨hp0,hq0⟩:=hp; obtain ⟨_,rfl⟩:=Zu hq0; simp only [Zi,Zp,Zj,Zq] at hp0 ⊢; exact (ZAL _ _ _ _ _ _ hp0).lift rfl _
 ·cases h
def Zav (t r g:Int):Bool:=decide (1≤t) && decide (t≤8388607) && decide (1≤r) && decide (r≤65536) && decide (0≤g) && decide (g≤65536)
theorem ZkQ {t r g:Int} (h:Zav t r g=true):(1≤t∧t≤8388607)∧(1≤r∧r≤65536)∧0≤g∧g≤65536:=by
 simp only [Zav,Bool.and_eq_true,decide_eq_true_eq] at h
 omega
theorem ZBx {t r g:Int} (h:(1≤t∧t≤8388607)∧(1≤r∧r≤65536)∧0≤g∧g≤65536):Zav t r g=true:=by
 simp only [Zav,Bool.and_eq_true,decide_eq_true_eq]
 omega
def Zc4 (t p:Int):Int:=if (decide (t < 1) || decide (8388607 < t) || decide (p < 0) || decide (1099511627776 < p))=true then 0 else if p≤t then 65536 else t*65536 / p
def ZFT (t r:Int):Int:=if Zav t r 65536=true then t else 0
def ZFS (t r:Int):Int:=if Zav t r 65536=true then r else 0
def ZFR (t r:Int):Int:=if Zav t r 65536=true then 65536 else 0
def ZKx (t r:Int):Int:=if Zav t r 65536=true then 0 else 2
theorem ZsG (t r g:Int):Spec Tryz.prog 0 168 [.agg [.d (.int .i64 t),.d (.int .i64 r),.d (.int .i64 g)]] [] [] (vB (Zav t r g)) [] []:=by
 refine sE (md:=fun _=>0) (L:=[]) [(1,[0,0,0,0,0,2147483463,0,0,0,0,0,2147469319,0,0,0,0,0,2146435079,0,0,0,0,0,2080374791,0,0,0,0,0])] 7 Zb Tryz.func168 rfl rfl rfl ?_
 simp (maxSteps:=1000000) only [↓Zo,Ze,Zd,Zn,gSt,gS0,Ya,Yb,↓reduceIte,reduceCtorEq,Yc,Yd,Ye,Yf,Yg,Yj,Yk,Yl,Ym,Yn,gE1,gE2,gE3,Tryz.ntmps168,Tryz.results168,gTT]
 rfl
def Zgm:List V→Zf→Zw→Name→Option Ent
 | [.agg [.d (.int .i64 t),.d (.int .i64 r),.d (.int .i64 g)]],[],[],_=>some ⟨True,vB (Zav t r g),[],[]⟩
 | _,_,_,_=>none
def Zbs:=And.intro (@Zgm.eq_1) (@Zgm.eq_1)
theorem Zrh:Snd Tryz.prog 168 Zgm:=by
 intro vs b k n e h hn hp
 unfold Zgm at h
 split at h
 ·cases h; exact (ZsG _ _ _).lift rfl _
 ·cases h
theorem Zqa (t r g:Int):Spec Tryz.prog 0 89 [.agg [.d (.int .i64 t),.d (.int .i64 r),.d (.int .i64 g)]] [] [] (vB (Zav t r g)) [] []:=by
 refine sE (md:=fun _=>0) (L:=[]) [(1,[0,0,0,0,0,2147483463,0,0,0,0,0,2147469319,0,0,0,0,0,2146435079,0,0,0,0,0,2080374791,0,0,0,0,0])] 7 Zb Tryz.func89 rfl rfl rfl ?_
 simp (maxSteps:=1000000) only [↓Zo,Ze,Zd,Zn,gSt,gS0,Ya,Yb,↓reduceIte,reduceCtorEq,Yc,Yd,Ye,Yf,Yg,Yj,Yk,Yl,Ym,Yn,gE1,gE2,gE3,Tryz.ntmps89,Tryz.results89,gTT]
 rfl
def Zes:List V→Zf→Zw→Name→Option Ent
 | [.agg [.d (.int .i64 t),.d (.int .i64 r),.d (.int .i64 g)]],[],[],_=>some ⟨True,vB (Zav t r g),[],[]⟩
 | _,_,_,_=>none
def ZnY:=And.intro (@Zes.eq_1) (@Zes.eq_1)
theorem ZnZ:Snd Tryz.prog 89 Zes:=by
 intro vs b k n e h hn hp
 unfold Zes at h
 split at h
 ·cases h; exact (Zqa _ _ _).lift rfl _
 ·cases h
theorem ZwB (t r:Int):Spec Tryz.prog 0 33 [vI .i64 t,vI .i64 r] [] [] (.tup [.agg [.int .i64 (ZFT t r),.int .i64 (ZFS t r),.int .i64 (ZFR t r)],.int .i64 (ZKx t r)]) [] []:=by
 refine sE (md:=fun _=>0) (L:=[(89,Zes)]) [] 4211 (Za ZnZ Zb) Tryz.func33 rfl rfl rfl ?_
 simp (maxSteps:=1000000) only [↓Zo,Ze,Zd,Zn,gSt,gS0,Ya,Yb,↓reduceIte,reduceCtorEq,Yc,Yd,Ye,Yf,Yg,Yj,Yk,Yl,Ym,Yn,ZnY,gE1,gE2,gE3,Tryz.ntmps33,Tryz.results33,gTT]
 refine ⟨fun h=>?_,fun h=>?_⟩
 ·simp [ZFT,ZFS,ZFR,ZKx,h]
 ·have h:Zav t r 65536=true:=by simpa using h
  simp [ZFT,ZFS,ZFR,ZKx,h]
def Zhj:List V→Zf→Zw→Name→Option Ent
 | [.c (.d (.int .i64 t)),.c (.d (.int .i64 r))],[],[],_=>some ⟨True,.tup [.agg [.int .i64 (ZFT t r),.int .i64 (ZFS t r),.int .i64 (ZFR t r)],.int .i64 (ZKx t r)],[],[]⟩
 | _,_,_,_=>none
def Zam:=And.intro (@Zhj.eq_1) (@Zhj.eq_1)
theorem Zlg:Snd Tryz.prog 33 Zhj:=by
 intro vs b k n e h hn hp
 unfold Zhj at h
 split at h
 ·cases h; exact (ZwB _ _).lift rfl _
 ·cases h
theorem Zp9 (t p:Int):Spec Tryz.prog 0 170 [vI .i64 t,vI .i64 p] [] [] (vI .i64 (Zc4 t p)) [] []:=by
 refine sE (md:=fun _=>0) (L:=[]) [(1,[0,0,0,0,0,2095155,0,0,0,0,0,2031667,0,0,0])] 1048627 Zb Tryz.func170 rfl rfl rfl ?_
 simp (maxSteps:=1000000) only [↓Zo,Ze,Zd,Zn,gSt,gS0,Ya,Yb,↓reduceIte,reduceCtorEq,Yc,Yd,Ye,Yf,Yg,Yj,Yk,Yl,Ym,Yn,gE1,gE2,gE3,Tryz.ntmps170,Tryz.results170,gTT]
 refine ⟨fun h=>by simp only [Zc4,h,if_true],fun h=>?_⟩
 have hf:¬ ((decide (t < 1) || decide (8388607 < t) || decide (p < 0) || decide (1099511627776 < p))=true):=by rw [h]; decide
 simp only [Zc4,if_neg hf]
 simp only [Bool.or_eq_false_iff,decide_eq_false_iff_not] at h
 refine ⟨fun h2=>if_pos (of_decide_eq_true h2),fun h2=>?_⟩
 have h3:=of_decide_eq_false h2
 rw [if_neg h3]
 have hq:0≤t*65536 / p∧t*65536 / p≤t*65536:=⟨Int.ediv_nonneg (by omega) (by omega),Int.ediv_le_self _ (by omega)⟩
 rw [IntWalk.i64_in (t*65536) (by omega),Int.tdiv_eq_ediv_of_nonneg (by omega),IntWalk.i64_in (t*65536 / p) (by omega)]
 exact ⟨by omega,rfl⟩
def Zer:List V→Zf→Zw→Name→Option Ent
 | [.c (.d (.int .i64 t)),.c (.d (.int .i64 p))],[],[],_=>some ⟨True,vI .i64 (Zc4 t p),[],[]⟩
 | _,_,_,_=>none
def Zb5:=And.intro (@Zer.eq_1) (@Zer.eq_1)
theorem ZnW:Snd Tryz.prog 170 Zer:=by
 intro vs b k n e h hn hp
 unfold Zer at h
 split at h
 ·cases h; exact (Zp9 _ _).lift rfl _
 ·cases h
def ZFd (p x:Int):Int:=if (if p < x then x else p) < -x then -x else (if p < x then x else p)
def Zz3 (f:List Int) (n:Nat):Int:=(f.take n).foldl ZFd 0
def ZFa (f:List Int):Int:=f.foldl ZFd 0
def ZKR (a b:Int):Int:=if b < a then b else a
def Zdx (t r g:Int) (f:List Int):Int:=ZKR (Zc4 t (ZFa f)) (g+r)
theorem Zv4 {t p:Int}:0≤Zc4 t p∧Zc4 t p≤65536:=by
 unfold Zc4
 split
 ·omega
 ·rename_i h
  simp only [Bool.or_eq_true,decide_eq_true_eq,not_or] at h
  split
  ·omega
  ·refine ⟨Int.ediv_nonneg (by omega) (by omega),?_⟩
   refine Int.ediv_le_of_le_mul (by omega) ?_
   have:=Int.mul_le_mul_of_nonneg_right (show t≤p by omega) (show (0:Int)≤65536 by decide)
   omega
theorem Zt3 {t r g:Int} (h:Zav t r g=true) (f:List Int):0≤Zdx t r g f∧Zdx t r g f≤65536:=by
 have:=ZkQ h
 have:=Zv4 (t:=t) (p:=ZFa f)
 unfold Zdx ZKR
 omega
def Zxg (g x:Int):Int:=ZAm ((x*g).tdiv 65536)
theorem ZFB {x A:Int} (h1:-A≤x) (h2:x≤A):-A≤x.tdiv 65536∧x.tdiv 65536≤A:=by
 rcases Int.le_total 0 x with h | h
 ·rw [Int.tdiv_eq_ediv_of_nonneg h]; omega
 ·have e:x.tdiv 65536=-((-x) / 65536):=by
   rw [← Int.tdiv_eq_ediv_of_nonneg (by omega),Int.neg_tdiv,Int.neg_neg]
  rw [e]; omega
theorem ZGc {x g:Int} (hx:-1099511627776≤x∧x≤1099511627776) (hg:0≤g∧g≤65536):ZAm (IntKind.i64.wrap ((IntKind.i64.wrap (x*g)).tdiv 65536))=Zxg g x:=by
 have h1:=ZlR (x:=x) (y:=g) (A:=1099511627776) (B:=65536) hx.1 hx.2 hg.1 hg.2 (by decide)
 have h2:=ZFB h1.1 h1.2
 rw [IntWalk.i64_in (x*g) (by omega),IntWalk.i64_in _ (by omega)]
 rfl
theorem ZsF (f o:List Int) (t r g c:Int) (hf:∀ x∈f,-1099511627776≤x∧x≤1099511627776) (hl:o.length+f.length≤1000000) (hv:Zav t r g=true):Spec Tryz.prog 0 169 [vL (LI .i64 f),.c (.lp ⟨0,0⟩ 0),.c (.lp ⟨0,1⟩ 0)] [(⟨0,0⟩,[.d (.int .i64 t),.d (.int .i64 r),.d (.int .i64 g)]),(⟨0,1⟩,[.d (.int .i64 c),.own ⟨0,2⟩ (LI .i32 o)])] [(⟨0,2⟩,⟨false,1,(LI .i32 o)⟩)] (.tup []) [(⟨0,0⟩,[.d (.int .i64 t),.d (.int .i64 r),.d (.int .i64 (Zdx t r g f))]),(⟨0,1⟩,[.d (.int .i64 c),.own ⟨0,2⟩ (LI .i32 (o++f.map (Zxg (Zdx t r g f))))])] [(⟨0,2⟩,⟨false,1,LI .i32 (o++f.map (Zxg (Zdx t r g f)))⟩)]:=by
 refine spec_of_E (X:=⟨Tryz.prog,tt,Tryz.f169.ntmps,1,fun _=>0,(tab [(170,Zer),(76,ZrH)])⟩) (M:=[(6,[0,0,0,0,0,68669153111,0,0,0,0,0,0]),(10,[0,0,0,0,0,554768040730455,0,0,0,0,0,0])]) (m:=64424517463) rfl rfl ⟨Zah,ZU (Za ZnW (Za Zmv Zb)) _ rfl rfl⟩ ZB Tryz.func169 rfl (by decide) (by show (3:Nat)≤_; exact Nat.le_of_ble_eq_true rfl) ⟨by simp [V.has,C.has,ZH],by simp [C.has],by simp⟩ ?_
 simp (maxSteps:=1000000) only [↓Zo,Ze,Zd,Zn,gSt,gS0,Ya,Yb,↓reduceIte,reduceCtorEq,Yc,Yd,Ye,Yf,Yg,Yj,Yk,Yl,Ym,Yn,Zb5,ZaI,gE1,gE2,gE3,Tryz.ntmps169,Tryz.results169,gTT]
 refine Zl (fun n=>⟨[(11,vI .i64 (n:Nat)),(4,vI .i64 (Zz3 f n))],[],[]⟩) (fun n=>n≤f.length) (fun n=>f.length - n) (·+1) 0 (Nat.zero_le _) ?_ ?_
 ·simp (maxSteps:=1000000) only [↓Zo,Ze,Zd,Zn,gSt,gS0,Ya,Yb,↓reduceIte,reduceCtorEq,Yc,Yd,Ye,Yf,Yg,Yj,Yk,Yl,Ym,Yn,Zb5,ZaI,gE1,gE2,gE3,Tryz.ntmps169,Tryz.results169,gTT]
  exact ⟨rfl,rfl⟩
 intro n hn
 simp (maxSteps:=1000000) only [↓Zo,Ze,Zd,Zn,gSt,gS0,Ya,Yb,↓reduceIte,reduceCtorEq,Yc,Yd,Ye,Yf,Yg,Yj,Yk,Yl,Ym,Yn,Zb5,ZaI,gE1,gE2,gE3,Tryz.ntmps169,Tryz.results169,gTT]
 refine ⟨fun h=>?_,fun h=>⟨by kernel_rfl,?_⟩⟩
 ·have hlt:n < f.length:=by have:=of_decide_eq_true h; omega
  have hx:=hf _ (List.getElem_mem hlt)
  have hg:f[n]?.getD 0=f[n]:=by rw [List.getElem?_eq_getElem hlt]; rfl
  refine ⟨by omega,⟨(Zaz _ (by omega)).symm,?_⟩,by omega,by omega⟩
  rw [hg,IntWalk.i64_in (0 - f[n]) (by omega),Int.zero_sub]
  simp only [Zz3,List.take_add_one,List.getElem?_eq_getElem hlt,List.foldl_append,Option.toList_some,List.foldl_cons,List.foldl_nil,ZFd]
  rfl
 have hnl:n=f.length:=by have:=of_decide_eq_false h; omega
 have hG:(if IntKind.i64.wrap (g+r) < Zc4 t (Zz3 f n) then IntKind.i64.wrap (g+r) else Zc4 t (Zz3 f n))=Zdx t r g f:=by
  have:=ZkQ hv
  rw [IntWalk.i64_in (g+r) (by omega),hnl]
  simp only [Zdx,ZKR,Zz3,ZFa,List.take_length]
  rfl
 rw [hG]
 have hGin:0≤Zdx t r g f∧Zdx t r g f≤65536:=Zt3 hv f
 refine Zl (fun n=>⟨[(34,vI .i64 (n:Nat))],[(⟨0,1⟩,[.d (.int .i64 c),.own ⟨0,2⟩ (LI .i32 (o++(f.take n).map (Zxg (Zdx t r g f))))])],[(⟨0,2⟩,⟨false,1,LI .i32 (o++(f.take n).map (Zxg (Zdx t r g f)))⟩)]⟩) (fun n=>n≤f.length) (fun n=>f.length - n) (·+1) 0 (Nat.zero_le _) ?_ ?_
 ·simp (maxSteps:=1000000) only [↓Zo,Ze,Zd,Zn,gSt,gS0,Ya,Yb,↓reduceIte,reduceCtorEq,Yc,Yd,Ye,Yf,Yg,Yj,Yk,Yl,Ym,Yn,Zb5,ZaI,gE1,gE2,gE3,Tryz.ntmps169,Tryz.results169,gTT]
  rfl
 intro n hn
 simp (maxSteps:=1000000) only [↓Zo,Ze,Zd,Zn,gSt,gS0,Ya,Yb,↓reduceIte,reduceCtorEq,Yc,Yd,Ye,Yf,Yg,Yj,Yk,Yl,Ym,Yn,Zb5,ZaI,gE1,gE2,gE3,Tryz.ntmps169,Tryz.results169,gTT]
 refine ⟨fun h=>?_,fun h=>?_⟩
 ·have hlt:n < f.length:=by have:=of_decide_eq_true h; omega
  have hx:=hf _ (List.getElem_mem hlt)
  have hg:f[n]?.getD 0=f[n]:=by rw [List.getElem?_eq_getElem hlt]; rfl
  have e1:o++List.map (Zxg (Zdx t r g f)) (List.take (n+1) f)=o++List.map (Zxg (Zdx t r g f)) (List.take n f)++[ZAm (IntKind.i64.wrap ((IntKind.i64.wrap (f[n]?.getD 0*Zdx t r g f)).tdiv 65536))]:=by
   rw [hg,ZGc hx hGin,List.take_add_one,List.getElem?_eq_getElem hlt,List.map_append,List.append_assoc]
   rfl
  rw [e1]
  refine ⟨by omega,by kernel_rfl,by decide,?_,⟨(Zaz _ (by omega)).symm,rfl,rfl⟩,by omega,by omega⟩
  have hlen:(o++List.map (Zxg (Zdx t r g f)) (List.take n f)).length≤1000000:=by
   rw [List.length_append,List.length_map,List.length_take]; omega
  unfold Zag
  omega
 ·have hnl:n=f.length:=by have:=of_decide_eq_false h; omega
  rw [hnl,List.take_length]
  exact ⟨rfl,rfl⟩
def Zgl:List V→Zf→Zw→Name→Option Ent
 | [.c (.d (.list q_f)),.c (.lp n0 0),.c (.lp n1 0)],[(m0,[.d (.int .i64 t),.d (.int .i64 r),.d (.int .i64 g)]),(m1,[.d (.int .i64 c),.own n2 q_o])],[(j0,⟨false,1,q_o_1⟩)],_=>some ⟨q_o_1=q_o∧(∀ x∈(Zc q_f),-1099511627776≤x∧x≤1099511627776)∧(Zc q_o).length+(Zc q_f).length≤1000000∧Zav t r g=true∧n0.lv≤1∧n1.lv≤1∧n2.lv≤1∧m0=n0∧m1=n1∧j0=n2∧n1≠n0∧n2≠n0∧n2≠n1∧q_f=LI .i64 (Zc q_f)∧q_o=LI .i32 (Zc q_o),.tup [],[(n0,[.d (.int .i64 t),.d (.int .i64 r),.d (.int .i64 (Zdx t r g (Zc q_f)))]),(n1,[.d (.int .i64 c),.own n2 (LI .i32 ((Zc q_o)++(Zc q_f).map (Zxg (Zdx t r g (Zc q_f)))))])],[(n2,⟨false,1,LI .i32 ((Zc q_o)++(Zc q_f).map (Zxg (Zdx t r g (Zc q_f))))⟩)]⟩
 | _,_,_,_=>none
def Zbr:=And.intro (@Zgl.eq_1) (@Zgl.eq_1)
theorem Zrg:Snd Tryz.prog 169 Zgl:=by
 intro vs b k n e h hn hp
 unfold Zgl at h
 split at h
 ·cases h; obtain ⟨rfl,hp0,hp1,hp2,hl0,hl1,hl2,rfl,rfl,rfl,hd10,hd20,hd21,hq0,hq1⟩:=hp; obtain ⟨_,rfl⟩:=Zu hq0; obtain ⟨_,rfl⟩:=Zu hq1; simp only [Zi,Zp,Zj,Zq] at hp0 hp1 hp2 ⊢; exact Spec.ren3 (ZsF _ _ _ _ _ _ hp0 hp1 hp2) 0 1 2 (by simp [Zbi,V.names,C.names,ZS,ZT,ZH]) hl0 hl1 hl2 hd10 hd20 hd21
 ·cases h
def okX (x:Int):Bool:=decide (-1099511627776≤x) && decide (x≤1099511627776)
theorem ZGR {x:Int} (h:okX x=true):-1099511627776≤x∧x≤1099511627776:=by simpa [okX] using h
def frL (c:Int) (s:List Int) (i:Nat):List Int:=(s.drop (i*c.toNat)).take c.toNat
def gAt (t r g c:Int) (s:List Int):Nat→Int
 | 0=>g
 | i+1=>Zdx t r (gAt t r g c s i) (frL c s i)
def oAt (t r g c:Int) (s:List Int):Nat→List Int
 | 0=>[]
 | i+1=>oAt t r g c s i++(frL c s i).map (Zxg (gAt t r g c s (i+1)))
def chB (c:Int) (s:List Int):Bool:=decide (c < 1) || decide (8 < c) || (s.length:Int).tmod c != 0 || decide (65536 < IntKind.i64.wrap ((s.length:Int).tdiv c))
theorem ZDz {c:Int} {s:List Int} (h:chB c s=false):1≤c∧c≤8∧s.length=s.length / c.toNat*c.toNat:=by
 simp only [chB,Bool.or_eq_false_iff,decide_eq_false_iff_not,bne_eq_false_iff_eq] at h
 obtain ⟨⟨⟨h1,h2⟩,h3⟩,_⟩:=h
 refine ⟨by omega,by omega,?_⟩
 have e:c=(c.toNat:Int):=by omega
 rw [e,Int.tmod_eq_emod_of_nonneg (by omega)] at h3
 have h4:s.length % c.toNat=0:=by exact_mod_cast h3
 exact (Nat.div_mul_cancel (Nat.dvd_of_mod_eq_zero h4)).symm
theorem Zzq {c:Int} {s:List Int} {i:Nat} (h:chB c s=false) (hi:i < s.length / c.toNat):(frL c s i).length=c.toNat:=by
 obtain ⟨h1,h2,h3⟩:=ZDz h
 unfold frL
 rw [List.length_take,List.length_drop]
 have:(i+1)*c.toNat≤s.length / c.toNat*c.toNat:=Nat.mul_le_mul_right _ hi
 rw [Nat.add_mul,Nat.one_mul] at this
 omega
theorem Zzy {t r g c:Int} {s:List Int} (h:Zav t r g=true):∀ i,Zav t r (gAt t r g c s i)=true
 | 0=>h
 | i+1=>by
  have h1:=Zzy h i (c:=c) (s:=s)
  have h2:=ZkQ h
  have h3:=Zt3 h1 (frL c s i)
  exact ZBx ⟨h2.1,h2.2.1,h3⟩
theorem Zr8 {t r g c:Int} {s:List Int} (h:chB c s=false):∀ i,i≤s.length / c.toNat→(oAt t r g c s i).length=i*c.toNat
 | 0,_=>by simp [oAt]
 | i+1,hi=>by
  rw [oAt,List.length_append,List.length_map,Zr8 h i (by omega),Zzq h (by omega),Nat.add_mul,Nat.one_mul]
def Znq (t r g c:Int) (s:List Int):Int:=if Zav t r g=false then 1 else if chB c s=true then 2 else if s.all okX=false then 2 else 0
theorem ZAl {t r g c:Int} {s:List Int} (h:Zav t r g=true) (h2:chB c s=false) (h3:s.all okX=true):Znq t r g c s=0:=by
 simp [Znq,h,h2,h3]
def ZCF (t r g c:Int) (s:List Int):List Int:=if Znq t r g c s=0 then oAt t r g c s (s.length / c.toNat) else []
def ZDW (t r g c:Int) (s:List Int):Int:=if Znq t r g c s=0 then c else 0
def ZD0 (t r g c:Int) (s:List Int):Int:=if Znq t r g c s=0 then t else 0
def ZDZ (t r g c:Int) (s:List Int):Int:=if Znq t r g c s=0 then r else 0
def ZDX (t r g c:Int) (s:List Int):Int:=if Znq t r g c s=0 then gAt t r g c s (s.length / c.toNat) else 0
theorem ZAN (t r g c:Int) (s:List Int) (hs:s.length≤1000000):Spec Tryz.prog 0 96 [.agg [.d (.int .i64 t),.d (.int .i64 r),.d (.int .i64 g)],vI .i64 c,vL (LI .i64 s)] [] [] (.tup [.agg [.int .i64 (ZDW t r g c s),.list (LI .i32 (ZCF t r g c s))],.agg [.int .i64 (ZD0 t r g c s),.int .i64 (ZDZ t r g c s),.int .i64 (ZDX t r g c s)],.int .i64 (Znq t r g c s)]) [] []:=by
 refine sE (md:=fun _=>0) (L:=[(168,Zgm),(169,Zgl)]) [(3,[0,0,0,0,0,4616223153142709711,0,0,0,0,0,4616223152119299535,0,0,0,0,0,4616223088734977487,0,0])] 4616222878281579983 (Za Zrh (Za Zrg Zb)) Tryz.func96 rfl rfl rfl ?_
 simp (maxSteps:=1000000) only [↓Zo,Ze,Zd,Zn,gSt,gS0,Ya,Yb,↓reduceIte,reduceCtorEq,Yc,Yd,Ye,Yf,Yg,Yj,Yk,Yl,Ym,Yn,Zbs,Zbr,gE1,gE2,gE3,Tryz.ntmps96,Tryz.results96,gTT]
 refine ⟨fun h=>?_,fun h=>⟨fun h2=>?_,fun h2=>?_,fun h2=>?_,fun h2=>?_⟩⟩
 ·have e:Znq t r g c s=1:=by simp [Znq,h]
  simp [ZDW,ZCF,ZD0,ZDZ,ZDX,e,Zy]
 ·simp only [Bool.or_eq_false_iff,decide_eq_false_iff_not] at h2; omega
 ·simp only [Bool.or_eq_false_iff,decide_eq_false_iff_not] at h2; omega
 ·have hv:Zav t r g=true:=by simpa using h
  have hc:chB c s=true:=h2
  have e:Znq t r g c s=2:=by simp [Znq,hv,hc]
  simp [ZDW,ZCF,ZD0,ZDZ,ZDX,e,Zy]
 have hv:Zav t r g=true:=by simpa using h
 have hc:chB c s=false:=h2
 obtain ⟨hc1,hc2,hc3⟩:=ZDz hc
 refine Zl (fun n=>⟨[(43,vI .i64 (n:Nat))],[],[]⟩) (fun n=>n≤s.length∧(s.take n).all okX=true) (fun n=>s.length - n) (·+1) 0 ⟨Nat.zero_le _,rfl⟩ ?_ ?_
 ·simp (maxSteps:=1000000) only [↓Zo,Ze,Zd,Zn,gSt,gS0,Ya,Yb,↓reduceIte,reduceCtorEq,Yc,Yd,Ye,Yf,Yg,Yj,Yk,Yl,Ym,Yn,Zbs,Zbr,gE1,gE2,gE3,Tryz.ntmps96,Tryz.results96,gTT]
  rfl
 rintro n ⟨hn,hok⟩
 simp (maxSteps:=1000000) only [↓Zo,Ze,Zd,Zn,gSt,gS0,Ya,Yb,↓reduceIte,reduceCtorEq,Yc,Yd,Ye,Yf,Yg,Yj,Yk,Yl,Ym,Yn,Zbs,Zbr,gE1,gE2,gE3,Tryz.ntmps96,Tryz.results96,gTT]
 refine ⟨fun h3=>?_,fun h3=>?_⟩
 ·have hlt:n < s.length:=by have:=of_decide_eq_true h3; omega
  have hg:s[n]?.getD 0=s[n]:=by rw [List.getElem?_eq_getElem hlt]; rfl
  rw [hg]
  refine ⟨by omega,fun h4=>?_,fun h4=>?_⟩
  ·have hbad:s.all okX=false:=by
    rw [List.all_eq_false]
    refine ⟨s[n],List.getElem_mem hlt,?_⟩
    simp only [Bool.or_eq_true,decide_eq_true_eq] at h4
    simp [okX]
    omega
   have e:Znq t r g c s=2:=by simp [Znq,hv,hc,hbad]
   simp [ZDW,ZCF,ZD0,ZDZ,ZDX,e,Zy]
  ·refine ⟨(Zaz _ (by omega)).symm,⟨by omega,?_⟩,by omega⟩
   simp only [Bool.or_eq_false_iff,decide_eq_false_iff_not] at h4
   rw [List.take_add_one,List.getElem?_eq_getElem hlt,List.all_append,hok]
   simp [okX]
   omega
 have hall:s.all okX=true:=by
  have:n=s.length:=by have:=of_decide_eq_false h3; omega
  rw [this,List.take_length] at hok; exact hok
 have hE:=ZAl hv hc hall
 refine Ze3 ⟨1,11⟩ 1 1 ⟨1,99⟩ rfl rfl (by simp (maxSteps:=1000000) only [↓Zo,Ze,Zd,Zn,gSt,gS0,Ya,Yb,↓reduceIte,reduceCtorEq,Yc,Yd,Ye,Yf,Yg,Yj,Yk,Yl,Ym,Yn,Zbs,Zbr,gE1,gE2,gE3,Tryz.ntmps96,Tryz.results96,gTT]) (Nat.le_refl _) ?_
 simp (maxSteps:=1000000) only [↓Zo,Ze,Zd,Zn,gSt,gS0,Ya,Yb,↓reduceIte,reduceCtorEq,Yc,Yd,Ye,Yf,Yg,Yj,Yk,Yl,Ym,Yn,Zbs,Zbr,gE1,gE2,gE3,Tryz.ntmps96,Tryz.results96,gTT]
 refine Zl (fun i=>⟨[(13,vI .i64 ((i*c.toNat:Nat):Int))],[(⟨1,11⟩,[.d (.int .i64 c),.own ⟨1,99⟩ (LI .i32 (oAt t r g c s i))]),(⟨1,3⟩,[.d (.int .i64 t),.d (.int .i64 r),.d (.int .i64 (gAt t r g c s i))])],[(⟨1,99⟩,⟨false,1,LI .i32 (oAt t r g c s i)⟩)]⟩) (fun i=>i≤s.length / c.toNat) (fun i=>s.length / c.toNat - i) (·+1) 0 (Nat.zero_le _) ?_ ?_
 ·simp (maxSteps:=1000000) only [↓Zo,Ze,Zd,Zn,gSt,gS0,Ya,Yb,↓reduceIte,reduceCtorEq,Yc,Yd,Ye,Yf,Yg,Yj,Yk,Yl,Ym,Yn,Zbs,Zbr,gE1,gE2,gE3,Tryz.ntmps96,Tryz.results96,gTT]
  exact ⟨by simp,⟨rfl,rfl⟩,rfl⟩
 intro i hi
 simp (maxSteps:=1000000) only [↓Zo,Ze,Zd,Zn,gSt,gS0,Ya,Yb,↓reduceIte,reduceCtorEq,Yc,Yd,Ye,Yf,Yg,Yj,Yk,Yl,Ym,Yn,Zbs,Zbr,gE1,gE2,gE3,Tryz.ntmps96,Tryz.results96,gTT]
 have hm:(c.toNat:Int)=c:=by omega
 have hil:(oAt t r g c s i).length=i*c.toNat:=Zr8 hc i hi
 refine ⟨fun h4=>?_,fun h4=>⟨by kernel_rfl,?_⟩⟩
 ·have hlt:i < s.length / c.toNat:=by
   have:=of_decide_eq_true h4
   rw [hc3] at this
   exact Nat.lt_of_mul_lt_mul_right (a:=c.toNat) (by omega)
  have hle:(i+1)*c.toNat≤s.length:=by
   have:=Nat.mul_le_mul_right c.toNat (show i+1≤s.length / c.toNat from hlt)
   omega
  have he:(i+1)*c.toNat=i*c.toNat+c.toNat:=by rw [Nat.add_mul,Nat.one_mul]
  have e1:IntKind.i64.wrap (((i*c.toNat:Nat):Int)+c)=(((i+1)*c.toNat:Nat):Int):=by
   rw [IntWalk.i64_in _ (by omega),he]
   omega
  have e2:((((i+1)*c.toNat:Nat):Int)).toNat - i*c.toNat=c.toNat:=by rw [he]; omega
  rw [e1,e2]
  have hfr:List.take c.toNat (List.drop (i*c.toNat) s)=frL c s i:=rfl
  rw [hfr]
  have hfl:=Zzq hc hlt
  refine ⟨by omega,⟨fun x hx=>ZGR (List.all_eq_true.1 hall x (List.mem_of_mem_drop (List.mem_of_mem_take hx))),by omega,Zzy hv i⟩,⟨rfl,⟨rfl,rfl⟩,rfl⟩,by omega,by omega⟩
 have hik:i=s.length / c.toNat:=by
  have h5:=of_decide_eq_false h4
  rcases Nat.lt_or_ge i (s.length / c.toNat) with h6 | h6
  ·have:=Nat.mul_lt_mul_of_pos_right h6 (show 0 < c.toNat by omega)
   omega
  ·omega
 simp only [ZDW,ZCF,ZD0,ZDZ,ZDX,hE,if_true,hik]
def ZnX:List V→Zf→Zw→Name→Option Ent
 | [.agg [.d (.int .i64 t),.d (.int .i64 r),.d (.int .i64 g)],.c (.d (.int .i64 c)),.c (.d (.list q_s))],[],[],_=>some ⟨(Zc q_s).length≤1000000∧q_s=LI .i64 (Zc q_s),.tup [.agg [.int .i64 (ZDW t r g c (Zc q_s)),.list (LI .i32 (ZCF t r g c (Zc q_s)))],.agg [.int .i64 (ZD0 t r g c (Zc q_s)),.int .i64 (ZDZ t r g c (Zc q_s)),.int .i64 (ZDX t r g c (Zc q_s))],.int .i64 (Znq t r g c (Zc q_s))],[],[]⟩
 | _,_,_,_=>none
def ZxK:=And.intro (@ZnX.eq_1) (@ZnX.eq_1)
theorem ZxL:Snd Tryz.prog 96 ZnX:=by
 intro vs b k n e h hn hp
 unfold ZnX at h
 split at h
 ·cases h; obtain ⟨hp0,hq0⟩:=hp; obtain ⟨_,rfl⟩:=Zu hq0; simp only [Zi,Zp,Zj,Zq] at hp0 ⊢; exact (ZAN _ _ _ _ _ hp0).lift rfl _
 ·cases h
end Go.Vam
