/- A part of the proof. Conditions: none. -/
import Derived.Test.YtmpbpijnbmpbhaaGreatBDq
set_option linter.unusedVariables false
set_option linter.defProp false
set_option linter.unusedSimpArgs false
set_option maxRecDepth 40000
set_option maxHeartbeats 4000000
namespace Go.Vam
open Go.Proofs
open Nat renaming reduceShiftRight→Ya,reduceMod→Yb,reduceEqDiff→Yc,reduceLT→Yd,reduceLeDiff→Ye,reduceAdd→Yf,reduceMul→Yg
open Int renaming reduceLE→Yj,reduceLT→Yk,reduceNeg→Yl,reduceAdd→Ym,reduceToNat→Yn
def isG (n:Int):Bool:=decide (0≤n) && decide (n≤262144)
def ZgP (s n:Int):Int:=if (decide (s < -8388608) || decide (8388607 < s) || !isG n)=true then 0 else ZnO ((s*n+32768) / 65536)
def Zcs (a b c d:Int):Bool:=isG a && isG b && decide (0≤c) && decide (c≤4194304) && decide (0≤d) && decide (d≤c)
def ZsI (a b c d i:Int):Int:=if c - d≤i then b else a+(b - a)*(d+i) / c
theorem Zrn {a b c d:Int} (h:Zcs a b c d=true):(0≤a∧a≤262144)∧(0≤b∧b≤262144)∧0≤c∧c≤4194304∧0≤d∧d≤c:=by
 simp only [Zcs,isG,Bool.and_eq_true,decide_eq_true_eq] at h
 omega
theorem ZHG {n:Int} (h:isG n=true):0≤n∧n≤262144:=by simpa [isG] using h
theorem ZHu {n c:Int} (hc:0 < c):(if n.tmod c < 0 then n.tdiv c - 1 else n.tdiv c)=n / c:=by
 rw [Int.tmod_eq_emod,Int.tdiv_eq_ediv]
 have h1:=Int.emod_nonneg n (show c≠0 by omega)
 have h2:=Int.emod_lt_of_pos n hc
 have h3:(c.natAbs:Int)=c:=by omega
 have h4:c.sign=1:=Int.sign_eq_one_of_pos hc
 by_cases h:0≤n∨c ∣ n
 ·rw [if_pos h,if_pos h,if_neg (by omega)]; omega
 ·rw [if_neg h,if_neg h,h3,if_pos (by omega),h4]; omega
theorem ZD7 (n:Int):Spec Tryz.prog 0 261 [vI .i64 n] [] [] (vB (isG n)) [] []:=by
 refine sE (md:=fun _=>0) (L:=[]) [] 5 Zb Tryz.func261 rfl rfl rfl ?_
 simp (maxSteps:=1000000) only [↓Zn,Ze,Zd,Zm,gSt,gS0,Ya,Yb,↓reduceIte,reduceCtorEq,Yc,Yd,Ye,Yf,Yg,Yj,Yk,Yl,Ym,Yn,gE1,gE2,gE3,Tryz.ntmps261,Tryz.results261,gTT]
 rfl
def Zv2:List V→Zf→Zr→Name→Option Ent
 | [.c (.d (.int .i64 n))],[],[],_=>some ⟨True,vB (isG n),[],[]⟩
 | _,_,_,_=>none
def Zt5:=And.intro (@Zv2.eq_1) (@Zv2.eq_1)
theorem Zt6:Snd Tryz.prog 261 Zv2:=by
 intro vs b k n e h hn hp
 unfold Zv2 at h
 split at h
 ·cases h; exact (ZD7 _).lift rfl _
 ·cases h
theorem Ztn (s n:Int):Spec Tryz.prog 0 251 [vI .i32 s,vI .i64 n] [] [] (vI .i32 (ZgP s n)) [] []:=by
 refine sE (md:=fun _=>0) (L:=[(261,Zv2),(76,ZoW)]) [] 32787 (Za Zt6 (Za ZiE Zb)) Tryz.func251 rfl rfl rfl ?_
 simp (maxSteps:=1000000) only [↓Zn,Ze,Zd,Zm,gSt,gS0,Ya,Yb,↓reduceIte,reduceCtorEq,Yc,Yd,Ye,Yf,Yg,Yj,Yk,Yl,Ym,Yn,Zt5,Zal,gE1,gE2,gE3,Tryz.ntmps251,Tryz.results251,gTT]
 refine ⟨fun h=>by simp only [ZgP,h,if_true],fun h=>?_⟩
 have hf:¬ ((decide (s < -8388608) || decide (8388607 < s) || !isG n)=true):=by rw [h]; decide
 simp only [ZgP,if_neg hf]
 simp only [Bool.or_eq_false_iff,decide_eq_false_iff_not,Bool.not_eq_false'] at h
 have hn:=ZHG h.2
 have hb:=ZkB (x:=s) (y:=n) (A:=8388608) (B:=262144) (by omega) (by omega) hn.1 hn.2 (by decide)
 rw [ZL0,IntWalk.i64_in s (by omega),IntWalk.i64_in (s*n) (by omega),IntWalk.i64_in _ (by omega)]
def Zgj:List V→Zf→Zr→Name→Option Ent
 | [.c (.d (.int .i32 s)),.c (.d (.int .i64 n))],[],[],_=>some ⟨True,vI .i32 (ZgP s n),[],[]⟩
 | _,_,_,_=>none
def ZcH:=And.intro (@Zgj.eq_1) (@Zgj.eq_1)
theorem ZrO:Snd Tryz.prog 251 Zgj:=by
 intro vs b k n e h hn hp
 unfold Zgj at h
 split at h
 ·cases h; exact (Ztn _ _).lift rfl _
 ·cases h
theorem ZqL (a b c d:Int):Spec Tryz.prog 0 249 [.agg [.d (.int .i64 a),.d (.int .i64 b),.d (.int .i64 c),.d (.int .i64 d)]] [] [] (vB (Zcs a b c d)) [] []:=by
 refine sE (md:=fun _=>0) (L:=[(261,Zv2)]) [(1,[0,0,0,0,0,1099511627655,0,0,0,0,0,1099511619591,0,0,0,0,0,1099511103495,0,0,0,0,0,1099478073351,0,0,0,0,0,1097364144135,0,0,0,0,0,826781204487,0,0])] 7 (Za Zt6 Zb) Tryz.func249 rfl rfl rfl ?_
 simp (maxSteps:=1000000) only [↓Zn,Ze,Zd,Zm,gSt,gS0,Ya,Yb,↓reduceIte,reduceCtorEq,Yc,Yd,Ye,Yf,Yg,Yj,Yk,Yl,Ym,Yn,Zt5,gE1,gE2,gE3,Tryz.ntmps249,Tryz.results249,gTT]
 rfl
def Zdr:List V→Zf→Zr→Name→Option Ent
 | [.agg [.d (.int .i64 a),.d (.int .i64 b),.d (.int .i64 c),.d (.int .i64 d)]],[],[],_=>some ⟨True,vB (Zcs a b c d),[],[]⟩
 | _,_,_,_=>none
def Zbt:=And.intro (@Zdr.eq_1) (@Zdr.eq_1)
theorem ZhV:Snd Tryz.prog 249 Zdr:=by
 intro vs b k n e h hn hp
 unfold Zdr at h
 split at h
 ·cases h; exact (ZqL _ _ _ _).lift rfl _
 ·cases h
theorem Zx8 (a b c d i:Int) (hv:Zcs a b c d=true) (hi:0≤i):Spec Tryz.prog 0 250 [.agg [.d (.int .i64 a),.d (.int .i64 b),.d (.int .i64 c),.d (.int .i64 d)],vI .i64 i] [] [] (vI .i64 (ZsI a b c d i)) [] []:=by
 refine sE (md:=fun _=>0) (L:=[]) [(3,[0,0,0,0,0,4402326831223,0,0,0,0,0,4401301323895,0,0])] 4398046543991 Zb Tryz.func250 rfl rfl rfl ?_
 simp (maxSteps:=1000000) only [↓Zn,Ze,Zd,Zm,gSt,gS0,Ya,Yb,↓reduceIte,reduceCtorEq,Yc,Yd,Ye,Yf,Yg,Yj,Yk,Yl,Ym,Yn,gE1,gE2,gE3,Tryz.ntmps250,Tryz.results250,gTT]
 obtain ⟨ha,hb,hc0,hc,hd0,hd⟩:=Zrn hv
 have ew:IntKind.i64.wrap (c - d)=c - d:=IntWalk.i64_in _ (by omega)
 rw [ew]
 refine ⟨fun h=>by simp only [ZsI,if_pos (of_decide_eq_true h)],fun h=>?_⟩
 have hlt:¬ (c - d≤i):=of_decide_eq_false h
 have hcp:0 < c:=by omega
 have hm:=ZkB (x:=b - a) (y:=d+i) (A:=262144) (B:=4194304) (by omega) (by omega) (by omega) (by omega) (by decide)
 rw [IntWalk.i64_in (b - a) (by omega),IntWalk.i64_in (d+i) (by omega),IntWalk.i64_in ((b - a)*(d+i)) (by omega)]
 have hf:=ZHu (n:=(b - a)*(d+i)) hcp
 have hq:-262144≤(b - a)*(d+i) / c∧(b - a)*(d+i) / c≤262144:=by
  have h2:=ZkB (x:=b - a) (y:=d+i) (A:=262144) (B:=c) (by omega) (by omega) (by omega) (by omega) (by decide)
  exact ⟨Int.le_ediv_of_mul_le hcp (by omega),Int.ediv_le_of_le_mul hcp (by omega)⟩
 simp only [ZsI,if_neg hlt]
 refine ⟨by omega,by omega,fun h=>?_,fun h=>?_⟩
 ·rw [if_pos (of_decide_eq_true h)] at hf
  rw [IntWalk.i64_in (((b - a)*(d+i)).tdiv c) (by omega),hf,IntWalk.i64_in ((b - a)*(d+i) / c) (by omega),IntWalk.i64_in (a+(b - a)*(d+i) / c) (by omega)]
 ·rw [if_neg (of_decide_eq_false h)] at hf
  rw [hf,IntWalk.i64_in ((b - a)*(d+i) / c) (by omega),IntWalk.i64_in (a+(b - a)*(d+i) / c) (by omega)]
def ZjQ:List V→Zf→Zr→Name→Option Ent
 | [.agg [.d (.int .i64 a),.d (.int .i64 b),.d (.int .i64 c),.d (.int .i64 d)],.c (.d (.int .i64 i))],[],[],_=>some ⟨Zcs a b c d=true∧0≤i,vI .i64 (ZsI a b c d i),[],[]⟩
 | _,_,_,_=>none
def ZdI:=And.intro (@ZjQ.eq_1) (@ZjQ.eq_1)
theorem ZwA:Snd Tryz.prog 250 ZjQ:=by
 intro vs b k n e h hn hp
 unfold ZjQ at h
 split at h
 ·cases h; obtain ⟨hp0,hp1⟩:=hp; exact (Zx8 _ _ _ _ _ hp0 hp1).lift rfl _
 ·cases h
theorem Zto (a b c d:Int):Spec Tryz.prog 0 222 [.agg [.d (.int .i64 a),.d (.int .i64 b),.d (.int .i64 c),.d (.int .i64 d)]] [] [] (vB (Zcs a b c d)) [] []:=by
 refine sE (md:=fun _=>0) (L:=[(249,Zdr)]) [] 7 (Za ZhV Zb) Tryz.func222 rfl rfl rfl ?_
 simp (maxSteps:=1000000) only [↓Zn,Ze,Zd,Zm,gSt,gS0,Ya,Yb,↓reduceIte,reduceCtorEq,Yc,Yd,Ye,Yf,Yg,Yj,Yk,Yl,Ym,Yn,Zbt,gE1,gE2,gE3,Tryz.ntmps222,Tryz.results222,gTT]
def Zgk:List V→Zf→Zr→Name→Option Ent
 | [.agg [.d (.int .i64 a),.d (.int .i64 b),.d (.int .i64 c),.d (.int .i64 d)]],[],[],_=>some ⟨True,vB (Zcs a b c d),[],[]⟩
 | _,_,_,_=>none
def ZrQ:=And.intro (@Zgk.eq_1) (@Zgk.eq_1)
theorem ZrR:Snd Tryz.prog 222 Zgk:=by
 intro vs b k n e h hn hp
 unfold Zgk at h
 split at h
 ·cases h; exact (Zto _ _ _ _).lift rfl _
 ·cases h
def gV (a b c d k:Int) (l:List Int) (j:Nat):Int:=ZgP (l[j]?.getD 0) (ZsI a b c d ((j / k.toNat:Nat):Int))
def gO (a b c d k:Int) (l:List Int) (n:Nat):List Int:=(List.range n).map (gV a b c d k l)
def grE (a b c d k:Int) (l:List Int):Int:=if Zcs a b c d=true then (if ZaL k l=true then 0 else 1) else 1
def grO (a b c d k:Int) (l:List Int):List Int:=if grE a b c d k l=0 then gO a b c d k l l.length else []
def grC (a b c d k:Int) (l:List Int):Int:=if grE a b c d k l=0 then k else 0
def grF (a b c d k:Int) (l:List Int):Int:=if grE a b c d k l=0 then a else 0
def grT (a b c d k:Int) (l:List Int):Int:=if grE a b c d k l=0 then b else 0
def grN (a b c d k:Int) (l:List Int):Int:=if grE a b c d k l=0 then c else 0
def grA (a b c d k:Int) (l:List Int):Int:=if grE a b c d k l=0 then (if d+((l.length / k.toNat:Nat):Int) < c then d+((l.length / k.toNat:Nat):Int) else c) else 0
theorem ZAJ (a b c d k:Int) (l:List Int) (n:Nat):(gO a b c d k l n).length=n:=by simp [gO]
theorem ZFZ (a b c d k:Int) (l:List Int) (n:Nat):gO a b c d k l (n+1)=gO a b c d k l n++[gV a b c d k l n]:=by simp [gO,List.range_succ]
theorem ZBQ (a b c d k:Int) (l:List Int) (hl:l.length≤1000000):Spec Tryz.prog 0 225 [.agg [.d (.int .i64 a),.d (.int .i64 b),.d (.int .i64 c),.d (.int .i64 d)],.agg [.d (.int .i64 k),.d (.list (LI .i32 l))]] [] [] (.tup [.agg [.int .i64 (grC a b c d k l),.list (LI .i32 (grO a b c d k l))],.agg [.int .i64 (grF a b c d k l),.int .i64 (grT a b c d k l),.int .i64 (grN a b c d k l),.int .i64 (grA a b c d k l)],.int .i64 (grE a b c d k l)]) [] []:=by
 refine spec_of_E (X:=⟨Tryz.prog,tt,Tryz.f225.ntmps,1,fun s=>if s=31 then 1 else 0,(tab [(249,Zdr),(62,ZaR),(250,ZjQ),(251,Zgj)])⟩) (M:=[(10,[0,0,0,0,0,2303735795187462143,0,0,0,0,0,2161731669436936191,0,0]),(16,[0,0,0,0,0,19078362752525036100268031,0,0,0,0,0,0])]) (m:=2161731669436936191) rfl rfl ⟨Z7,ZI (Za ZhV (Za Zax (Za ZwA (Za ZrO Zb)))) _ rfl rfl⟩ Zs Tryz.func225 rfl (by decide) (by show (2:Nat)≤_; exact Nat.le_of_ble_eq_true rfl) ⟨by simp [V.has,C.has,Zz],by simp [C.has],by simp⟩ ?_
 simp (maxSteps:=1000000) only [↓Zn,Ze,Zd,Zm,gSt,gS0,Ya,Yb,↓reduceIte,reduceCtorEq,Yc,Yd,Ye,Yf,Yg,Yj,Yk,Yl,Ym,Yn,Zbt,ZD,ZdI,ZcH,gE1,gE2,gE3,Tryz.ntmps225,Tryz.results225,gTT]
 refine ⟨fun _=>hl,fun h=>?_,fun h=>⟨by kernel_rfl,by omega,?_,?_⟩⟩
 ·have e:grE a b c d k l=1:=by
   unfold grE
   by_cases h1:Zcs a b c d=true
   ·by_cases h2:ZaL k l=true
    ·simp [h1,h2] at h
    ·simp [h1,h2]
   ·simp [h1]
  simp [grC,grO,grF,grT,grN,grA,e,Zw]
 ·have hb:ZaL k l=true:=by simp at h; exact h.2
  have:=Zd4 (ZfP hb).1
  omega
 have hv:Zcs a b c d=true:=by simp at h; exact h.1
 have hb:ZaL k l=true:=by simp at h; exact h.2
 have hE:grE a b c d k l=0:=by simp [grE,hv,hb]
 obtain ⟨hc,hsm⟩:=ZfP hb
 obtain ⟨k1,k2,k3⟩:=Zd4 hc
 have hvi:=Zrn hv
 have hkm:(k.toNat:Int)=k:=by omega
 have hdiv:(l.length:Int).tdiv k=((l.length / k.toNat:Nat):Int):=by
  have e:k=(k.toNat:Int):=by omega
  rw [Int.tdiv_eq_ediv_of_nonneg (by omega),e]
  exact (Int.natCast_ediv ..).symm
 have hzl:l.length / k.toNat≤l.length:=Nat.div_le_self ..
 rw [hdiv]
 generalize hz:l.length / k.toNat=z at *
 rw [IntWalk.i64_in (z:Int) (by omega)]
 refine Zk (fun n=>⟨[(40,vI .i64 (n:Nat))],[(⟨1,8⟩,[.d (.int .i64 k),.own ⟨1,31⟩ (LI .i32 (gO a b c d k l (n*k.toNat)))])],[(⟨1,31⟩,⟨false,1,LI .i32 (gO a b c d k l (n*k.toNat))⟩)]⟩) (fun n=>n≤z) (fun n=>z - n) (·+1) 0 (Nat.zero_le _) ?_ ?_
 ·simp (maxSteps:=1000000) only [↓Zn,Ze,Zd,Zm,gSt,gS0,Ya,Yb,↓reduceIte,reduceCtorEq,Yc,Yd,Ye,Yf,Yg,Yj,Yk,Yl,Ym,Yn,Zbt,ZD,ZdI,ZcH,gE1,gE2,gE3,Tryz.ntmps225,Tryz.results225,gTT]
  simp [gO]
 intro n hn
 simp (maxSteps:=1000000) only [↓Zn,Ze,Zd,Zm,gSt,gS0,Ya,Yb,↓reduceIte,reduceCtorEq,Yc,Yd,Ye,Yf,Yg,Yj,Yk,Yl,Ym,Yn,Zbt,ZD,ZdI,ZcH,gE1,gE2,gE3,Tryz.ntmps225,Tryz.results225,gTT]
 have hol:=ZAJ a b c d k l (n*k.toNat)
 refine ⟨fun h1=>?_,fun h1=>?_⟩
 ·have hlt:n < z:=by have:=of_decide_eq_true h1; omega
  have hle:(n+1)*k.toNat≤l.length:=by
   have:=Nat.mul_le_mul_right k.toNat (show n+1≤z from hlt)
   omega
  have he:(n+1)*k.toNat=n*k.toNat+k.toNat:=by rw [Nat.add_mul,Nat.one_mul]
  have c1:(n:Int)*k=((n*k.toNat:Nat):Int):=by rw [Int.natCast_mul,hkm]
  have c2:((n:Int)+1)*k=(((n+1)*k.toNat:Nat):Int):=by rw [Int.natCast_mul,hkm]; rfl
  rw [IntWalk.i64_in ((n:Int)+1) (by omega),c1,c2,IntWalk.i64_in ((n*k.toNat:Nat):Int) (by omega),IntWalk.i64_in (((n+1)*k.toNat:Nat):Int) (by omega)]
  have e2:((((n+1)*k.toNat:Nat):Int)).toNat - (((n*k.toNat:Nat):Int)).toNat=k.toNat:=by omega
  have e3:(((n*k.toNat:Nat):Int)).toNat=n*k.toNat:=by omega
  refine ⟨⟨hv,by omega⟩,by omega,?_⟩
  rw [e2,e3]
  have hfl:(List.take k.toNat (List.drop (n*k.toNat) l)).length=k.toNat:=by rw [List.length_take,List.length_drop]; omega
  have hfj:∀ j,j < k.toNat→(List.take k.toNat (List.drop (n*k.toNat) l))[j]?=l[n*k.toNat+j]?:=fun j hj=>by
   rw [List.getElem?_take_of_lt hj,List.getElem?_drop]
  generalize List.take k.toNat (List.drop (n*k.toNat) l)=F at *
  refine Zk (fun j=>⟨[(59,vI .i64 (j:Nat))],[(⟨1,8⟩,[.d (.int .i64 k),.own ⟨1,31⟩ (LI .i32 (gO a b c d k l (n*k.toNat+j)))])],[(⟨1,31⟩,⟨false,1,LI .i32 (gO a b c d k l (n*k.toNat+j))⟩)]⟩) (fun j=>j≤F.length) (fun j=>F.length - j) (·+1) 0 (Nat.zero_le _) ?_ ?_
  ·simp (maxSteps:=1000000) only [↓Zn,Ze,Zd,Zm,gSt,gS0,Ya,Yb,↓reduceIte,reduceCtorEq,Yc,Yd,Ye,Yf,Yg,Yj,Yk,Yl,Ym,Yn,Zbt,ZD,ZdI,ZcH,gE1,gE2,gE3,Tryz.ntmps225,Tryz.results225,gTT]
   exact ⟨rfl,rfl,rfl⟩
  intro j hj
  simp (maxSteps:=1000000) only [↓Zn,Ze,Zd,Zm,gSt,gS0,Ya,Yb,↓reduceIte,reduceCtorEq,Yc,Yd,Ye,Yf,Yg,Yj,Yk,Yl,Ym,Yn,Zbt,ZD,ZdI,ZcH,gE1,gE2,gE3,Tryz.ntmps225,Tryz.results225,gTT]
  have holj:=ZAJ a b c d k l (n*k.toNat+j)
  refine ⟨fun h2=>?_,fun h2=>?_⟩
  ·have hlj:j < F.length:=by have:=of_decide_eq_true h2; omega
   have hll:n*k.toNat+j < l.length:=by omega
   have hg:F[j]?.getD 0=l[n*k.toNat+j]:=by rw [hfj j (by omega),List.getElem?_eq_getElem hll]; rfl
   have hs:=Zs0 (List.all_eq_true.1 hsm _ (List.getElem_mem hll))
   have hdv:(n*k.toNat+j) / k.toNat=n:=by
    rw [Nat.add_comm,Nat.add_mul_div_right _ _ (by omega),Nat.div_eq_of_lt (by omega),Nat.zero_add]
   have e4:ZgP (F[j]?.getD 0) (ZsI a b c d (n:Int))=gV a b c d k l (n*k.toNat+j):=by
    unfold gV
    rw [hdv,hg,List.getElem?_eq_getElem hll]
    rfl
   rw [e4,show n*k.toNat+(j+1)=n*k.toNat+j+1 from rfl,ZFZ]
   exact ⟨by omega,by kernel_rfl,by unfold Zab; omega,⟨(ZY _ (by omega)).symm,rfl,rfl⟩,by omega,by omega⟩
  ·have hjl:j=k.toNat:=by have:=of_decide_eq_false h2; omega
   rw [hjl,he]
   exact ⟨⟨(ZY _ (by omega)).symm,rfl,rfl⟩,by omega,by omega⟩
 ·have hnz:n=z:=by have:=of_decide_eq_false h1; omega
  refine ⟨by kernel_rfl,?_⟩
  rw [hnz,← k3,IntWalk.i64_in (d+(z:Int)) (by omega)]
  simp only [grC,grO,grF,grT,grN,grA,hE,if_true,hz]
def Zof:List V→Zf→Zr→Name→Option Ent
 | [.agg [.d (.int .i64 a),.d (.int .i64 b),.d (.int .i64 c),.d (.int .i64 d)],.agg [.d (.int .i64 k),.d (.list q_l)]],[],[],_=>some ⟨(Zc q_l).length≤1000000∧q_l=LI .i32 (Zc q_l),.tup [.agg [.int .i64 (grC a b c d k (Zc q_l)),.list (LI .i32 (grO a b c d k (Zc q_l)))],.agg [.int .i64 (grF a b c d k (Zc q_l)),.int .i64 (grT a b c d k (Zc q_l)),.int .i64 (grN a b c d k (Zc q_l)),.int .i64 (grA a b c d k (Zc q_l))],.int .i64 (grE a b c d k (Zc q_l))],[],[]⟩
 | _,_,_,_=>none
def ZyD:=And.intro (@Zof.eq_1) (@Zof.eq_1)
theorem ZyE:Snd Tryz.prog 225 Zof:=by
 intro vs b k n e h hn hp
 unfold Zof at h
 split at h
 ·cases h; obtain ⟨hp0,hq0⟩:=hp; obtain ⟨_,rfl⟩:=Zq hq0; simp only [Zi,Zo,Zj,Zp] at hp0 ⊢; exact (ZBQ _ _ _ _ _ _ hp0).lift rfl _
 ·cases h
def Zao (t r g:Int):Bool:=decide (1≤t) && decide (t≤8388607) && decide (1≤r) && decide (r≤65536) && decide (0≤g) && decide (g≤65536)
theorem ZcS {t r g:Int} (h:Zao t r g=true):(1≤t∧t≤8388607)∧(1≤r∧r≤65536)∧0≤g∧g≤65536:=by
 simp only [Zao,Bool.and_eq_true,decide_eq_true_eq] at h
 omega
theorem ZCI {t r g:Int} (h:(1≤t∧t≤8388607)∧(1≤r∧r≤65536)∧0≤g∧g≤65536):Zao t r g=true:=by
 simp only [Zao,Bool.and_eq_true,decide_eq_true_eq]
 omega
def ZaD (t p:Int):Int:=if (decide (t < 1) || decide (8388607 < t) || decide (p < 0) || decide (1099511627776 < p))=true then 0 else if p≤t then 65536 else t*65536 / p
def ZGZ (t r:Int):Int:=if Zao t r 65536=true then t else 0
def ZGY (t r:Int):Int:=if Zao t r 65536=true then r else 0
def ZGX (t r:Int):Int:=if Zao t r 65536=true then 65536 else 0
def ZLE (t r:Int):Int:=if Zao t r 65536=true then 0 else 2
def ZgW (n:Int):Int:=if n < 0 then -n else n
theorem Zts (t r g:Int):Spec Tryz.prog 0 168 [.agg [.d (.int .i64 t),.d (.int .i64 r),.d (.int .i64 g)]] [] [] (vB (Zao t r g)) [] []:=by
 refine sE (md:=fun _=>0) (L:=[]) [(1,[0,0,0,0,0,2147483463,0,0,0,0,0,2147469319,0,0,0,0,0,2146435079,0,0,0,0,0,2080374791,0,0,0,0,0])] 7 Zb Tryz.func168 rfl rfl rfl ?_
 simp (maxSteps:=1000000) only [↓Zn,Ze,Zd,Zm,gSt,gS0,Ya,Yb,↓reduceIte,reduceCtorEq,Yc,Yd,Ye,Yf,Yg,Yj,Yk,Yl,Ym,Yn,gE1,gE2,gE3,Tryz.ntmps168,Tryz.results168,gTT]
 rfl
def Zgo:List V→Zf→Zr→Name→Option Ent
 | [.agg [.d (.int .i64 t),.d (.int .i64 r),.d (.int .i64 g)]],[],[],_=>some ⟨True,vB (Zao t r g),[],[]⟩
 | _,_,_,_=>none
def Zbo:=And.intro (@Zgo.eq_1) (@Zgo.eq_1)
theorem ZrV:Snd Tryz.prog 168 Zgo:=by
 intro vs b k n e h hn hp
 unfold Zgo at h
 split at h
 ·cases h; exact (Zts _ _ _).lift rfl _
 ·cases h
theorem ZqP (t r g:Int):Spec Tryz.prog 0 89 [.agg [.d (.int .i64 t),.d (.int .i64 r),.d (.int .i64 g)]] [] [] (vB (Zao t r g)) [] []:=by
 refine sE (md:=fun _=>0) (L:=[]) [(1,[0,0,0,0,0,2147483463,0,0,0,0,0,2147469319,0,0,0,0,0,2146435079,0,0,0,0,0,2080374791,0,0,0,0,0])] 7 Zb Tryz.func89 rfl rfl rfl ?_
 simp (maxSteps:=1000000) only [↓Zn,Ze,Zd,Zm,gSt,gS0,Ya,Yb,↓reduceIte,reduceCtorEq,Yc,Yd,Ye,Yf,Yg,Yj,Yk,Yl,Ym,Yn,gE1,gE2,gE3,Tryz.ntmps89,Tryz.results89,gTT]
 rfl
def Zdu:List V→Zf→Zr→Name→Option Ent
 | [.agg [.d (.int .i64 t),.d (.int .i64 r),.d (.int .i64 g)]],[],[],_=>some ⟨True,vB (Zao t r g),[],[]⟩
 | _,_,_,_=>none
def Z3:=And.intro (@Zdu.eq_1) (@Zdu.eq_1)
theorem ZhY:Snd Tryz.prog 89 Zdu:=by
 intro vs b k n e h hn hp
 unfold Zdu at h
 split at h
 ·cases h; exact (ZqP _ _ _).lift rfl _
 ·cases h
theorem ZxG (t r:Int):Spec Tryz.prog 0 33 [vI .i64 t,vI .i64 r] [] [] (.tup [.agg [.int .i64 (ZGZ t r),.int .i64 (ZGY t r),.int .i64 (ZGX t r)],.int .i64 (ZLE t r)]) [] []:=by
 refine sE (md:=fun _=>0) (L:=[(89,Zdu)]) [] 4211 (Za ZhY Zb) Tryz.func33 rfl rfl rfl ?_
 simp (maxSteps:=1000000) only [↓Zn,Ze,Zd,Zm,gSt,gS0,Ya,Yb,↓reduceIte,reduceCtorEq,Yc,Yd,Ye,Yf,Yg,Yj,Yk,Yl,Ym,Yn,Z3,gE1,gE2,gE3,Tryz.ntmps33,Tryz.results33,gTT]
 refine ⟨fun h=>?_,fun h=>?_⟩
 ·simp [ZGZ,ZGY,ZGX,ZLE,h]
 ·have h:Zao t r 65536=true:=by simpa using h
  simp [ZGZ,ZGY,ZGX,ZLE,h]
def Zjf:List V→Zf→Zr→Name→Option Ent
 | [.c (.d (.int .i64 t)),.c (.d (.int .i64 r))],[],[],_=>some ⟨True,.tup [.agg [.int .i64 (ZGZ t r),.int .i64 (ZGY t r),.int .i64 (ZGX t r)],.int .i64 (ZLE t r)],[],[]⟩
 | _,_,_,_=>none
def Zbu:=And.intro (@Zjf.eq_1) (@Zjf.eq_1)
theorem Zv6:Snd Tryz.prog 33 Zjf:=by
 intro vs b k n e h hn hp
 unfold Zjf at h
 split at h
 ·cases h; exact (ZxG _ _).lift rfl _
 ·cases h
theorem ZqO (t p:Int):Spec Tryz.prog 0 170 [vI .i64 t,vI .i64 p] [] [] (vI .i64 (ZaD t p)) [] []:=by
 refine sE (md:=fun _=>0) (L:=[]) [(1,[0,0,0,0,0,2095155,0,0,0,0,0,2031667,0,0,0])] 1048627 Zb Tryz.func170 rfl rfl rfl ?_
 simp (maxSteps:=1000000) only [↓Zn,Ze,Zd,Zm,gSt,gS0,Ya,Yb,↓reduceIte,reduceCtorEq,Yc,Yd,Ye,Yf,Yg,Yj,Yk,Yl,Ym,Yn,gE1,gE2,gE3,Tryz.ntmps170,Tryz.results170,gTT]
 refine ⟨fun h=>by simp only [ZaD,h,if_true],fun h=>?_⟩
 have hf:¬ ((decide (t < 1) || decide (8388607 < t) || decide (p < 0) || decide (1099511627776 < p))=true):=by rw [h]; decide
 simp only [ZaD,if_neg hf]
 simp only [Bool.or_eq_false_iff,decide_eq_false_iff_not] at h
 refine ⟨fun h2=>if_pos (of_decide_eq_true h2),fun h2=>?_⟩
 have h3:=of_decide_eq_false h2
 rw [if_neg h3]
 have hq:0≤t*65536 / p∧t*65536 / p≤t*65536:=⟨Int.ediv_nonneg (by omega) (by omega),Int.ediv_le_self _ (by omega)⟩
 rw [IntWalk.i64_in (t*65536) (by omega),Int.tdiv_eq_ediv_of_nonneg (by omega),IntWalk.i64_in (t*65536 / p) (by omega)]
 exact ⟨by omega,rfl⟩
def ZeC:List V→Zf→Zr→Name→Option Ent
 | [.c (.d (.int .i64 t)),.c (.d (.int .i64 p))],[],[],_=>some ⟨True,vI .i64 (ZaD t p),[],[]⟩
 | _,_,_,_=>none
def Zce:=And.intro (@ZeC.eq_1) (@ZeC.eq_1)
theorem Zok:Snd Tryz.prog 170 ZeC:=by
 intro vs b k n e h hn hp
 unfold ZeC at h
 split at h
 ·cases h; exact (ZqO _ _).lift rfl _
 ·cases h
theorem Zny (t p:Int):Spec Tryz.prog 0 105 [vI .i64 t,vI .i64 p] [] [] (vI .i64 (ZaD t p)) [] []:=by
 refine sE (md:=fun _=>0) (L:=[]) [(1,[0,0,0,0,0,2620435,0,0,0,0,0,2588691,0,0])] 2359315 Zb Tryz.func105 rfl rfl rfl ?_
 simp (maxSteps:=1000000) only [↓Zn,Ze,Zd,Zm,gSt,gS0,Ya,Yb,↓reduceIte,reduceCtorEq,Yc,Yd,Ye,Yf,Yg,Yj,Yk,Yl,Ym,Yn,gE1,gE2,gE3,Tryz.ntmps105,Tryz.results105,gTT]
 refine ⟨fun h=>by simp only [ZaD,h,if_true],fun h=>?_⟩
 have hf:¬ ((decide (t < 1) || decide (8388607 < t) || decide (p < 0) || decide (1099511627776 < p))=true):=by rw [h]; decide
 simp only [ZaD,if_neg hf]
 simp only [Bool.or_eq_false_iff,decide_eq_false_iff_not] at h
 refine ⟨fun h2=>if_pos (of_decide_eq_true h2),fun h2=>?_⟩
 have h3:=of_decide_eq_false h2
 rw [if_neg h3]
 have hq:0≤t*65536 / p∧t*65536 / p≤t*65536:=⟨Int.ediv_nonneg (by omega) (by omega),Int.ediv_le_self _ (by omega)⟩
 rw [IntWalk.i64_in (t*65536) (by omega),Int.tdiv_eq_ediv_of_nonneg (by omega),IntWalk.i64_in (t*65536 / p) (by omega)]
 exact ⟨by omega,rfl⟩
def Zdt:List V→Zf→Zr→Name→Option Ent
 | [.c (.d (.int .i64 t)),.c (.d (.int .i64 p))],[],[],_=>some ⟨True,vI .i64 (ZaD t p),[],[]⟩
 | _,_,_,_=>none
def Z0:=And.intro (@Zdt.eq_1) (@Zdt.eq_1)
theorem Zmy:Snd Tryz.prog 105 Zdt:=by
 intro vs b k n e h hn hp
 unfold Zdt at h
 split at h
 ·cases h; exact (Zny _ _).lift rfl _
 ·cases h
theorem ZBS (n:Int) (hn:-1099511627776≤n∧n≤1099511627776):Spec Tryz.prog 0 104 [vI .i64 n] [] [] (vI .i64 (ZgW n)) [] []:=by
 refine sE (md:=fun _=>0) (L:=[]) [] 21 Zb Tryz.func104 rfl rfl rfl ?_
 simp (maxSteps:=1000000) only [↓Zn,Ze,Zd,Zm,gSt,gS0,Ya,Yb,↓reduceIte,reduceCtorEq,Yc,Yd,Ye,Yf,Yg,Yj,Yk,Yl,Ym,Yn,gE1,gE2,gE3,Tryz.ntmps104,Tryz.results104,gTT]
 refine ⟨fun h=>?_,fun h=>?_⟩
 ·have:=of_decide_eq_true h
  rw [ZgW,if_pos this,IntWalk.i64_in (0 - n) (by omega)]; omega
 ·rw [ZgW,if_neg (of_decide_eq_false h)]
def Zoj:List V→Zf→Zr→Name→Option Ent
 | [.c (.d (.int .i64 n))],[],[],_=>some ⟨(-1099511627776≤n∧n≤1099511627776),vI .i64 (ZgW n),[],[]⟩
 | _,_,_,_=>none
def ZaZ:=And.intro (@Zoj.eq_1) (@Zoj.eq_1)
theorem ZyH:Snd Tryz.prog 104 Zoj:=by
 intro vs b k n e h hn hp
 unfold Zoj at h
 split at h
 ·cases h; have hp0:=hp; exact (ZBS _ hp0).lift rfl _
 ·cases h
def ZhJ (p x:Int):Int:=if (if p < x then x else p) < -x then -x else (if p < x then x else p)
def Ziz (f:List Int) (n:Nat):Int:=(f.take n).foldl ZhJ 0
def Zg0 (f:List Int):Int:=f.foldl ZhJ 0
def ZHK (a b:Int):Int:=if b < a then b else a
def ZaK (t r g:Int) (f:List Int):Int:=ZHK (ZaD t (Zg0 f)) (g+r)
theorem Zw9 {t p:Int}:0≤ZaD t p∧ZaD t p≤65536:=by
 unfold ZaD
 split
 ·omega
 ·rename_i h
  simp only [Bool.or_eq_true,decide_eq_true_eq,not_or] at h
  split
  ·omega
  ·refine ⟨Int.ediv_nonneg (by omega) (by omega),?_⟩
   refine Int.ediv_le_of_le_mul (by omega) ?_
   have:=Int.mul_le_mul_of_nonneg_right (show t≤p by omega) (show (0:Int)≤65536 by decide)
   omega
theorem ZgS {t r g:Int} (h:Zao t r g=true) (f:List Int):0≤ZaK t r g f∧ZaK t r g f≤65536:=by
 have:=ZcS h
 have:=Zw9 (t:=t) (p:=Zg0 f)
 unfold ZaK ZHK
 omega
def Ziv (g x:Int):Int:=ZnO ((x*g).tdiv 65536)
theorem ZGI {x A:Int} (h1:-A≤x) (h2:x≤A):-A≤x.tdiv 65536∧x.tdiv 65536≤A:=by
 rcases Int.le_total 0 x with h | h
 ·rw [Int.tdiv_eq_ediv_of_nonneg h]; omega
 ·have e:x.tdiv 65536=-((-x) / 65536):=by
   rw [← Int.tdiv_eq_ediv_of_nonneg (by omega),Int.neg_tdiv,Int.neg_neg]
  rw [e]; omega
theorem ZHj {x g:Int} (hx:-1099511627776≤x∧x≤1099511627776) (hg:0≤g∧g≤65536):ZnO (IntKind.i64.wrap ((IntKind.i64.wrap (x*g)).tdiv 65536))=Ziv g x:=by
 have h1:=ZkB (x:=x) (y:=g) (A:=1099511627776) (B:=65536) hx.1 hx.2 hg.1 hg.2 (by decide)
 have h2:=ZGI h1.1 h1.2
 rw [IntWalk.i64_in (x*g) (by omega),IntWalk.i64_in _ (by omega)]
 rfl
theorem Ztr (f o:List Int) (t r g c:Int) (hf:∀ x∈f,-1099511627776≤x∧x≤1099511627776) (hl:o.length+f.length≤1000000) (hv:Zao t r g=true):Spec Tryz.prog 0 169 [vL (LI .i64 f),.c (.lp ⟨0,0⟩ 0),.c (.lp ⟨0,1⟩ 0)] [(⟨0,0⟩,[.d (.int .i64 t),.d (.int .i64 r),.d (.int .i64 g)]),(⟨0,1⟩,[.d (.int .i64 c),.own ⟨0,2⟩ (LI .i32 o)])] [(⟨0,2⟩,⟨false,1,(LI .i32 o)⟩)] (.tup []) [(⟨0,0⟩,[.d (.int .i64 t),.d (.int .i64 r),.d (.int .i64 (ZaK t r g f))]),(⟨0,1⟩,[.d (.int .i64 c),.own ⟨0,2⟩ (LI .i32 (o++f.map (Ziv (ZaK t r g f))))])] [(⟨0,2⟩,⟨false,1,LI .i32 (o++f.map (Ziv (ZaK t r g f)))⟩)]:=by
 refine spec_of_E (X:=⟨Tryz.prog,tt,Tryz.f169.ntmps,1,fun _=>0,(tab [(170,ZeC),(76,ZoW)])⟩) (M:=[(6,[0,0,0,0,0,68669153111,0,0,0,0,0,0]),(10,[0,0,0,0,0,554768040730455,0,0,0,0,0,0])]) (m:=64424517463) rfl rfl ⟨Z7,ZI (Za Zok (Za ZiE Zb)) _ rfl rfl⟩ Zs Tryz.func169 rfl (by decide) (by show (3:Nat)≤_; exact Nat.le_of_ble_eq_true rfl) ⟨by simp [V.has,C.has,Zz],by simp [C.has],by simp⟩ ?_
 simp (maxSteps:=1000000) only [↓Zn,Ze,Zd,Zm,gSt,gS0,Ya,Yb,↓reduceIte,reduceCtorEq,Yc,Yd,Ye,Yf,Yg,Yj,Yk,Yl,Ym,Yn,Zce,Zal,gE1,gE2,gE3,Tryz.ntmps169,Tryz.results169,gTT]
 refine Zk (fun n=>⟨[(11,vI .i64 (n:Nat)),(4,vI .i64 (Ziz f n))],[],[]⟩) (fun n=>n≤f.length) (fun n=>f.length - n) (·+1) 0 (Nat.zero_le _) ?_ ?_
 ·simp (maxSteps:=1000000) only [↓Zn,Ze,Zd,Zm,gSt,gS0,Ya,Yb,↓reduceIte,reduceCtorEq,Yc,Yd,Ye,Yf,Yg,Yj,Yk,Yl,Ym,Yn,Zce,Zal,gE1,gE2,gE3,Tryz.ntmps169,Tryz.results169,gTT]
  exact ⟨rfl,rfl⟩
 intro n hn
 simp (maxSteps:=1000000) only [↓Zn,Ze,Zd,Zm,gSt,gS0,Ya,Yb,↓reduceIte,reduceCtorEq,Yc,Yd,Ye,Yf,Yg,Yj,Yk,Yl,Ym,Yn,Zce,Zal,gE1,gE2,gE3,Tryz.ntmps169,Tryz.results169,gTT]
 refine ⟨fun h=>?_,fun h=>⟨by kernel_rfl,?_⟩⟩
 ·have hlt:n < f.length:=by have:=of_decide_eq_true h; omega
  have hx:=hf _ (List.getElem_mem hlt)
  have hg:f[n]?.getD 0=f[n]:=by rw [List.getElem?_eq_getElem hlt]; rfl
  refine ⟨by omega,⟨(ZY _ (by omega)).symm,?_⟩,by omega,by omega⟩
  rw [hg,IntWalk.i64_in (0 - f[n]) (by omega),Int.zero_sub]
  simp only [Ziz,List.take_add_one,List.getElem?_eq_getElem hlt,List.foldl_append,Option.toList_some,List.foldl_cons,List.foldl_nil,ZhJ]
  rfl
 have hnl:n=f.length:=by have:=of_decide_eq_false h; omega
 have hG:(if IntKind.i64.wrap (g+r) < ZaD t (Ziz f n) then IntKind.i64.wrap (g+r) else ZaD t (Ziz f n))=ZaK t r g f:=by
  have:=ZcS hv
  rw [IntWalk.i64_in (g+r) (by omega),hnl]
  simp only [ZaK,ZHK,Ziz,Zg0,List.take_length]
  rfl
 rw [hG]
 have hGin:0≤ZaK t r g f∧ZaK t r g f≤65536:=ZgS hv f
 refine Zk (fun n=>⟨[(34,vI .i64 (n:Nat))],[(⟨0,1⟩,[.d (.int .i64 c),.own ⟨0,2⟩ (LI .i32 (o++(f.take n).map (Ziv (ZaK t r g f))))])],[(⟨0,2⟩,⟨false,1,LI .i32 (o++(f.take n).map (Ziv (ZaK t r g f)))⟩)]⟩) (fun n=>n≤f.length) (fun n=>f.length - n) (·+1) 0 (Nat.zero_le _) ?_ ?_
 ·simp (maxSteps:=1000000) only [↓Zn,Ze,Zd,Zm,gSt,gS0,Ya,Yb,↓reduceIte,reduceCtorEq,Yc,Yd,Ye,Yf,Yg,Yj,Yk,Yl,Ym,Yn,Zce,Zal,gE1,gE2,gE3,Tryz.ntmps169,Tryz.results169,gTT]
  rfl
 intro n hn
 simp (maxSteps:=1000000) only [↓Zn,Ze,Zd,Zm,gSt,gS0,Ya,Yb,↓reduceIte,reduceCtorEq,Yc,Yd,Ye,Yf,Yg,Yj,Yk,Yl,Ym,Yn,Zce,Zal,gE1,gE2,gE3,Tryz.ntmps169,Tryz.results169,gTT]
 refine ⟨fun h=>?_,fun h=>?_⟩
 ·have hlt:n < f.length:=by have:=of_decide_eq_true h; omega
  have hx:=hf _ (List.getElem_mem hlt)
  have hg:f[n]?.getD 0=f[n]:=by rw [List.getElem?_eq_getElem hlt]; rfl
  have e1:o++List.map (Ziv (ZaK t r g f)) (List.take (n+1) f)=o++List.map (Ziv (ZaK t r g f)) (List.take n f)++[ZnO (IntKind.i64.wrap ((IntKind.i64.wrap (f[n]?.getD 0*ZaK t r g f)).tdiv 65536))]:=by
   rw [hg,ZHj hx hGin,List.take_add_one,List.getElem?_eq_getElem hlt,List.map_append,List.append_assoc]
   rfl
  rw [e1]
  refine ⟨by omega,by kernel_rfl,by decide,?_,⟨(ZY _ (by omega)).symm,rfl,rfl⟩,by omega,by omega⟩
  have hlen:(o++List.map (Ziv (ZaK t r g f)) (List.take n f)).length≤1000000:=by
   rw [List.length_append,List.length_map,List.length_take]; omega
  unfold Zab
  omega
 ·have hnl:n=f.length:=by have:=of_decide_eq_false h; omega
  rw [hnl,List.take_length]
  exact ⟨rfl,rfl⟩
def Zgn:List V→Zf→Zr→Name→Option Ent
 | [.c (.d (.list q_f)),.c (.lp n0 0),.c (.lp n1 0)],[(m0,[.d (.int .i64 t),.d (.int .i64 r),.d (.int .i64 g)]),(m1,[.d (.int .i64 c),.own n2 q_o])],[(j0,⟨false,1,q_o_1⟩)],_=>some ⟨q_o_1=q_o∧(∀ x∈(Zc q_f),-1099511627776≤x∧x≤1099511627776)∧(Zc q_o).length+(Zc q_f).length≤1000000∧Zao t r g=true∧n0.lv≤1∧n1.lv≤1∧n2.lv≤1∧m0=n0∧m1=n1∧j0=n2∧n1≠n0∧n2≠n0∧n2≠n1∧q_f=LI .i64 (Zc q_f)∧q_o=LI .i32 (Zc q_o),.tup [],[(n0,[.d (.int .i64 t),.d (.int .i64 r),.d (.int .i64 (ZaK t r g (Zc q_f)))]),(n1,[.d (.int .i64 c),.own n2 (LI .i32 ((Zc q_o)++(Zc q_f).map (Ziv (ZaK t r g (Zc q_f)))))])],[(n2,⟨false,1,LI .i32 ((Zc q_o)++(Zc q_f).map (Ziv (ZaK t r g (Zc q_f))))⟩)]⟩
 | _,_,_,_=>none
def Zbn:=And.intro (@Zgn.eq_1) (@Zgn.eq_1)
theorem ZrU:Snd Tryz.prog 169 Zgn:=by
 intro vs b k n e h hn hp
 unfold Zgn at h
 split at h
 ·cases h; obtain ⟨rfl,hp0,hp1,hp2,hl0,hl1,hl2,rfl,rfl,rfl,hd10,hd20,hd21,hq0,hq1⟩:=hp; obtain ⟨_,rfl⟩:=Zq hq0; obtain ⟨_,rfl⟩:=Zq hq1; simp only [Zi,Zo,Zj,Zp] at hp0 hp1 hp2 ⊢; exact Spec.ren3 (Ztr _ _ _ _ _ _ hp0 hp1 hp2) 0 1 2 (by simp [Za9,V.names,C.names,ZJ,ZK,Zz]) hl0 hl1 hl2 hd10 hd20 hd21
 ·cases h
def okX (x:Int):Bool:=decide (-1099511627776≤x) && decide (x≤1099511627776)
theorem ZE8 {x:Int} (h:okX x=true):-1099511627776≤x∧x≤1099511627776:=by simpa [okX] using h
def frL (c:Int) (s:List Int) (i:Nat):List Int:=(s.drop (i*c.toNat)).take c.toNat
def gAt (t r g c:Int) (s:List Int):Nat→Int
 | 0=>g
 | i+1=>ZaK t r (gAt t r g c s i) (frL c s i)
def oAt (t r g c:Int) (s:List Int):Nat→List Int
 | 0=>[]
 | i+1=>oAt t r g c s i++(frL c s i).map (Ziv (gAt t r g c s (i+1)))
def chB (c:Int) (s:List Int):Bool:=decide (c < 1) || decide (8 < c) || (s.length:Int).tmod c != 0 || decide (65536 < IntKind.i64.wrap ((s.length:Int).tdiv c))
theorem ZzV {c:Int} {s:List Int} (h:chB c s=false):1≤c∧c≤8∧s.length=s.length / c.toNat*c.toNat:=by
 simp only [chB,Bool.or_eq_false_iff,decide_eq_false_iff_not,bne_eq_false_iff_eq] at h
 obtain ⟨⟨⟨h1,h2⟩,h3⟩,_⟩:=h
 refine ⟨by omega,by omega,?_⟩
 have e:c=(c.toNat:Int):=by omega
 rw [e,Int.tmod_eq_emod_of_nonneg (by omega)] at h3
 have h4:s.length % c.toNat=0:=by exact_mod_cast h3
 exact (Nat.div_mul_cancel (Nat.dvd_of_mod_eq_zero h4)).symm
theorem ZsG {c:Int} {s:List Int} {i:Nat} (h:chB c s=false) (hi:i < s.length / c.toNat):(frL c s i).length=c.toNat:=by
 obtain ⟨h1,h2,h3⟩:=ZzV h
 unfold frL
 rw [List.length_take,List.length_drop]
 have:(i+1)*c.toNat≤s.length / c.toNat*c.toNat:=Nat.mul_le_mul_right _ hi
 rw [Nat.add_mul,Nat.one_mul] at this
 omega
theorem ZuY {t r g c:Int} {s:List Int} (h:Zao t r g=true):∀ i,Zao t r (gAt t r g c s i)=true
 | 0=>h
 | i+1=>by
  have h1:=ZuY h i (c:=c) (s:=s)
  have h2:=ZcS h
  have h3:=ZgS h1 (frL c s i)
  exact ZCI ⟨h2.1,h2.2.1,h3⟩
theorem ZfU {t r g c:Int} {s:List Int} (h:chB c s=false):∀ i,i≤s.length / c.toNat→(oAt t r g c s i).length=i*c.toNat
 | 0,_=>by simp [oAt]
 | i+1,hi=>by
  rw [oAt,List.length_append,List.length_map,ZfU h i (by omega),ZsG h (by omega),Nat.add_mul,Nat.one_mul]
def Zhb (t r g c:Int) (s:List Int):Int:=if Zao t r g=false then 1 else if chB c s=true then 2 else if s.all okX=false then 2 else 0
theorem Znm {t r g c:Int} {s:List Int} (h:Zao t r g=true) (h2:chB c s=false) (h3:s.all okX=true):Zhb t r g c s=0:=by
 simp [Zhb,h,h2,h3]
def Zql (t r g c:Int) (s:List Int):List Int:=if Zhb t r g c s=0 then oAt t r g c s (s.length / c.toNat) else []
def Zrt (t r g c:Int) (s:List Int):Int:=if Zhb t r g c s=0 then c else 0
def Zvv (t r g c:Int) (s:List Int):Int:=if Zhb t r g c s=0 then t else 0
def Zvu (t r g c:Int) (s:List Int):Int:=if Zhb t r g c s=0 then r else 0
def Zvq (t r g c:Int) (s:List Int):Int:=if Zhb t r g c s=0 then gAt t r g c s (s.length / c.toNat) else 0
theorem ZBT (t r g c:Int) (s:List Int) (hs:s.length≤1000000):Spec Tryz.prog 0 96 [.agg [.d (.int .i64 t),.d (.int .i64 r),.d (.int .i64 g)],vI .i64 c,vL (LI .i64 s)] [] [] (.tup [.agg [.int .i64 (Zrt t r g c s),.list (LI .i32 (Zql t r g c s))],.agg [.int .i64 (Zvv t r g c s),.int .i64 (Zvu t r g c s),.int .i64 (Zvq t r g c s)],.int .i64 (Zhb t r g c s)]) [] []:=by
 refine sE (md:=fun _=>0) (L:=[(168,Zgo),(169,Zgn)]) [(3,[0,0,0,0,0,4616223153142709711,0,0,0,0,0,4616223152119299535,0,0,0,0,0,4616223088734977487,0,0])] 4616222878281579983 (Za ZrV (Za ZrU Zb)) Tryz.func96 rfl rfl rfl ?_
 simp (maxSteps:=1000000) only [↓Zn,Ze,Zd,Zm,gSt,gS0,Ya,Yb,↓reduceIte,reduceCtorEq,Yc,Yd,Ye,Yf,Yg,Yj,Yk,Yl,Ym,Yn,Zbo,Zbn,gE1,gE2,gE3,Tryz.ntmps96,Tryz.results96,gTT]
 refine ⟨fun h=>?_,fun h=>⟨fun h2=>?_,fun h2=>?_,fun h2=>?_,fun h2=>?_⟩⟩
 ·have e:Zhb t r g c s=1:=by simp [Zhb,h]
  simp [Zrt,Zql,Zvv,Zvu,Zvq,e,Zw]
 ·simp only [Bool.or_eq_false_iff,decide_eq_false_iff_not] at h2; omega
 ·simp only [Bool.or_eq_false_iff,decide_eq_false_iff_not] at h2; omega
 ·have hv:Zao t r g=true:=by simpa using h
  have hc:chB c s=true:=h2
  have e:Zhb t r g c s=2:=by simp [Zhb,hv,hc]
  simp [Zrt,Zql,Zvv,Zvu,Zvq,e,Zw]
 have hv:Zao t r g=true:=by simpa using h
 have hc:chB c s=false:=h2
 obtain ⟨hc1,hc2,hc3⟩:=ZzV hc
 refine Zk (fun n=>⟨[(43,vI .i64 (n:Nat))],[],[]⟩) (fun n=>n≤s.length∧(s.take n).all okX=true) (fun n=>s.length - n) (·+1) 0 ⟨Nat.zero_le _,rfl⟩ ?_ ?_
 ·simp (maxSteps:=1000000) only [↓Zn,Ze,Zd,Zm,gSt,gS0,Ya,Yb,↓reduceIte,reduceCtorEq,Yc,Yd,Ye,Yf,Yg,Yj,Yk,Yl,Ym,Yn,Zbo,Zbn,gE1,gE2,gE3,Tryz.ntmps96,Tryz.results96,gTT]
  rfl
 rintro n ⟨hn,hok⟩
 simp (maxSteps:=1000000) only [↓Zn,Ze,Zd,Zm,gSt,gS0,Ya,Yb,↓reduceIte,reduceCtorEq,Yc,Yd,Ye,Yf,Yg,Yj,Yk,Yl,Ym,Yn,Zbo,Zbn,gE1,gE2,gE3,Tryz.ntmps96,Tryz.results96,gTT]
 refine ⟨fun h3=>?_,fun h3=>?_⟩
 ·have hlt:n < s.length:=by have:=of_decide_eq_true h3; omega
  have hg:s[n]?.getD 0=s[n]:=by rw [List.getElem?_eq_getElem hlt]; rfl
  rw [hg]
  refine ⟨by omega,fun h4=>?_,fun h4=>?_⟩
  ·have hbad:s.all okX=false:=by
    rw [List.all_eq_false]
    refine ⟨s[n],List.getElem_mem hlt,?_⟩
    simp only [Bool.or_eq_true,decide_eq_true_eq] at h4
    simp [okX]
    omega
   have e:Zhb t r g c s=2:=by simp [Zhb,hv,hc,hbad]
   simp [Zrt,Zql,Zvv,Zvu,Zvq,e,Zw]
  ·refine ⟨(ZY _ (by omega)).symm,⟨by omega,?_⟩,by omega⟩
   simp only [Bool.or_eq_false_iff,decide_eq_false_iff_not] at h4
   rw [List.take_add_one,List.getElem?_eq_getElem hlt,List.all_append,hok]
   simp [okX]
   omega
 have hall:s.all okX=true:=by
  have:n=s.length:=by have:=of_decide_eq_false h3; omega
  rw [this,List.take_length] at hok; exact hok
 have hE:=Znm hv hc hall
 refine Zdk ⟨1,11⟩ 1 1 ⟨1,99⟩ rfl rfl (by simp (maxSteps:=1000000) only [↓Zn,Ze,Zd,Zm,gSt,gS0,Ya,Yb,↓reduceIte,reduceCtorEq,Yc,Yd,Ye,Yf,Yg,Yj,Yk,Yl,Ym,Yn,Zbo,Zbn,gE1,gE2,gE3,Tryz.ntmps96,Tryz.results96,gTT]) (Nat.le_refl _) ?_
 simp (maxSteps:=1000000) only [↓Zn,Ze,Zd,Zm,gSt,gS0,Ya,Yb,↓reduceIte,reduceCtorEq,Yc,Yd,Ye,Yf,Yg,Yj,Yk,Yl,Ym,Yn,Zbo,Zbn,gE1,gE2,gE3,Tryz.ntmps96,Tryz.results96,gTT]
 refine Zk (fun i=>⟨[(13,vI .i64 ((i*c.toNat:Nat):Int))],[(⟨1,11⟩,[.d (.int .i64 c),.own ⟨1,99⟩ (LI .i32 (oAt t r g c s i))]),(⟨1,3⟩,[.d (.int .i64 t),.d (.int .i64 r),.d (.int .i64 (gAt t r g c s i))])],[(⟨1,99⟩,⟨false,1,LI .i32 (oAt t r g c s i)⟩)]⟩) (fun i=>i≤s.length / c.toNat) (fun i=>s.length / c.toNat - i) (·+1) 0 (Nat.zero_le _) ?_ ?_
 ·simp (maxSteps:=1000000) only [↓Zn,Ze,Zd,Zm,gSt,gS0,Ya,Yb,↓reduceIte,reduceCtorEq,Yc,Yd,Ye,Yf,Yg,Yj,Yk,Yl,Ym,Yn,Zbo,Zbn,gE1,gE2,gE3,Tryz.ntmps96,Tryz.results96,gTT]
  exact ⟨by simp,⟨rfl,rfl⟩,rfl⟩
 intro i hi
 simp (maxSteps:=1000000) only [↓Zn,Ze,Zd,Zm,gSt,gS0,Ya,Yb,↓reduceIte,reduceCtorEq,Yc,Yd,Ye,Yf,Yg,Yj,Yk,Yl,Ym,Yn,Zbo,Zbn,gE1,gE2,gE3,Tryz.ntmps96,Tryz.results96,gTT]
 have hm:(c.toNat:Int)=c:=by omega
 have hil:(oAt t r g c s i).length=i*c.toNat:=ZfU hc i hi
 refine ⟨fun h4=>?_,fun h4=>⟨by kernel_rfl,?_⟩⟩
 ·have hlt:i < s.length / c.toNat:=by
   have:=of_decide_eq_true h4
   rw [hc3] at this
   exact Nat.lt_of_mul_lt_mul_right (a:=c.toNat) (by omega)
  have hle:(i+1)*c.toNat≤s.length:=by
   have:=Nat.mul_le_mul_right c.toNat (show i+1≤s.length / c.toNat from hlt)
   omega
  have he:(i+1)*c.toNat=i*c.toNat+c.toNat:=by rw [Nat.add_mul,Nat.one_mul]
  have e1:IntKind.i64.wrap (((i*c.toNat:Nat):Int)+c)=(((i+1)*c.toNat:Nat):Int):=by
   rw [IntWalk.i64_in _ (by omega),he]
   omega
  have e2:((((i+1)*c.toNat:Nat):Int)).toNat - i*c.toNat=c.toNat:=by rw [he]; omega
  rw [e1,e2]
  have hfr:List.take c.toNat (List.drop (i*c.toNat) s)=frL c s i:=rfl
  rw [hfr]
  have hfl:=ZsG hc hlt
  refine ⟨by omega,⟨fun x hx=>ZE8 (List.all_eq_true.1 hall x (List.mem_of_mem_drop (List.mem_of_mem_take hx))),by omega,ZuY hv i⟩,⟨rfl,⟨rfl,rfl⟩,rfl⟩,by omega,by omega⟩
 have hik:i=s.length / c.toNat:=by
  have h5:=of_decide_eq_false h4
  rcases Nat.lt_or_ge i (s.length / c.toNat) with h6 | h6
  ·have:=Nat.mul_lt_mul_of_pos_right h6 (show 0 < c.toNat by omega)
   omega
  ·omega
 simp only [Zrt,Zql,Zvv,Zvu,Zvq,hE,if_true,hik]
def Zol:List V→Zf→Zr→Name→Option Ent
 | [.agg [.d (.int .i64 t),.d (.int .i64 r),.d (.int .i64 g)],.c (.d (.int .i64 c)),.c (.d (.list q_s))],[],[],_=>some ⟨(Zc q_s).length≤1000000∧q_s=LI .i64 (Zc q_s),.tup [.agg [.int .i64 (Zrt t r g c (Zc q_s)),.list (LI .i32 (Zql t r g c (Zc q_s)))],.agg [.int .i64 (Zvv t r g c (Zc q_s)),.int .i64 (Zvu t r g c (Zc q_s)),.int .i64 (Zvq t r g c (Zc q_s))],.int .i64 (Zhb t r g c (Zc q_s))],[],[]⟩
 | _,_,_,_=>none
def ZyI:=And.intro (@Zol.eq_1) (@Zol.eq_1)
theorem ZyJ:Snd Tryz.prog 96 Zol:=by
 intro vs b k n e h hn hp
 unfold Zol at h
 split at h
 ·cases h; obtain ⟨hp0,hq0⟩:=hp; obtain ⟨_,rfl⟩:=Zq hq0; simp only [Zi,Zo,Zj,Zp] at hp0 ⊢; exact (ZBT _ _ _ _ _ hp0).lift rfl _
 ·cases h
theorem ZBf {p x:Int} (hp:0≤p):ZhJ p x=if p < ZgW x then ZgW x else p:=by unfold ZhJ ZgW; omega
theorem ZfR:∀ (f:List Int) (p:Int),0≤p→(∀ x∈f,-1099511627776≤x∧x≤1099511627776)→p≤f.foldl ZhJ p∧(∀ x∈f,ZgW x≤f.foldl ZhJ p)∧(p≤1099511627776→f.foldl ZhJ p≤1099511627776)
 | [],p,hp,hf=>⟨Int.le_refl _,by simp,fun h=>h⟩
 | x::f,p,hp,hf=>by
  have hx:=hf x (by simp)
  have h1:p≤ZhJ p x∧ZgW x≤ZhJ p x∧(p≤1099511627776→ZhJ p x≤1099511627776):=by unfold ZhJ ZgW; omega
  obtain ⟨h2,h3,h4⟩:=ZfR f (ZhJ p x) (by omega) (fun y hy=>hf y (by simp [hy]))
  simp only [List.foldl_cons]
  refine ⟨by omega,fun y hy=>?_,fun h=>h4 (h1.2.2 h)⟩
  rcases List.mem_cons.1 hy with rfl | hy
  ·omega
  ·exact h3 y hy
theorem ZDO {f:List Int} (hf:∀ x∈f,-1099511627776≤x∧x≤1099511627776) (n:Nat):0≤Ziz f n∧Ziz f n≤1099511627776:=by
 obtain ⟨h1,_,h3⟩:=ZfR (f.take n) 0 (Int.le_refl _) (fun x hx=>hf x (List.mem_of_mem_take hx))
 exact ⟨h1,h3 (by decide)⟩
theorem ZzE {t r g:Int} (hv:Zao t r g=true) {f:List Int} (hf:∀ x∈f,-1099511627776≤x∧x≤1099511627776) {x:Int} (hx:x∈f):0≤ZgW x*ZaK t r g f / 65536∧ZgW x*ZaK t r g f / 65536≤t:=by
 obtain ⟨h1,h2,h3⟩:=ZfR f 0 (Int.le_refl _) hf
 have hm:=h2 x hx
 have hp:=h3 (by decide)
 have hvi:=ZcS hv
 have hg:=ZgS hv f
 have h0:0≤ZgW x:=by unfold ZgW; omega
 have hgn:ZaK t r g f≤ZaD t (Zg0 f):=by unfold ZaK ZHK; omega
 refine ⟨Int.ediv_nonneg (Int.mul_nonneg h0 hg.1) (by decide),Int.ediv_le_of_le_mul (by decide) ?_⟩
 have e1:ZgW x*ZaK t r g f≤Zg0 f*ZaK t r g f:=Int.mul_le_mul_of_nonneg_right hm hg.1
 have e2:Zg0 f*ZaK t r g f≤Zg0 f*ZaD t (Zg0 f):=Int.mul_le_mul_of_nonneg_left hgn (by unfold Zg0; exact h1)
 have e3:Zg0 f*ZaD t (Zg0 f)≤t*65536:=by
  have hpk:0≤Zg0 f∧Zg0 f≤1099511627776:=⟨h1,hp⟩
  unfold ZaD
  split
  ·rename_i h; simp only [Bool.or_eq_true,decide_eq_true_eq] at h; omega
  ·split
   ·rename_i h; exact Int.mul_le_mul_of_nonneg_right h (by decide)
   ·rw [Int.mul_comm]; exact Int.ediv_mul_le _ (by omega)
 omega
theorem ZFG {t r g:Int} (hv:Zao t r g=true) {f:List Int} (hf:∀ x∈f,-1099511627776≤x∧x≤1099511627776) {x:Int} (hx:x∈f) :
  (x < 0→Ziv (ZaK t r g f) x=-(ZgW x*ZaK t r g f / 65536))∧(¬ x < 0→Ziv (ZaK t r g f) x=ZgW x*ZaK t r g f / 65536):=by
 have h1:=ZzE hv hf hx
 have hvi:=ZcS hv
 have hg:=ZgS hv f
 refine ⟨fun h=>?_,fun h=>?_⟩
 ·have e:ZgW x=-x:=by unfold ZgW; rw [if_pos h]
  rw [e] at h1 ⊢
  have e2:(x*ZaK t r g f).tdiv 65536=-((-x)*ZaK t r g f / 65536):=by
   have h2:0≤(-x)*ZaK t r g f:=Int.mul_nonneg (by omega) hg.1
   rw [← Int.tdiv_eq_ediv_of_nonneg h2,Int.neg_mul,Int.neg_tdiv,Int.neg_neg]
  unfold Ziv ZnO
  rw [e2]
  omega
 ·have e:ZgW x=x:=by unfold ZgW; rw [if_neg h]
  rw [e] at h1 ⊢
  have h2:0≤x*ZaK t r g f:=Int.mul_nonneg (by omega) hg.1
  unfold Ziv ZnO
  rw [Int.tdiv_eq_ediv_of_nonneg h2]
  omega
theorem ZxH (t r g c:Int) (s:List Int) (hs:s.length≤1000000):Spec Tryz.prog 0 41 [.agg [.d (.int .i64 t),.d (.int .i64 r),.d (.int .i64 g)],vI .i64 c,vL (LI .i64 s)] [] [] (.tup [.agg [.int .i64 (Zrt t r g c s),.list (LI .i32 (Zql t r g c s))],.agg [.int .i64 (Zvv t r g c s),.int .i64 (Zvu t r g c s),.int .i64 (Zvq t r g c s)],.int .i64 (Zhb t r g c s)]) [] []:=by
 refine sE (md:=fun _=>0) (L:=[(89,Zdu),(105,Zdt),(104,Zoj)]) [(3,[0,0,0,0,0,41614433904859072702442735980166607,0,0,0,0,0,41614433904859072702442703231040975,0,0,0,0,0,41614433904859072702440674932735439,0,0]),(21,[0,0,0,0,0,41614590504274042303038715163229647,0,0,0,0,0,0])] 41614433904859072702433940424015311 (Za ZhY (Za Zmy (Za ZyH Zb))) Tryz.func41 rfl rfl rfl ?_
 simp (maxSteps:=1000000) only [↓Zn,Ze,Zd,Zm,gSt,gS0,Ya,Yb,↓reduceIte,reduceCtorEq,Yc,Yd,Ye,Yf,Yg,Yj,Yk,Yl,Ym,Yn,Z3,Z0,ZaZ,gE1,gE2,gE3,Tryz.ntmps41,Tryz.results41,gTT]
 refine ⟨fun h=>?_,fun h=>⟨fun h2=>?_,fun h2=>?_,fun h2=>?_,fun h2=>?_⟩⟩
 ·have e:Zhb t r g c s=1:=by simp [Zhb,h]
  simp [Zrt,Zql,Zvv,Zvu,Zvq,e,Zw]
 ·simp only [Bool.or_eq_false_iff,decide_eq_false_iff_not] at h2; omega
 ·simp only [Bool.or_eq_false_iff,decide_eq_false_iff_not] at h2; omega
 ·have hv:Zao t r g=true:=by simpa using h
  have hc:chB c s=true:=h2
  have e:Zhb t r g c s=2:=by simp [Zhb,hv,hc]
  simp [Zrt,Zql,Zvv,Zvu,Zvq,e,Zw]
 have hv:Zao t r g=true:=by simpa using h
 have hc:chB c s=false:=h2
 obtain ⟨hc1,hc2,hc3⟩:=ZzV hc
 refine Zk (fun n=>⟨[(48,vI .i64 (n:Nat))],[],[]⟩) (fun n=>n≤s.length∧(s.take n).all okX=true) (fun n=>s.length - n) (·+1) 0 ⟨Nat.zero_le _,rfl⟩ ?_ ?_
 ·simp (maxSteps:=1000000) only [↓Zn,Ze,Zd,Zm,gSt,gS0,Ya,Yb,↓reduceIte,reduceCtorEq,Yc,Yd,Ye,Yf,Yg,Yj,Yk,Yl,Ym,Yn,Z3,Z0,ZaZ,gE1,gE2,gE3,Tryz.ntmps41,Tryz.results41,gTT]
  rfl
 rintro n ⟨hn,hok⟩
 simp (maxSteps:=1000000) only [↓Zn,Ze,Zd,Zm,gSt,gS0,Ya,Yb,↓reduceIte,reduceCtorEq,Yc,Yd,Ye,Yf,Yg,Yj,Yk,Yl,Ym,Yn,Z3,Z0,ZaZ,gE1,gE2,gE3,Tryz.ntmps41,Tryz.results41,gTT]
 refine ⟨fun h3=>?_,fun h3=>?_⟩
 ·have hlt:n < s.length:=by have:=of_decide_eq_true h3; omega
  have hg:s[n]?.getD 0=s[n]:=by rw [List.getElem?_eq_getElem hlt]; rfl
  rw [hg]
  refine ⟨by omega,fun h4=>?_,fun h4=>?_⟩
  ·have hbad:s.all okX=false:=by
    rw [List.all_eq_false]
    refine ⟨s[n],List.getElem_mem hlt,?_⟩
    simp only [Bool.or_eq_true,decide_eq_true_eq] at h4
    simp [okX]
    omega
   have e:Zhb t r g c s=2:=by simp [Zhb,hv,hc,hbad]
   simp [Zrt,Zql,Zvv,Zvu,Zvq,e,Zw]
  ·refine ⟨(ZY _ (by omega)).symm,⟨by omega,?_⟩,by omega⟩
   simp only [Bool.or_eq_false_iff,decide_eq_false_iff_not] at h4
   rw [List.take_add_one,List.getElem?_eq_getElem hlt,List.all_append,hok]
   simp [okX]
   omega
 have hall:s.all okX=true:=by
  have:n=s.length:=by have:=of_decide_eq_false h3; omega
  rw [this,List.take_length] at hok; exact hok
 have hE:=Znm hv hc hall
 refine Zdk ⟨1,11⟩ 1 1 ⟨1,99⟩ rfl rfl (by simp (maxSteps:=1000000) only [↓Zn,Ze,Zd,Zm,gSt,gS0,Ya,Yb,↓reduceIte,reduceCtorEq,Yc,Yd,Ye,Yf,Yg,Yj,Yk,Yl,Ym,Yn,Z3,Z0,ZaZ,gE1,gE2,gE3,Tryz.ntmps41,Tryz.results41,gTT]) (Nat.le_refl _) ?_
 simp (maxSteps:=1000000) only [↓Zn,Ze,Zd,Zm,gSt,gS0,Ya,Yb,↓reduceIte,reduceCtorEq,Yc,Yd,Ye,Yf,Yg,Yj,Yk,Yl,Ym,Yn,Z3,Z0,ZaZ,gE1,gE2,gE3,Tryz.ntmps41,Tryz.results41,gTT]
 refine Zk (fun i=>⟨[(12,vI .i64 ((i*c.toNat:Nat):Int))],[(⟨1,11⟩,[.d (.int .i64 c),.own ⟨1,99⟩ (LI .i32 (oAt t r g c s i))]),(⟨1,3⟩,[.d (.int .i64 t),.d (.int .i64 r),.d (.int .i64 (gAt t r g c s i))])],[(⟨1,99⟩,⟨false,1,LI .i32 (oAt t r g c s i)⟩)]⟩) (fun i=>i≤s.length / c.toNat) (fun i=>s.length / c.toNat - i) (·+1) 0 (Nat.zero_le _) ?_ ?_
 ·simp (maxSteps:=1000000) only [↓Zn,Ze,Zd,Zm,gSt,gS0,Ya,Yb,↓reduceIte,reduceCtorEq,Yc,Yd,Ye,Yf,Yg,Yj,Yk,Yl,Ym,Yn,Z3,Z0,ZaZ,gE1,gE2,gE3,Tryz.ntmps41,Tryz.results41,gTT]
  exact ⟨by simp,⟨rfl,rfl⟩,rfl⟩
 intro i hi
 simp (maxSteps:=1000000) only [↓Zn,Ze,Zd,Zm,gSt,gS0,Ya,Yb,↓reduceIte,reduceCtorEq,Yc,Yd,Ye,Yf,Yg,Yj,Yk,Yl,Ym,Yn,Z3,Z0,ZaZ,gE1,gE2,gE3,Tryz.ntmps41,Tryz.results41,gTT]
 have hm:(c.toNat:Int)=c:=by omega
 have hil:(oAt t r g c s i).length=i*c.toNat:=ZfU hc i hi
 have hlt':decide (((i*c.toNat:Nat):Int) < (s.length:Int))=true→i < s.length / c.toNat∧(i+1)*c.toNat≤s.length:=fun h4=>by
  have hlt:i < s.length / c.toNat:=by
   have:=of_decide_eq_true h4
   rw [hc3] at this
   exact Nat.lt_of_mul_lt_mul_right (a:=c.toNat) (by omega)
  have:=Nat.mul_le_mul_right c.toNat (show i+1≤s.length / c.toNat from hlt)
  exact ⟨hlt,by omega⟩
 refine ⟨fun h4=>?_,fun h4=>⟨by kernel_rfl,?_⟩⟩
 ·obtain ⟨hlt,hle⟩:=hlt' h4
  have he:(i+1)*c.toNat=i*c.toNat+c.toNat:=by rw [Nat.add_mul,Nat.one_mul]
  have e1:IntKind.i64.wrap (((i*c.toNat:Nat):Int)+c)=(((i+1)*c.toNat:Nat):Int):=by
   rw [IntWalk.i64_in _ (by omega),he]
   omega
  have e2:((((i+1)*c.toNat:Nat):Int)).toNat - i*c.toNat=c.toNat:=by rw [he]; omega
  rw [e1,e2]
  have hfr:List.take c.toNat (List.drop (i*c.toNat) s)=frL c s i:=rfl
  rw [hfr]
  have hfl:=ZsG hc hlt
  have hF:∀ x∈frL c s i,-1099511627776≤x∧x≤1099511627776:=fun x hx=>ZE8 (List.all_eq_true.1 hall x (List.mem_of_mem_drop (List.mem_of_mem_take hx)))
  have hvi:=ZuY (c:=c) (s:=s) hv i
  have hG1:gAt t r g c s (i+1)=ZaK t r (gAt t r g c s i) (frL c s i):=rfl
  have hO1:oAt t r g c s (i+1)=oAt t r g c s i++(frL c s i).map (Ziv (gAt t r g c s (i+1))):=rfl
  refine ⟨by omega,?_⟩
  generalize hFF:frL c s i=F at *
  refine Zk (fun n=>⟨[(77,vI .i64 (n:Nat)),(13,vI .i64 (Ziz F n))],[],[]⟩) (fun n=>n≤F.length) (fun n=>F.length - n) (·+1) 0 (Nat.zero_le _) ?_ ?_
  ·simp (maxSteps:=1000000) only [↓Zn,Ze,Zd,Zm,gSt,gS0,Ya,Yb,↓reduceIte,reduceCtorEq,Yc,Yd,Ye,Yf,Yg,Yj,Yk,Yl,Ym,Yn,Z3,Z0,ZaZ,gE1,gE2,gE3,Tryz.ntmps41,Tryz.results41,gTT]
   exact ⟨rfl,rfl⟩
  intro n' hn'
  simp (maxSteps:=1000000) only [↓Zn,Ze,Zd,Zm,gSt,gS0,Ya,Yb,↓reduceIte,reduceCtorEq,Yc,Yd,Ye,Yf,Yg,Yj,Yk,Yl,Ym,Yn,Z3,Z0,ZaZ,gE1,gE2,gE3,Tryz.ntmps41,Tryz.results41,gTT]
  refine ⟨fun h5=>?_,fun h5=>⟨by kernel_rfl,?_⟩⟩
  ·have hlt:n' < F.length:=by have:=of_decide_eq_true h5; omega
   have hx:=hF _ (List.getElem_mem hlt)
   have hg:F[n']?.getD 0=F[n']:=by rw [List.getElem?_eq_getElem hlt]; rfl
   refine ⟨by omega,by rw [hg]; exact hx,⟨(ZY _ (by omega)).symm,?_⟩,by omega,by omega⟩
   rw [hg]
   have h6:=ZDO hF n'
   simp only [Ziz,List.take_add_one,List.getElem?_eq_getElem hlt,List.foldl_append,Option.toList_some,List.foldl_cons,List.foldl_nil]
   exact ZBf h6.1
  have hnl:n'=F.length:=by have:=of_decide_eq_false h5; omega
  rw [e1,e2,hfr]
  have hG:(if IntKind.i64.wrap (gAt t r g c s i+r) < ZaD t (Ziz F n') then IntKind.i64.wrap (gAt t r g c s i+r) else ZaD t (Ziz F n'))=gAt t r g c s (i+1):=by
   have:=ZcS hvi
   rw [IntWalk.i64_in (gAt t r g c s i+r) (by omega),hnl,hG1]
   simp only [ZaK,ZHK,Ziz,Zg0,List.take_length]
   rfl
  rw [hG]
  refine ⟨by omega,?_⟩
  have hGin:=ZgS hvi F
  rw [← hG1] at hGin
  refine Zk (fun n=>⟨[(104,vI .i64 (n:Nat))],[(⟨1,11⟩,[.d (.int .i64 c),.own ⟨1,99⟩ (LI .i32 (oAt t r g c s i++(F.take n).map (Ziv (gAt t r g c s (i+1)))))])],[(⟨1,99⟩,⟨false,1,LI .i32 (oAt t r g c s i++(F.take n).map (Ziv (gAt t r g c s (i+1))))⟩)]⟩) (fun n=>n≤F.length) (fun n=>F.length - n) (·+1) 0 (Nat.zero_le _) ?_ ?_
  ·simp (maxSteps:=1000000) only [↓Zn,Ze,Zd,Zm,gSt,gS0,Ya,Yb,↓reduceIte,reduceCtorEq,Yc,Yd,Ye,Yf,Yg,Yj,Yk,Yl,Ym,Yn,Z3,Z0,ZaZ,gE1,gE2,gE3,Tryz.ntmps41,Tryz.results41,gTT]
   rfl
  intro n2 hn2
  simp (maxSteps:=1000000) only [↓Zn,Ze,Zd,Zm,gSt,gS0,Ya,Yb,↓reduceIte,reduceCtorEq,Yc,Yd,Ye,Yf,Yg,Yj,Yk,Yl,Ym,Yn,Z3,Z0,ZaZ,gE1,gE2,gE3,Tryz.ntmps41,Tryz.results41,gTT]
  have hlen:(oAt t r g c s i++List.map (Ziv (gAt t r g c s (i+1))) (List.take n2 F)).length≤1000000:=by
   rw [List.length_append,List.length_map,List.length_take,hil]; omega
  refine ⟨fun h6=>?_,fun h6=>?_⟩
  ·have hlt2:n2 < F.length:=by have:=of_decide_eq_true h6; omega
   have hg:F[n2]?.getD 0=F[n2]:=by rw [List.getElem?_eq_getElem hlt2]; rfl
   have hx:=hF _ (List.getElem_mem hlt2)
   have hth:=ZzE hvi hF (List.getElem_mem hlt2)
   have hre:=ZFG hvi hF (List.getElem_mem hlt2)
   rw [← hG1] at hth hre
   have hvt:=ZcS hv
   have hmg:0≤ZgW F[n2]∧ZgW F[n2]≤1099511627776:=by unfold ZgW; omega
   have hmul:=ZkB (x:=ZgW F[n2]) (y:=gAt t r g c s (i+1)) (A:=1099511627776) (B:=65536) (by omega) hmg.2 hGin.1 hGin.2 (by decide)
   have hnn:0≤ZgW F[n2]*gAt t r g c s (i+1):=Int.mul_nonneg hmg.1 hGin.1
   have htk:List.map (Ziv (gAt t r g c s (i+1))) (List.take (n2+1) F)=List.map (Ziv (gAt t r g c s (i+1))) (List.take n2 F)++[Ziv (gAt t r g c s (i+1)) F[n2]]:=by
    rw [List.take_add_one,List.getElem?_eq_getElem hlt2,List.map_append]; rfl
   rw [hg,htk,IntWalk.i64_in (ZgW F[n2]*gAt t r g c s (i+1)) (by omega),Int.tdiv_eq_ediv_of_nonneg hnn,IntWalk.i64_in (ZgW F[n2]*gAt t r g c s (i+1) / 65536) (by omega),IntWalk.i64_in (0 - ZgW F[n2]*gAt t r g c s (i+1) / 65536) (by omega)]
   refine ⟨by omega,by kernel_rfl,hx,by decide,fun h7=>?_,fun h7=>?_⟩
   ·rw [hre.1 (of_decide_eq_true h7),IntWalk.i32_in _ (by omega),Int.zero_sub,List.append_assoc]
    refine ⟨by unfold Zab; omega,⟨(ZY _ (by omega)).symm,rfl,rfl⟩,by omega,by omega⟩
   ·rw [hre.2 (of_decide_eq_false h7),IntWalk.i32_in _ (by omega),List.append_assoc]
    refine ⟨by unfold Zab; omega,⟨(ZY _ (by omega)).symm,rfl,rfl⟩,by omega,by omega⟩
  ·have hnl2:n2=F.length:=by have:=of_decide_eq_false h6; omega
   rw [hnl2,List.take_length,e1,← hO1]
 
   exact ⟨⟨rfl,rfl,rfl⟩,by omega,by omega⟩
 have hik:i=s.length / c.toNat:=by
  have h5:=of_decide_eq_false h4
  rcases Nat.lt_or_ge i (s.length / c.toNat) with h6 | h6
  ·have:=Nat.mul_lt_mul_of_pos_right h6 (show 0 < c.toNat by omega)
   omega
  ·omega
 simp only [Zrt,Zql,Zvv,Zvu,Zvq,hE,if_true,hik]
def Zjg:List V→Zf→Zr→Name→Option Ent
 | [.agg [.d (.int .i64 t),.d (.int .i64 r),.d (.int .i64 g)],.c (.d (.int .i64 c)),.c (.d (.list q_s))],[],[],_=>some ⟨(Zc q_s).length≤1000000∧q_s=LI .i64 (Zc q_s),.tup [.agg [.int .i64 (Zrt t r g c (Zc q_s)),.list (LI .i32 (Zql t r g c (Zc q_s)))],.agg [.int .i64 (Zvv t r g c (Zc q_s)),.int .i64 (Zvu t r g c (Zc q_s)),.int .i64 (Zvq t r g c (Zc q_s))],.int .i64 (Zhb t r g c (Zc q_s))],[],[]⟩
 | _,_,_,_=>none
def Zbv:=And.intro (@Zjg.eq_1) (@Zjg.eq_1)
theorem Zv7:Snd Tryz.prog 41 Zjg:=by
 intro vs b k n e h hn hp
 unfold Zjg at h
 split at h
 ·cases h; obtain ⟨hp0,hq0⟩:=hp; obtain ⟨_,rfl⟩:=Zq hq0; simp only [Zi,Zo,Zj,Zp] at hp0 ⊢; exact (ZxH _ _ _ _ _ hp0).lift rfl _
 ·cases h
end Go.Vam
