/- A part of the proof. Conditions: none. -/
import Derived.Test.YtmpbpijnbmpbhaaGreatBDa
set_option linter.unusedVariables false
set_option linter.defProp false
set_option linter.unusedSimpArgs false
set_option maxRecDepth 40000
set_option maxHeartbeats 4000000
namespace Go.Vam
open Go.Proofs Go.RowKit
open Nat renaming reduceShiftRight→Ya,reduceMod→Yb,reduceEqDiff→Yc,reduceLT→Yd,reduceLeDiff→Ye,reduceAdd→Yf,reduceMul→Yg
open Int renaming reduceLE→Yj,reduceLT→Yk,reduceNeg→Yl,reduceAdd→Ym,reduceToNat→Yn
def ZdK (x:Int):Bool:=decide (-131072≤x) && decide (x≤131072)
def mxB (a b:Int) (n:Nat):Bool:=decide (a < 1) || decide (8 < a) || decide (b < 1) || decide (8 < b) || (n:Int) != IntKind.i64.wrap (a*b)
def mxV (a b:Int) (l:List Int):Bool:=!mxB a b l.length && l.all ZdK
theorem ZDi {x:Int} (h:ZdK x=true):-131072≤x∧x≤131072:=by simpa [ZdK] using h
theorem ZHO {a b:Int} (ha:1≤a∧a≤8) (hb:1≤b∧b≤8):1≤a*b∧a*b≤64:=by
 have h1:a*b≤8*8:=Int.mul_le_mul ha.2 hb.2 (by omega) (by decide)
 have h2:1*1≤a*b:=Int.mul_le_mul ha.1 hb.1 (by decide) (by omega)
 omega
theorem ZHP {a b:Int} {n:Nat} (h:mxB a b n=false):(1≤a∧a≤8)∧(1≤b∧b≤8)∧n=a.toNat*b.toNat:=by
 simp only [mxB,Bool.or_eq_false_iff,decide_eq_false_iff_not,bne_eq_false_iff_eq] at h
 obtain ⟨⟨⟨⟨h1,h2⟩,h3⟩,h4⟩,h5⟩:=h
 have hm:=ZHO (a:=a) (b:=b) (by omega) (by omega)
 rw [IntWalk.i64_in (a*b) (by omega)] at h5
 refine ⟨by omega,by omega,?_⟩
 have e1:a=(a.toNat:Int):=by omega
 have e2:b=(b.toNat:Int):=by omega
 rw [e1,e2,← Int.natCast_mul] at h5
 exact_mod_cast h5
theorem Zp5 {a b:Int} {l:List Int} (h:mxV a b l=true):(1≤a∧a≤8)∧(1≤b∧b≤8)∧l.length=a.toNat*b.toNat∧l.all ZdK=true:=by
 simp only [mxV,Bool.and_eq_true,Bool.not_eq_true'] at h
 obtain ⟨h1,h2,h3⟩:=ZHP h.1
 exact ⟨h1,h2,h3,h.2⟩
theorem Zub {l:List Int} {n:Nat} (h:n < l.length) (ha:(l.take n).all ZdK=true) (hx:ZdK l[n]=true):(l.take (n+1)).all ZdK=true:=by
 rw [List.take_add_one,List.getElem?_eq_getElem h,List.all_append,ha]
 simpa using hx
theorem ZzD {l:List Int} {n:Nat} (h:n < l.length) (hx:ZdK l[n]=false):l.all ZdK=false:=by
 rw [List.all_eq_false]
 exact ⟨l[n],List.getElem_mem h,by simp [hx]⟩
def Zyn (a:Nat) (l:List Int) (i:Nat):List Int:=(l.drop (i*a)).take a
def Znl (a:Nat) (l:List Int) (n:Nat):List (List Int):=(List.range n).map (Zyn a l)
def ZkT (a:Nat) (l:List Int) (n g:Nat):List (List Int):=(List.range n).map fun i=>if i < g then Zyn a l i else []
theorem Zxi (a:Nat) (l:List Int) (n:Nat):ZkT a l n 0=List.replicate n []:=by
 apply List.ext_getElem
 ·simp [ZkT]
 ·intro i h1 h2; simp [ZkT]
theorem ZBr (a:Nat) (l:List Int) (n:Nat):ZkT a l n n=Znl a l n:=by
 apply List.map_congr_left
 intro i hi
 rw [List.mem_range] at hi
 rw [if_pos hi]
theorem ZBs (a:Nat) (l:List Int) (n g:Nat):(ZkT a l n g).length=n:=by simp [ZkT]
theorem Zxh (a:Nat) (l:List Int) (n g:Nat):ZkT a l n (g+1)=(ZkT a l n g).set g (Zyn a l g):=by
 apply List.ext_getElem
 ·simp [ZkT]
 ·intro i h1 h2
  simp only [ZkT,List.getElem_map,List.getElem_range,List.getElem_set]
  by_cases e:g=i
  ·subst e; simp
  ·rw [if_neg e]
   by_cases h:i < g
   ·rw [if_pos h,if_pos (by omega)]
   ·rw [if_neg h,if_neg (by omega)]
def ZCA (k:Name) (a n g:Nat):List C:=(List.range n).map fun i=>if i < g then C.vw k (i*a) a else .nil
theorem ZvG (k:Name) (a n g:Nat):(ZCA k a n g).length=n:=by simp [ZCA]
theorem ZCC (k:Name) (a n:Nat):ZCA k a n 0=List.replicate n .nil:=by
 apply List.ext_getElem
 ·simp [ZCA]
 ·intro i h1 h2; simp [ZCA]
theorem ZEm (k:Name) (a n:Nat):ZCA k a n n=ZGF k a n:=by
 apply List.map_congr_left
 intro i hi
 rw [List.mem_range] at hi
 rw [if_pos hi]
theorem ZAO {β:Type}:∀ (l:List β) (g:Nat) (y:β),g < l.length→lay l g [y]=l.set g y
 | [],_,_,h=>absurd h (Nat.not_lt_zero _)
 | x::l,0,y,_=>rfl
 | x::l,g+1,y,h=>by
  show x::lay l g [y]=x::l.set g y
  rw [ZAO l g y (by simpa using h)]
theorem ZCB (k:Name) (a n g:Nat) (hg:g < n):lay (ZCA k a n g) g [C.vw k (g*a) a]=ZCA k a n (g+1):=by
 rw [ZAO _ _ _ (by rw [ZvG]; exact hg)]
 apply List.ext_getElem
 ·simp [ZCA]
 ·intro i h1 h2
  simp only [ZCA,List.getElem_map,List.getElem_range,List.getElem_set]
  by_cases e:g=i
  ·subst e; simp
  ·rw [if_neg e]
   by_cases h:i < g
   ·rw [if_pos h,if_pos (by omega)]
   ·rw [if_neg h,if_neg (by omega)]
theorem Ztv (a b:Int) (l:List Int) (hl:l.length≤1000000):Spec Tryz.prog 0 221 [.agg [.d (.int .i64 a),.d (.int .i64 b),.d (.list (LI .i64 l))]] [] [] (vB (mxV a b l)) [] []:=by
 refine sE (md:=fun _=>0) (L:=[]) [(1,[0,0,0,0,0,70901320121623,0,0,0,0,0,70901320065047,0,0,0,0,0,70901315928087,0,0,0,0,0,70901127184407,0,0,0,0,0])] 70892730187799 Zb Tryz.func221 rfl rfl rfl ?_
 simp (maxSteps:=1000000) only [↓Zn,Ze,Zd,Zm,gSt,gS0,Ya,Yb,↓reduceIte,reduceCtorEq,Yc,Yd,Ye,Yf,Yg,Yj,Yk,Yl,Ym,Yn,gE1,Tryz.ntmps221,Tryz.results221,gTT]
 refine ⟨fun h=>?_,fun h=>?_⟩
 ·have hc:mxB a b l.length=true:=h
  simp [mxV,hc]
 have hc:mxB a b l.length=false:=h
 refine Zk (fun n=>⟨[(37,vI .i64 (n:Nat))],[],[]⟩) (fun n=>n≤l.length∧(l.take n).all ZdK=true) (fun n=>l.length - n) (·+1) 0 ⟨Nat.zero_le _,rfl⟩ ?_ ?_
 ·simp (maxSteps:=1000000) only [↓Zn,Ze,Zd,Zm,gSt,gS0,Ya,Yb,↓reduceIte,reduceCtorEq,Yc,Yd,Ye,Yf,Yg,Yj,Yk,Yl,Ym,Yn,gE1,Tryz.ntmps221,Tryz.results221,gTT]
  rfl
 rintro n ⟨hn,hok⟩
 simp (maxSteps:=1000000) only [↓Zn,Ze,Zd,Zm,gSt,gS0,Ya,Yb,↓reduceIte,reduceCtorEq,Yc,Yd,Ye,Yf,Yg,Yj,Yk,Yl,Ym,Yn,gE1,Tryz.ntmps221,Tryz.results221,gTT]
 refine ⟨fun h1=>?_,fun h1=>?_⟩
 ·have hlt:n < l.length:=by have:=of_decide_eq_true h1; omega
  have hg:l[n]?.getD 0=l[n]:=by rw [List.getElem?_eq_getElem hlt]; rfl
  rw [hg]
  refine ⟨by omega,fun h2=>?_,fun h2=>?_⟩
  ·have hx:ZdK l[n]=false:=by
    simp only [Bool.or_eq_true,decide_eq_true_eq] at h2
    simp only [ZdK,Bool.and_eq_false_iff,decide_eq_false_iff_not]
    omega
   simp [mxV,ZzD hlt hx]
  ·have hx:ZdK l[n]=true:=by
    simp only [Bool.or_eq_false_iff,decide_eq_false_iff_not] at h2
    simp only [ZdK,Bool.and_eq_true,decide_eq_true_eq]
    omega
   exact ⟨(ZY _ (by omega)).symm,⟨by omega,Zub hlt hok hx⟩,by omega⟩
 ·have:n=l.length:=by have:=of_decide_eq_false h1; omega
  rw [this,List.take_length] at hok
  simp [mxV,hc,hok]
def Zfe:List V→Zf→Zr→Name→Option Ent
 | [.agg [.d (.int .i64 a),.d (.int .i64 b),.d (.list q_l)]],[],[],_=>some ⟨(Zc q_l).length≤1000000∧q_l=LI .i64 (Zc q_l),vB (mxV a b (Zc q_l)),[],[]⟩
 | _,_,_,_=>none
def Zay:=And.intro (@Zfe.eq_1) (@Zfe.eq_1)
theorem Zjj:Snd Tryz.prog 221 Zfe:=by
 intro vs b k n e h hn hp
 unfold Zfe at h
 split at h
 ·cases h; obtain ⟨hp0,hq0⟩:=hp; obtain ⟨_,rfl⟩:=Zq hq0; simp only [Zi,Zo,Zj,Zp] at hp0 ⊢; exact (Ztv _ _ _ hp0).lift rfl _
 ·cases h
theorem Zq5 (a b:Int) (l:List Int) (hl:l.length≤1000000):Spec Tryz.prog 0 102 [.agg [.d (.int .i64 a),.d (.int .i64 b),.d (.list (LI .i64 l))]] [] [] (vB (mxV a b l)) [] []:=by
 refine sE (md:=fun _=>0) (L:=[]) [(1,[0,0,0,0,0,70901320121623,0,0,0,0,0,70901320065047,0,0,0,0,0,70901315928087,0,0,0,0,0,70901127184407,0,0,0,0,0])] 70892730187799 Zb Tryz.func102 rfl rfl rfl ?_
 simp (maxSteps:=1000000) only [↓Zn,Ze,Zd,Zm,gSt,gS0,Ya,Yb,↓reduceIte,reduceCtorEq,Yc,Yd,Ye,Yf,Yg,Yj,Yk,Yl,Ym,Yn,gE1,Tryz.ntmps102,Tryz.results102,gTT]
 refine ⟨fun h=>?_,fun h=>?_⟩
 ·have hc:mxB a b l.length=true:=h
  simp [mxV,hc]
 have hc:mxB a b l.length=false:=h
 refine Zk (fun n=>⟨[(37,vI .i64 (n:Nat))],[],[]⟩) (fun n=>n≤l.length∧(l.take n).all ZdK=true) (fun n=>l.length - n) (·+1) 0 ⟨Nat.zero_le _,rfl⟩ ?_ ?_
 ·simp (maxSteps:=1000000) only [↓Zn,Ze,Zd,Zm,gSt,gS0,Ya,Yb,↓reduceIte,reduceCtorEq,Yc,Yd,Ye,Yf,Yg,Yj,Yk,Yl,Ym,Yn,gE1,Tryz.ntmps102,Tryz.results102,gTT]
  rfl
 rintro n ⟨hn,hok⟩
 simp (maxSteps:=1000000) only [↓Zn,Ze,Zd,Zm,gSt,gS0,Ya,Yb,↓reduceIte,reduceCtorEq,Yc,Yd,Ye,Yf,Yg,Yj,Yk,Yl,Ym,Yn,gE1,Tryz.ntmps102,Tryz.results102,gTT]
 refine ⟨fun h1=>?_,fun h1=>?_⟩
 ·have hlt:n < l.length:=by have:=of_decide_eq_true h1; omega
  have hg:l[n]?.getD 0=l[n]:=by rw [List.getElem?_eq_getElem hlt]; rfl
  rw [hg]
  refine ⟨by omega,fun h2=>?_,fun h2=>?_⟩
  ·have hx:ZdK l[n]=false:=by
    simp only [Bool.or_eq_true,decide_eq_true_eq] at h2
    simp only [ZdK,Bool.and_eq_false_iff,decide_eq_false_iff_not]
    omega
   simp [mxV,ZzD hlt hx]
  ·have hx:ZdK l[n]=true:=by
    simp only [Bool.or_eq_false_iff,decide_eq_false_iff_not] at h2
    simp only [ZdK,Bool.and_eq_true,decide_eq_true_eq]
    omega
   exact ⟨(ZY _ (by omega)).symm,⟨by omega,Zub hlt hok hx⟩,by omega⟩
 ·have:n=l.length:=by have:=of_decide_eq_false h1; omega
  rw [this,List.take_length] at hok
  simp [mxV,hc,hok]
def ZeM:List V→Zf→Zr→Name→Option Ent
 | [.agg [.d (.int .i64 a),.d (.int .i64 b),.d (.list q_l)]],[],[],_=>some ⟨(Zc q_l).length≤1000000∧q_l=LI .i64 (Zc q_l),vB (mxV a b (Zc q_l)),[],[]⟩
 | _,_,_,_=>none
def Zav:=And.intro (@ZeM.eq_1) (@ZeM.eq_1)
theorem ZoP:Snd Tryz.prog 102 ZeM:=by
 intro vs b k n e h hn hp
 unfold ZeM at h
 split at h
 ·cases h; obtain ⟨hp0,hq0⟩:=hp; obtain ⟨_,rfl⟩:=Zq hq0; simp only [Zi,Zo,Zj,Zp] at hp0 ⊢; exact (Zq5 _ _ _ hp0).lift rfl _
 ·cases h
theorem ZxA (a b:Int) (ha:1≤a∧a≤8) (hb:1≤b∧b≤8):Spec Tryz.prog 0 81 [vI .i64 a,vI .i64 b] [] [] (.agg [.d (.int .i64 a),.d (.int .i64 b),.arr ⟨0,9⟩ (a*b).toNat]) [] [(⟨0,9⟩,⟨true,1,(LI .i64 (List.replicate (a*b).toNat 0))⟩)]:=by
 refine ZbW (X:=⟨Tryz.prog,tt,Tryz.f81.ntmps,1,fun s=>if s=10 then 2 else 0,(tab [])⟩) (M:=[]) (m:=19) (r0:=.agg [.d (.int .i64 a),.d (.int .i64 b),.arr ⟨1,10⟩ (a*b).toNat]) (b0:=[]) (k0:=[(⟨1,10⟩,⟨true,1,(LI .i64 (List.replicate (a*b).toNat 0))⟩)]) ⟨1,10⟩ ⟨0,9⟩ rfl rfl ⟨Z7,ZI Zb _ rfl rfl⟩ Zs Tryz.func81 rfl (by decide) (by show (2:Nat)≤_; exact Nat.le_of_ble_eq_true rfl) rfl rfl rfl ⟨by simp [V.has,C.has,ZF],by simp [C.has],by simp⟩ (by decide) (by simp [V.names,C.names,ZJ,ZK]) (by simp [lk]) (by simp [lk]) (by simp [lk]) ?_
 simp (maxSteps:=1000000) only [↓Zn,Ze,Zd,Zm,gSt,gS0,Ya,Yb,↓reduceIte,reduceCtorEq,Yc,Yd,Ye,Yf,Yg,Yj,Yk,Yl,Ym,Yn,gE1,Tryz.ntmps81,Tryz.results81,gTT]
 have hm:=ZHO ha hb
 rw [IntWalk.i64_in (a*b) (by omega)]
 exact ⟨⟨by omega,by omega,by omega,by omega⟩,rfl,rfl⟩
def Zi6:List V→Zf→Zr→Name→Option Ent
 | [.c (.d (.int .i64 a)),.c (.d (.int .i64 b))],[],[],nF=>some ⟨(1≤a∧a≤8)∧(1≤b∧b≤8),.agg [.d (.int .i64 a),.d (.int .i64 b),.arr nF (a*b).toNat],[],[(nF,⟨true,1,(LI .i64 (List.replicate (a*b).toNat 0))⟩)]⟩
 | _,_,_,_=>none
def ZbZ:=And.intro (@Zi6.eq_1) (@Zi6.eq_1)
theorem Zv0:Snd Tryz.prog 81 Zi6:=by
 intro vs b k n e h hn hp
 unfold Zi6 at h
 split at h
 ·cases h; obtain ⟨hp0,hp1⟩:=hp; exact Spec.ren1 (ZxA _ _ hp0 hp1) 9 (by simp [Za9,V.names,C.names,ZJ,ZK,ZF]) (Nat.le_of_eq hn)
 ·cases h
theorem Zx0 (a b:Int) (l:List Int) (ha:1≤a∧a≤8) (hb:1≤b∧b≤8) (hl:l.length=a.toNat*b.toNat):Spec Tryz.prog 0 82 [.agg [.d (.int .i64 a),.d (.int .i64 b),.d (.list (LI .i64 l))]] [] [] (vL (LL .i64 (Znl a.toNat l b.toNat))) [] []:=by
 refine spec_of_E (X:=⟨Tryz.prog,tt,Tryz.f82.ntmps,1,fun s=>if s=7 then 2 else 0,(tab [])⟩) (M:=[(5,[0,0,0,0,0,8589897247,0,0,0,0,0,8578493983,0,0,0,0,0,7550889503,0,0,0]),(1000007,[2])]) (m:=3615) rfl rfl ⟨Z7,ZI Zb _ rfl rfl⟩ Zs Tryz.func82 rfl (by decide) (by show (1:Nat)≤_; exact Nat.le_of_ble_eq_true rfl) ⟨by simp [V.has,C.has,ZF],by simp [C.has],by simp⟩ ?_
 simp (maxSteps:=1000000) only [↓Zn,Ze,Zd,Zm,gSt,gS0,Ya,Yb,↓reduceIte,reduceCtorEq,Yc,Yd,Ye,Yf,Yg,Yj,Yk,Yl,Ym,Yn,gE1,Tryz.ntmps82,Tryz.results82,gTT]
 refine ⟨by omega,?_⟩
 refine Zk (fun g=>⟨[(10,vI .i64 (g:Nat))],[],[(⟨1,7⟩,⟨true,1,LL .i64 (ZkT a.toNat l b.toNat g)⟩)]⟩) (fun g=>g≤b.toNat) (fun g=>b.toNat - g) (·+1) 0 (Nat.zero_le _) ?_ ?_
 ·simp (maxSteps:=1000000) only [↓Zn,Ze,Zd,Zm,gSt,gS0,Ya,Yb,↓reduceIte,reduceCtorEq,Yc,Yd,Ye,Yf,Yg,Yj,Yk,Yl,Ym,Yn,gE1,Tryz.ntmps82,Tryz.results82,gTT]
  rw [Zxi,ZHe]
  exact ⟨rfl,rfl⟩
 intro g hg
 simp (maxSteps:=1000000) only [↓Zn,Ze,Zd,Zm,gSt,gS0,Ya,Yb,↓reduceIte,reduceCtorEq,Yc,Yd,Ye,Yf,Yg,Yj,Yk,Yl,Ym,Yn,gE1,Tryz.ntmps82,Tryz.results82,gTT]
 refine ⟨fun h=>?_,fun h=>?_⟩
 ·skip
  have hlt:g < b.toNat:=by have:=of_decide_eq_true h; omega
  have hA:((a.toNat:Nat):Int)=a:=by omega
  have hga:g*a.toNat≤8*8:=Nat.mul_le_mul (by omega) (by omega)
  have hle:(g+1)*a.toNat≤b.toNat*a.toNat:=Nat.mul_le_mul_right _ hlt
  rw [Nat.add_mul,Nat.one_mul,Nat.mul_comm b.toNat] at hle
  have e1:IntKind.i64.wrap ((g:Int)*a)=((g*a.toNat:Nat):Int):=by
   have:(g:Int)*a=((g*a.toNat:Nat):Int):=by rw [Int.natCast_mul,hA]
   rw [this,IntWalk.i64_in _ (by omega)]
  have e2:IntKind.i64.wrap (IntKind.i64.wrap ((g:Int)+1)*a)=((g*a.toNat+a.toNat:Nat):Int):=by
   have:((g:Int)+1)*a=((g*a.toNat+a.toNat:Nat):Int):=by rw [Int.add_mul,Int.one_mul,Int.natCast_add,Int.natCast_mul,hA]
   rw [IntWalk.i64_in ((g:Int)+1) (by omega),this,IntWalk.i64_in _ (by omega)]
  rw [e1,e2]
  have hr:List.take (((g*a.toNat+a.toNat:Nat):Int).toNat - ((g*a.toNat:Nat):Int).toNat) (List.drop ((g*a.toNat:Nat):Int).toNat l)=Zyn a.toNat l g:=by
   rw [Int.toNat_natCast,Int.toNat_natCast,Nat.add_sub_cancel_left]
   rfl
  rw [hr,← Zxh]
  exact ⟨⟨by omega,by omega,by omega,by omega⟩,by omega,by rw [ZBs]; exact hlt,⟨(ZY _ (by omega)).symm,rfl⟩,by omega,by omega⟩
 ·have:g=b.toNat:=by have:=of_decide_eq_false h; omega
  rw [this,ZBr]
  exact ⟨by simp [Znl],rfl⟩
def ZmF:List V→Zf→Zr→Name→Option Ent
 | [.agg [.d (.int .i64 a),.d (.int .i64 b),.d (.list q_l)]],[],[],_=>some ⟨(1≤a∧a≤8)∧(1≤b∧b≤8)∧(Zc q_l).length=a.toNat*b.toNat∧q_l=LI .i64 (Zc q_l),vL (LL .i64 (Znl a.toNat (Zc q_l) b.toNat)),[],[]⟩
 | _,_,_,_=>none
theorem Zwq:Snd Tryz.prog 82 ZmF:=by
 intro vs b k n e h hn hp
 unfold ZmF at h
 split at h
 ·cases h; obtain ⟨hp0,hp1,hp2,hq0⟩:=hp; obtain ⟨_,rfl⟩:=Zq hq0; simp only [Zi,Zo,Zj,Zp] at hp0 hp1 hp2 ⊢; exact (Zx0 _ _ _ hp0 hp1 hp2).lift rfl _
 ·cases h
theorem ZxZ (a b:Int) (q:Nat) (l:List Int) (ha:1≤a∧a≤8) (hb:1≤b∧b≤8) (hl:q=a.toNat*b.toNat):Spec Tryz.prog 0 82 [.agg [.d (.int .i64 a),.d (.int .i64 b),.arr ⟨0,0⟩ q]] [] [(⟨0,0⟩,⟨true,1,(LI .i64 l)⟩)] (.c (.rws ⟨0,0⟩ a.toNat b.toNat)) [] [(⟨0,0⟩,⟨true,1,(LI .i64 l)⟩)]:=by
 refine spec_of_E (X:=⟨Tryz.prog,tt,Tryz.f82.ntmps,1,fun s=>if s=7 then 5 else 0,(tab [])⟩) (M:=[(5,[0,0,0,0,0,8589897247,0,0,0,0,0,8578493983,0,0,0,0,0,7550889503,0,0,0]),(1000007,[2])]) (m:=3615) rfl rfl ⟨Z7,ZI Zb _ rfl rfl⟩ Zs Tryz.func82 rfl (by decide) (by show (1:Nat)≤_; exact Nat.le_of_ble_eq_true rfl) ⟨by simp [V.has,C.has,ZF],by simp [C.has],by simp⟩ ?_
 simp (maxSteps:=1000000) only [↓Zn,Ze,Zd,Zm,gSt,gS0,Ya,Yb,↓reduceIte,reduceCtorEq,Yc,Yd,Ye,Yf,Yg,Yj,Yk,Yl,Ym,Yn,gE1,Tryz.ntmps82,Tryz.results82,gTT]
 refine ⟨by omega,?_⟩
 refine Zk (fun g=>⟨[(10,vI .i64 (g:Nat))],[(⟨1,7⟩,ZCA ⟨0,0⟩ a.toNat b.toNat g)],[]⟩) (fun g=>g≤b.toNat) (fun g=>b.toNat - g) (·+1) 0 (Nat.zero_le _) ?_ ?_
 ·simp (maxSteps:=1000000) only [↓Zn,Ze,Zd,Zm,gSt,gS0,Ya,Yb,↓reduceIte,reduceCtorEq,Yc,Yd,Ye,Yf,Yg,Yj,Yk,Yl,Ym,Yn,gE1,Tryz.ntmps82,Tryz.results82,gTT]
  rw [ZCC]
  exact ⟨rfl,Zcq _⟩
 intro g hg
 simp (maxSteps:=1000000) only [↓Zn,Ze,Zd,Zm,gSt,gS0,Ya,Yb,↓reduceIte,reduceCtorEq,Yc,Yd,Ye,Yf,Yg,Yj,Yk,Yl,Ym,Yn,gE1,Tryz.ntmps82,Tryz.results82,gTT]
 refine ⟨fun h=>?_,fun h=>?_⟩
 ·skip
  have hlt:g < b.toNat:=by have:=of_decide_eq_true h; omega
  have hA:((a.toNat:Nat):Int)=a:=by omega
  have hga:g*a.toNat≤8*8:=Nat.mul_le_mul (by omega) (by omega)
  have hle:(g+1)*a.toNat≤b.toNat*a.toNat:=Nat.mul_le_mul_right _ hlt
  rw [Nat.add_mul,Nat.one_mul,Nat.mul_comm b.toNat] at hle
  have e1:IntKind.i64.wrap ((g:Int)*a)=((g*a.toNat:Nat):Int):=by
   have:(g:Int)*a=((g*a.toNat:Nat):Int):=by rw [Int.natCast_mul,hA]
   rw [this,IntWalk.i64_in _ (by omega)]
  have e2:IntKind.i64.wrap (IntKind.i64.wrap ((g:Int)+1)*a)=((g*a.toNat+a.toNat:Nat):Int):=by
   have:((g:Int)+1)*a=((g*a.toNat+a.toNat:Nat):Int):=by rw [Int.add_mul,Int.one_mul,Int.natCast_add,Int.natCast_mul,hA]
   rw [IntWalk.i64_in ((g:Int)+1) (by omega),this,IntWalk.i64_in _ (by omega)]
  rw [e1,e2]
  have hv:(((g*a.toNat+a.toNat:Nat):Int) - ((g*a.toNat:Nat):Int)).toNat=a.toNat:=by omega
  rw [hv,Int.toNat_natCast,if_pos (by rw [ZvG]; omega),ZCB _ _ _ _ hlt]
  exact ⟨⟨by omega,by omega,by omega⟩,by omega,⟨(ZY _ (by omega)).symm,Zcq _⟩,by omega,by omega⟩
 ·have:g=b.toNat:=by have:=of_decide_eq_false h; omega
  rw [this,ZEm]
  exact ⟨⟨0,0⟩,a.toNat,rfl,rfl⟩
def ZjE:List V→Zf→Zr→Name→Option Ent
 | [.agg [.d (.int .i64 a),.d (.int .i64 b),.arr n0 q]],[],[(j0,⟨true,1,q_l⟩)],_=>some ⟨(1≤a∧a≤8)∧(1≤b∧b≤8)∧q=a.toNat*b.toNat∧n0.lv≤1∧j0=n0∧q_l=LI .i64 (Zc q_l),.c (.rws n0 a.toNat b.toNat),[],[(n0,⟨true,1,(LI .i64 (Zc q_l))⟩)]⟩
 | _,_,_,_=>none
theorem Zb1 {a b:Int} {q:Nat}  {q_l:List D} {n0:Name} {j0:Name} {nF:Name}:ZjE [.agg [.d (.int .i64 a),.d (.int .i64 b),.arr n0 q]] [] [(j0,⟨true,1,q_l⟩)] nF=some ⟨(1≤a∧a≤8)∧(1≤b∧b≤8)∧q=a.toNat*b.toNat∧n0.lv≤1∧j0=n0∧q_l=LI .i64 (Zc q_l),.c (.rws n0 a.toNat b.toNat),[],[(n0,⟨true,1,(LI .i64 (Zc q_l))⟩)]⟩:=Eq.trans rfl rfl
theorem ZlE:Snd Tryz.prog 82 ZjE:=by
 intro vs b k n e h hn hp
 unfold ZjE at h
 split at h
 ·cases h; obtain ⟨hp0,hp1,hp2,hl0,rfl,hq0⟩:=hp; obtain ⟨_,rfl⟩:=Zq hq0; simp only [Zi,Zo,Zj,Zp] at hp0 hp1 hp2 ⊢; exact Spec.ren1 (ZxZ _ _ _ _ hp0 hp1 hp2) 0 (by simp [Za9,V.names,C.names,ZJ,ZK,ZF]) hl0
 ·cases h
def ZoQ:List V→Zf→Zr→Name→Option Ent:=fun vs b k n=>(ZmF vs b k n).orElse fun _=>ZjE vs b k n
theorem ZbO {a b:Int}  {q_l:List D} {nF:Name}:ZoQ [.agg [.d (.int .i64 a),.d (.int .i64 b),.d (.list q_l)]] [] [] nF=some ⟨(1≤a∧a≤8)∧(1≤b∧b≤8)∧(Zc q_l).length=a.toNat*b.toNat∧q_l=LI .i64 (Zc q_l),vL (LL .i64 (Znl a.toNat (Zc q_l) b.toNat)),[],[]⟩:=Eq.trans rfl rfl
theorem Zba {a b:Int} {q:Nat}  {q_l:List D} {n0:Name} {j0:Name} {nF:Name}:ZoQ [.agg [.d (.int .i64 a),.d (.int .i64 b),.arr n0 q]] [] [(j0,⟨true,1,q_l⟩)] nF=some ⟨(1≤a∧a≤8)∧(1≤b∧b≤8)∧q=a.toNat*b.toNat∧n0.lv≤1∧j0=n0∧q_l=LI .i64 (Zc q_l),.c (.rws n0 a.toNat b.toNat),[],[(n0,⟨true,1,(LI .i64 (Zc q_l))⟩)]⟩:=Eq.trans rfl rfl
theorem Zy3:Snd Tryz.prog 82 ZoQ:=by
 intro vs b k n e h hn hp
 unfold ZoQ at h
 cases ha:ZmF vs b k n with
 | some x=>rw [ha] at h; cases h; exact Zwq vs b k n _ ha hn hp
 | none=>rw [ha] at h; exact ZlE vs b k n e h hn hp
theorem Zvp {a i:Nat} {l:List Int} (h:(i+1)*a≤l.length):(Zyn a l i).length=a:=by
 unfold Zyn
 rw [List.length_take,List.length_drop]
 rw [Nat.add_mul,Nat.one_mul] at h
 omega
theorem Zvo {a i c:Nat} {l:List Int} (h:c < a):(Zyn a l i)[c]?=l[i*a+c]?:=by
 unfold Zyn
 rw [List.getElem?_take_of_lt h,List.getElem?_drop]
theorem ZBq {a n i:Nat} {l:List Int} (h:i < n):(Znl a l n)[i]?.getD []=Zyn a l i:=by
 unfold Znl
 rw [List.getElem?_map,List.getElem?_range h]
 rfl
theorem Zqg (a n:Nat) (l:List Int):(Znl a l n).length=n:=by simp [Znl]
theorem ZLC {l:List Int} (h:l.all ZdK=true) (i:Nat):-131072≤l[i]?.getD 0∧l[i]?.getD 0≤131072:=by
 by_cases hi:i < l.length
 ·rw [List.getElem?_eq_getElem hi]; exact ZDi (List.all_eq_true.1 h _ (List.getElem_mem hi))
 ·rw [List.getElem?_eq_none (by omega)]; decide
theorem ZLD {l:List Int} (h:l.all ZbI=true) (i:Nat):-8388608≤l[i]?.getD 0∧l[i]?.getD 0≤8388607:=by
 by_cases hi:i < l.length
 ·rw [List.getElem?_eq_getElem hi]; exact Zs0 (List.all_eq_true.1 h _ (List.getElem_mem hi))
 ·rw [List.getElem?_eq_none (by omega)]; decide
def Ziw (f g:Nat→Int):Nat→Int
 | 0=>0
 | n+1=>Ziw f g n+f n*g n
theorem Zko {f g:Nat→Int} (hf:∀ i,-131072≤f i∧f i≤131072) (hg:∀ i,-8388608≤g i∧g i≤8388608):∀ n:Nat,-((n:Int)*1099511627776)≤Ziw f g n∧Ziw f g n≤(n:Int)*1099511627776
 | 0=>by simp [Ziw]
 | n+1=>by
  have ih:=Zko hf hg n
  have h1:=hf n
  have h2:=hg n
  have h3:-1099511627776≤f n*g n∧f n*g n≤1099511627776:=by
   by_cases h0:0≤g n
   ·have:=ZkB (x:=f n) (y:=g n) (A:=131072) (B:=8388608) h1.1 h1.2 h0 h2.2 (by decide)
    omega
   ·have:=ZkB (x:=f n) (y:=- g n) (A:=131072) (B:=8388608) h1.1 h1.2 (by omega) (by omega) (by decide)
    rw [Int.mul_neg] at this
    omega
  show -(((n+1:Nat):Int)*1099511627776)≤Ziw f g n+f n*g n∧Ziw f g n+f n*g n≤((n+1:Nat):Int)*1099511627776
  rw [Int.natCast_add,Int.add_mul]
  omega
def atL (l:List Int) (i:Nat):Int:=l[i]?.getD 0
def apV (a b:Nat) (m l:List Int) (j:Nat):Int:=ZnO ((Ziw (fun c=>atL m (j % b*a+c)) (fun c=>atL l (j / b*a+c)) a+16384) / 32768)
def apL (a b:Nat) (m l:List Int) (n:Nat):List Int:=(List.range n).map (apV a b m l)
theorem Zd1 (a b:Nat) (m l:List Int) (n:Nat):(apL a b m l n).length=n:=by simp [apL]
theorem Zud (a b:Nat) (m l:List Int) (n:Nat):apL a b m l (n+1)=apL a b m l n++[apV a b m l n]:=by simp [apL,List.range_succ]
theorem ZEJ {a b q r:Nat} {m l:List Int} (h:r < b):apV a b m l (q*b+r)=ZnO ((Ziw (fun c=>atL m (r*a+c)) (fun c=>atL l (q*a+c)) a+16384) / 32768):=by
 unfold apV
 have e1:(q*b+r) % b=r:=by rw [Nat.add_comm,Nat.add_mul_mod_self_right,Nat.mod_eq_of_lt h]
 have e2:(q*b+r) / b=q:=by rw [Nat.add_comm,Nat.add_mul_div_right _ _ (by omega),Nat.div_eq_of_lt h,Nat.zero_add]
 rw [e1,e2]
def apE (a b:Int) (m:List Int) (c:Int) (l:List Int):Int:=if (!mxV a b m || !ZaL c l)=true then 1 else if c≠a then 11 else 0
def apC (a b:Int) (m:List Int) (c:Int) (l:List Int):Int:=if apE a b m c l=0 then b else 0
def apO (a b:Int) (m:List Int) (c:Int) (l:List Int):List Int:=if apE a b m c l=0 then apL a.toNat b.toNat m l (l.length / a.toNat*b.toNat) else []
theorem ZzF {a b:Int} {m:List Int} {c:Int} {l:List Int} (h1:mxV a b m=true) (h2:ZaL c l=true) (h3:c=a):apE a b m c l=0:=by
 unfold apE; rw [h1,h2,h3]; simp
theorem ZH2 (n:Int):n.fdiv (2 ^ Nat.min 15 IntKind.i64.bits)=n / 32768:=Int.fdiv_eq_ediv_of_nonneg n (show (0:Int)≤32768 by decide)
theorem ZzG {a b:Int} {m:List Int} {c:Int} {l:List Int} (h:(!mxV a b m || !ZaL c l)=true):apE a b m c l=1:=by unfold apE; rw [if_pos h]
theorem ZlO {a b:Int} {m:List Int} {c:Int} {l:List Int} (h:(!mxV a b m || !ZaL c l)=false) (h2:c≠a):apE a b m c l=11:=by
 unfold apE; rw [h,if_neg (by decide),if_pos h2]
theorem ZpV:(Tryz.prog.info? 3).map (fun i=>(i.zero,i.size,i.bytes))=some (some (.int .i64 0),1,8):=by kernel_rfl
theorem Zeb:Tryz.prog.underlying 26=some (.slice 3):=Tryz.underlying26
set_option maxRecDepth 100000 in
theorem Zsv (n c:Nat) (w:World):Calls Tryz.prog 138 #[.slice none n c] w fun e w'=>e=.returned (.slice none 0 0)∧w'=w:=by
 have q:∀ (w:World) (a:Option Addr) (n c n' c':Nat),(binOp .eql 26 (.slice a n c) (.slice none n' c')).run Tryz.prog w=.ok (.bool a.isNone) w:=fun w a n c n' c'=>Go.Lib.run_eql_slice_nil w _ _ a n c n' c' Zeb
 go_enter Tryz.func138,Tryz.ntmps138
 go_wp2
 go_ret
 exact ⟨rfl,rfl⟩
set_option maxRecDepth 100000 in
theorem Zps (l:List Int) (hbig:l.length*8≤140737488355328) (b off c:Nat) (w:World) (hc:∀ j,j < l.length→w.cell? ⟨b,off+j,none⟩=some (.int .i64 (l.getD j 0))) :
  Calls Tryz.prog 138 #[.slice (some ⟨b,off,none⟩) l.length c] w fun e w'=>∃ v',e=.returned v'∧w'.ownsRow w.heap.size 3 1 v' l.length (l.map (Value.int .i64))∧Below w.heap.size w w':=by
 obtain ⟨i0,hi,hz0,hz1,hz2⟩:=info_parts ZpV
 have q:∀ (w:World) (a:Option Addr) (n c n' c':Nat),(binOp .eql 26 (.slice a n c) (.slice none n' c')).run Tryz.prog w=.ok (.bool a.isNone) w:=fun w a n c n' c'=>Go.Lib.run_eql_slice_nil w _ _ a n c n' c' Zeb
 have u:∀ w,Sem.run Tryz.prog (underlying 26) w=.ok (TypeDesc.slice 3) w:=run_underlying Zeb
 have X:Aside (∀ j,j < l.length→w.cell? ⟨b,off+j,none⟩=some (.int .i64 (l.getD j 0))):=hc
 have Y:Aside (l.length*8≤140737488355328):=hbig
 clear hc hbig
 generalize hn:l.length=n at *
 go_enter Tryz.func138,Tryz.ntmps138
 go_wp2_with (at_builtin; refine wpList_append_own _ rfl _ _ 26 rfl w.heap.size 3 i0 (.int .i64 0) 1 8 Zeb hi hz0 hz1 hz2 rfl (by decide) _ _ _ rfl (World.ownsRow_made w #[] 0 (Nat.le_refl _) (Nat.zero_le _) rfl) ⟨b,off,none⟩ n c (l.map (Value.int .i64)) rfl ?qc1 ?qc2 ?qc3 ?qc4 ?qc5 ?qc6 ?_)
 case qc1=>simp [hn]
 case qc2 =>
  intro j u hj
  have hjn:j < n:=by
   have:=(List.getElem?_eq_some_iff.1 hj).1
   simpa [hn] using this
  rw [Addr.add_lit]
  refine Go.Lib.cell?_alloc_some _ ?_
  rw [X.out j hjn]
  have e:(l.map (Value.int .i64))[j]?=some (Value.int .i64 (l.getD j 0)):=by simp [List.getD,hn,hjn,List.getElem?_eq_getElem (show j < l.length by omega)]
  rw [e] at hj
  exact hj
 case qc3=>intro u hu; obtain ⟨x,_,rfl⟩:=List.mem_map.1 hu; rfl
 case qc4=>have:=Y.out; unfold maxLen; omega
 case qc5=>have:=Y.out; omega
 case qc6=>simp
 intro v' w1 hown hgrow hnil
 go_wp2
 go_ret
 refine ⟨v',rfl,by simpa using hown,?_⟩
 exact ((Below.refl _ w).alloc (Nat.le_refl _) _).grown hgrow (by simp) (by intro k hk; simp [Value.ownBlock] at hk; omega)
set_option maxRecDepth 100000 in
theorem Zpt (a:Addr) (c:Nat) (w:World):Calls Tryz.prog 138 #[.slice (some a) 0 c] w fun e w'=>∃ v',e=.returned v'∧w'.ownsRow w.heap.size 3 1 v' 0 []∧Below w.heap.size w w':=by
 obtain ⟨i0,hi,hz0,hz1,hz2⟩:=info_parts ZpV
 have q:∀ (w:World) (a:Option Addr) (n c n' c':Nat),(binOp .eql 26 (.slice a n c) (.slice none n' c')).run Tryz.prog w=.ok (.bool a.isNone) w:=fun w a n c n' c'=>Go.Lib.run_eql_slice_nil w _ _ a n c n' c' Zeb
 have u:∀ w,Sem.run Tryz.prog (underlying 26) w=.ok (TypeDesc.slice 3) w:=run_underlying Zeb
 go_enter Tryz.func138,Tryz.ntmps138
 go_wp2_with (at_builtin; refine wpList_append_own _ rfl _ _ 26 rfl w.heap.size 3 i0 (.int .i64 0) 1 8 Zeb hi hz0 hz1 hz2 rfl (by decide) _ _ _ rfl (World.ownsRow_made w #[] 0 (Nat.le_refl _) (Nat.zero_le _) rfl) a 0 c [] rfl rfl (by intro j u hj; simp at hj) (by intro u hu; cases hu) (by unfold maxLen; omega) (by omega) (by simp) ?_)
 intro v' w1 hown hgrow hnil
 go_wp2
 go_ret
 refine ⟨v',rfl,by simpa using hown,?_⟩
 exact ((Below.refl _ w).alloc (Nat.le_refl _) _).grown hgrow (by simp) (by intro k hk; simp [Value.ownBlock] at hk; omega)
theorem ZqB (l:List Int) (hl:l.length*8≤140737488355328):Spec Tryz.prog 0 138 [vL (LI .i64 l)] [] [] (vL (LI .i64 l)) [] [] :=
 Zg2 Tryz.func138 rfl (by decide) l Zsv (Zps l hl) Zpt
def Zdm:List V→Zf→Zr→Name→Option Ent
 | [.c (.d (.list q_l))],[],[],_=>some ⟨(Zc q_l).length*8≤140737488355328∧q_l=LI .i64 (Zc q_l),vL (LI .i64 (Zc q_l)),[],[]⟩
 | _,_,_,_=>none
def ZcV:=And.intro (@Zdm.eq_1) (@Zdm.eq_1)
theorem ZhQ:Snd Tryz.prog 138 Zdm:=by
 intro vs b k n e h hn hp
 unfold Zdm at h
 split at h
 ·cases h; obtain ⟨hp0,hq0⟩:=hp; obtain ⟨_,rfl⟩:=Zq hq0; simp only [Zi,Zo,Zj,Zp] at hp0 ⊢; exact (ZqB _ hp0).lift rfl _
 ·cases h
theorem Ztt (a b:Int) (m:List Int) (c:Int) (l:List Int) (hml:m.length≤1000000) (hl:l.length≤1000000):Spec Tryz.prog 0 224 [.agg [.d (.int .i64 a),.d (.int .i64 b),.d (.list (LI .i64 m))],.agg [.d (.int .i64 c),.d (.list (LI .i32 l))]] [] [] (.tup [.agg [.int .i64 (apC a b m c l),.list (LI .i32 (apO a b m c l))],.int .i64 (apE a b m c l)]) [] []:=by
 refine sE (md:=fun _=>0) (L:=[(221,Zfe),(62,ZaR),(82,ZoQ),(76,ZoW)]) [] 1080996126978489855 (Za Zjj (Za Zax (Za Zy3 (Za ZiE Zb)))) Tryz.func224 rfl rfl rfl ?_
 simp (maxSteps:=1000000) only [↓Zn,Ze,Zd,Zm,gSt,gS0,Ya,Yb,↓reduceIte,reduceCtorEq,Yc,Yd,Ye,Yf,Yg,Yj,Yk,Yl,Ym,Yn,Zay,ZD,ZbO,Zal,gE1,Zba,Tryz.ntmps224,Tryz.results224,gTT]
 refine ⟨hml,fun _=>hl,fun h=>?_,fun h=>?_⟩
 ·have e:=ZzG h
  simp [apC,apO,e,Zw]
 refine ⟨fun h2=>?_,fun h2=>?_⟩
 ·have e:=ZlO h (show c≠a by simpa using h2)
  simp [apC,apO,e,Zw]
 have hv:mxV a b m=true:=by simp at h; exact h.1
 have hb:ZaL c l=true:=by simp at h; exact h.2
 have hca:c=a:=by simpa using h2
 have hE:=ZzF hv hb hca
 obtain ⟨ha,hbb,hm,hmc⟩:=Zp5 hv
 obtain ⟨hc0,hsm⟩:=ZfP hb
 obtain ⟨k1,k2,k3⟩:=Zd4 hc0
 rw [hca] at k3
 have hC:apC a b m c l=b:=by simp [apC,hE]
 have hO:apO a b m c l=apL a.toNat b.toNat m l (l.length / a.toNat*b.toNat):=by simp [apO,hE]
 rw [hC,hO,hE]
 have hAa:((a.toNat:Nat):Int)=a:=by omega
 have hBb:((b.toNat:Nat):Int)=b:=by omega
 have hA8:1≤a.toNat∧a.toNat≤8:=by omega
 have hB8:1≤b.toNat∧b.toNat≤8:=by omega
 generalize hA:a.toNat=A at *
 generalize hB:b.toNat=B at *
 have hz:l.length / A≤l.length:=Nat.div_le_self ..
 generalize l.length / A=z at *
 refine ⟨⟨ha,hbb,hm⟩,?_⟩
 refine Zdk ⟨1,7⟩ 1 1 ⟨1,99⟩ rfl rfl (by simp (maxSteps:=1000000) only [↓Zn,Ze,Zd,Zm,gSt,gS0,Ya,Yb,↓reduceIte,reduceCtorEq,Yc,Yd,Ye,Yf,Yg,Yj,Yk,Yl,Ym,Yn,Zay,ZD,ZbO,Zal,gE1,Zba,Tryz.ntmps224,Tryz.results224,gTT]) (Nat.le_refl _) ?_
 simp (maxSteps:=1000000) only [↓Zn,Ze,Zd,Zm,gSt,gS0,Ya,Yb,↓reduceIte,reduceCtorEq,Yc,Yd,Ye,Yf,Yg,Yj,Yk,Yl,Ym,Yn,Zay,ZD,ZbO,Zal,gE1,Zba,Tryz.ntmps224,Tryz.results224,gTT]
 refine Zk (fun q=>⟨[(8,vI .i64 ((q*A:Nat):Int))],[(⟨1,7⟩,[.d (.int .i64 b),.own ⟨1,99⟩ (LI .i32 (apL A B m l (q*B)))])],[(⟨1,99⟩,⟨false,1,LI .i32 (apL A B m l (q*B))⟩)]⟩) (fun q=>q≤z) (fun q=>z - q) (·+1) 0 (Nat.zero_le _) ?_ ?_
 ·simp (maxSteps:=1000000) only [↓Zn,Ze,Zd,Zm,gSt,gS0,Ya,Yb,↓reduceIte,reduceCtorEq,Yc,Yd,Ye,Yf,Yg,Yj,Yk,Yl,Ym,Yn,Zay,ZD,ZbO,Zal,gE1,Zba,Tryz.ntmps224,Tryz.results224,gTT]
  simp [apL,Zw]
 intro q hq
 simp (maxSteps:=1000000) only [↓Zn,Ze,Zd,Zm,gSt,gS0,Ya,Yb,↓reduceIte,reduceCtorEq,Yc,Yd,Ye,Yf,Yg,Yj,Yk,Yl,Ym,Yn,Zay,ZD,ZbO,Zal,gE1,Zba,Tryz.ntmps224,Tryz.results224,gTT]
 refine ⟨fun h3=>?_,fun h3=>?_⟩
 ·have h3':=of_decide_eq_true h3
  have hqz:q < z:=by
   rcases Nat.lt_or_ge q z with h | h
   ·exact h
   ·have:=Nat.mul_le_mul_right A h
    omega
  have hle:=Nat.mul_le_mul_right A (show q+1≤z from hqz)
  have hqs:(q+1)*A=q*A+A:=by rw [Nat.add_mul,Nat.one_mul]
  have hqb:(q+1)*B=q*B+B:=by rw [Nat.add_mul,Nat.one_mul]
  have hqB:q*B≤8*z:=by
   have:=Nat.mul_le_mul (show q≤z by omega) hB8.2
   omega
  refine Zk (fun r=>⟨[(45,vI .i64 (r:Nat))],[(⟨1,7⟩,[.d (.int .i64 b),.own ⟨1,99⟩ (LI .i32 (apL A B m l (q*B+r)))])],[(⟨1,99⟩,⟨false,1,LI .i32 (apL A B m l (q*B+r))⟩)]⟩) (fun r=>r≤B) (fun r=>B - r) (·+1) 0 (Nat.zero_le _) ?_ ?_
  ·simp (maxSteps:=1000000) only [↓Zn,Ze,Zd,Zm,gSt,gS0,Ya,Yb,↓reduceIte,reduceCtorEq,Yc,Yd,Ye,Yf,Yg,Yj,Yk,Yl,Ym,Yn,Zay,ZD,ZbO,Zal,gE1,Zba,Tryz.ntmps224,Tryz.results224,gTT]
   simp [Zqg]
  intro r hr
  simp (maxSteps:=1000000) only [↓Zn,Ze,Zd,Zm,gSt,gS0,Ya,Yb,↓reduceIte,reduceCtorEq,Yc,Yd,Ye,Yf,Yg,Yj,Yk,Yl,Ym,Yn,Zay,ZD,ZbO,Zal,gE1,Zba,Tryz.ntmps224,Tryz.results224,gTT]
  have hrl:=Zqg A B m
  refine ⟨fun h4=>?_,fun h4=>?_⟩
  ·have hrB:r < B:=by have:=of_decide_eq_true h4; omega
   have hw:IntKind.i64.wrap (((q*A:Nat):Int)+a)=((q*A+A:Nat):Int):=by rw [IntWalk.i64_in _ (by omega)]; omega
   have hr1:(r+1)*A≤B*A:=Nat.mul_le_mul_right _ hrB
   have hrA:(r+1)*A=r*A+A:=by rw [Nat.add_mul,Nat.one_mul]
   have hmB:m.length=B*A:=by rw [hm,Nat.mul_comm]
   have hrl2:=Zvp (a:=A) (i:=r) (l:=m) (by omega)
   have hfl:=Zvp (a:=A) (i:=q) (l:=l) (by omega)
   have hfr:List.take (((q*A+A:Nat):Int).toNat - q*A) (List.drop (q*A) l)=Zyn A l q:=by
    rw [Int.toNat_natCast,Nat.add_sub_cancel_left]; rfl
   rw [hw,hfr,ZBq hrB]
   refine ⟨by omega,by omega,?_⟩
   have hdn:=Zko (f:=fun c=>atL m (r*A+c)) (g:=fun c=>atL l (q*A+c)) (fun i=>ZLC hmc _) (fun i=>by have:=ZLD hsm (q*A+i); unfold atL; omega)
   have hav:=ZEJ (a:=A) (b:=B) (q:=q) (r:=r) (m:=m) (l:=l) hrB
   have hsuc:=Zud A B m l (q*B+r)
   have hlen:=Zd1 A B m l (q*B+r)
   refine Zk (fun n=>⟨[(58,vI .i64 (n:Nat)),(11,vI .i64 (Ziw (fun c=>atL m (r*A+c)) (fun c=>atL l (q*A+c)) n))],[],[]⟩) (fun n=>n≤A) (fun n=>A - n) (·+1) 0 (Nat.zero_le _) ?_ ?_
   ·simp (maxSteps:=1000000) only [↓Zn,Ze,Zd,Zm,gSt,gS0,Ya,Yb,↓reduceIte,reduceCtorEq,Yc,Yd,Ye,Yf,Yg,Yj,Yk,Yl,Ym,Yn,Zay,ZD,ZbO,Zal,gE1,Zba,Tryz.ntmps224,Tryz.results224,gTT]
    exact ⟨rfl,rfl⟩
   intro n hn
   simp (maxSteps:=1000000) only [↓Zn,Ze,Zd,Zm,gSt,gS0,Ya,Yb,↓reduceIte,reduceCtorEq,Yc,Yd,Ye,Yf,Yg,Yj,Yk,Yl,Ym,Yn,Zay,ZD,ZbO,Zal,gE1,Zba,Tryz.ntmps224,Tryz.results224,gTT]
   have hd:=hdn n
   have hd2:=hdn (n+1)
   refine ⟨fun h5=>?_,fun h5=>?_⟩
   ·have hnA:n < A:=by have:=of_decide_eq_true h5; omega
    have g1:(Zyn A m r)[n]?.getD 0=atL m (r*A+n):=by rw [Zvo hnA]; rfl
    have g2:(Zyn A l q)[n]?.getD 0=atL l (q*A+n):=by rw [Zvo hnA]; rfl
    rw [g1,g2]
    have b1:=ZLC hmc (r*A+n)
    have b2:=ZLD hsm (q*A+n)
    have hsd:Ziw (fun c=>atL m (r*A+c)) (fun c=>atL l (q*A+c)) (n+1)=Ziw (fun c=>atL m (r*A+c)) (fun c=>atL l (q*A+c)) n+atL m (r*A+n)*atL l (q*A+n):=rfl
    have b3:-1099511627776≤atL m (r*A+n)*atL l (q*A+n)∧atL m (r*A+n)*atL l (q*A+n)≤1099511627776:=by
     have k:=Zko (f:=fun _=>atL m (r*A+n)) (g:=fun _=>atL l (q*A+n)) (fun _=>b1) (fun _=>by unfold atL; omega) 1
     simp [Ziw] at k
     omega
    rw [IntWalk.i64_in (atL l (q*A+n)) (by unfold atL; omega),IntWalk.i64_in (atL m (r*A+n)*atL l (q*A+n)) (by omega),IntWalk.i64_in (Ziw _ _ n+_) (by omega),← hsd]
    exact ⟨by omega,by omega,⟨(ZY _ (by omega)).symm,rfl⟩,by omega,by omega⟩
   ·have hnA:n=A:=by have:=of_decide_eq_false h5; omega
    subst hnA
    generalize hdd:Ziw (fun c=>atL m (r*n+c)) (fun c=>atL l (q*n+c)) n=dd at *
    rw [IntWalk.i64_in (dd+16384) (by omega),ZH2,← hav]
    have hs3:q*B+(r+1)=q*B+r+1:=rfl
    rw [hs3,hsuc]
    refine ⟨by kernel_rfl,by unfold Zab; omega,⟨(ZY _ (by omega)).symm,rfl,rfl⟩,by omega,by omega⟩
  ·have hrB:r=B:=by have:=of_decide_eq_false h4; omega
   rw [hrB,hqb,hqs]
   exact ⟨⟨by rw [IntWalk.i64_in _ (by omega)]; omega,rfl,rfl⟩,by omega,by omega⟩
 ·have hqz:q=z:=by
   have h3':=of_decide_eq_false h3
   rcases Nat.lt_or_ge q z with h | h
   ·have:=Nat.mul_lt_mul_of_pos_right h (show 0 < A by omega)
    omega
   ·omega
  rw [hqz]
def Zgp:List V→Zf→Zr→Name→Option Ent
 | [.agg [.d (.int .i64 a),.d (.int .i64 b),.d (.list q_m)],.agg [.d (.int .i64 c),.d (.list q_l)]],[],[],_=>some ⟨(Zc q_m).length≤1000000∧(Zc q_l).length≤1000000∧q_m=LI .i64 (Zc q_m)∧q_l=LI .i32 (Zc q_l),.tup [.agg [.int .i64 (apC a b (Zc q_m) c (Zc q_l)),.list (LI .i32 (apO a b (Zc q_m) c (Zc q_l)))],.int .i64 (apE a b (Zc q_m) c (Zc q_l))],[],[]⟩
 | _,_,_,_=>none
def ZrW:=And.intro (@Zgp.eq_1) (@Zgp.eq_1)
theorem ZrX:Snd Tryz.prog 224 Zgp:=by
 intro vs b k n e h hn hp
 unfold Zgp at h
 split at h
 ·cases h; obtain ⟨hp0,hp1,hq0,hq1⟩:=hp; obtain ⟨_,rfl⟩:=Zq hq0; obtain ⟨_,rfl⟩:=Zq hq1; simp only [Zi,Zo,Zj,Zp] at hp0 hp1 ⊢; exact (Ztt _ _ _ _ _ hp0 hp1).lift rfl _
 ·cases h
theorem Zq4 (a b:Int) (m:List Int) (c:Int) (l:List Int) (hml:m.length≤1000000) (hl:l.length≤1000000):Spec Tryz.prog 0 40 [.agg [.d (.int .i64 a),.d (.int .i64 b),.d (.list (LI .i64 m))],.agg [.d (.int .i64 c),.d (.list (LI .i32 l))]] [] [] (.tup [.agg [.int .i64 (apC a b m c l),.list (LI .i32 (apO a b m c l))],.int .i64 (apE a b m c l)]) [] []:=by
 refine sE (md:=fun _=>0) (L:=[(102,ZeM),(30,Zbh),(103,ZoT)]) [(16,[0,0,0,0,0,2361161992281711183871,0,0,0,0,0,2360031588775241189375,0,0,0,0,0,2214763479194778470399,0,0,0,0])] 142945118586879 (Za ZoP (Za Zbw (Za Zy4 Zb))) Tryz.func40 rfl rfl rfl ?_
 simp (maxSteps:=1000000) only [↓Zn,Ze,Zd,Zm,gSt,gS0,Ya,Yb,↓reduceIte,reduceCtorEq,Yc,Yd,Ye,Yf,Yg,Yj,Yk,Yl,Ym,Yn,Zav,ZB,ZbR,gE1,Tryz.ntmps40,Tryz.results40,gTT]
 refine ⟨hml,fun _=>hl,fun h=>?_,fun h=>?_⟩
 ·have e:=ZzG h
  simp [apC,apO,e,Zw]
 refine ⟨fun h2=>?_,fun h2=>?_⟩
 ·have e:=ZlO h (show c≠a by simpa using h2)
  simp [apC,apO,e,Zw]
 have hv:mxV a b m=true:=by simp at h; exact h.1
 have hb:ZaL c l=true:=by simp at h; exact h.2
 have hca:c=a:=by simpa using h2
 have hE:=ZzF hv hb hca
 obtain ⟨ha,hbb,hm,hmc⟩:=Zp5 hv
 obtain ⟨hc0,hsm⟩:=ZfP hb
 obtain ⟨k1,k2,k3⟩:=Zd4 hc0
 rw [hca] at k3
 have hC:apC a b m c l=b:=by simp [apC,hE]
 have hO:apO a b m c l=apL a.toNat b.toNat m l (l.length / a.toNat*b.toNat):=by simp [apO,hE]
 rw [hC,hO,hE]
 have hAa:((a.toNat:Nat):Int)=a:=by omega
 have hBb:((b.toNat:Nat):Int)=b:=by omega
 have hA8:1≤a.toNat∧a.toNat≤8:=by omega
 have hB8:1≤b.toNat∧b.toNat≤8:=by omega
 generalize hA:a.toNat=A at *
 generalize hB:b.toNat=B at *
 have hz:l.length / A≤l.length:=Nat.div_le_self ..
 generalize l.length / A=z at *
 refine Zdk ⟨1,6⟩ 1 1 ⟨1,99⟩ rfl rfl (by simp (maxSteps:=1000000) only [↓Zn,Ze,Zd,Zm,gSt,gS0,Ya,Yb,↓reduceIte,reduceCtorEq,Yc,Yd,Ye,Yf,Yg,Yj,Yk,Yl,Ym,Yn,Zav,ZB,ZbR,gE1,Tryz.ntmps40,Tryz.results40,gTT]) (Nat.le_refl _) ?_
 simp (maxSteps:=1000000) only [↓Zn,Ze,Zd,Zm,gSt,gS0,Ya,Yb,↓reduceIte,reduceCtorEq,Yc,Yd,Ye,Yf,Yg,Yj,Yk,Yl,Ym,Yn,Zav,ZB,ZbR,gE1,Tryz.ntmps40,Tryz.results40,gTT]
 refine Zk (fun q=>⟨[(7,vI .i64 ((q*A:Nat):Int))],[(⟨1,6⟩,[.d (.int .i64 b),.own ⟨1,99⟩ (LI .i32 (apL A B m l (q*B)))])],[(⟨1,99⟩,⟨false,1,LI .i32 (apL A B m l (q*B))⟩)]⟩) (fun q=>q≤z) (fun q=>z - q) (·+1) 0 (Nat.zero_le _) ?_ ?_
 ·simp (maxSteps:=1000000) only [↓Zn,Ze,Zd,Zm,gSt,gS0,Ya,Yb,↓reduceIte,reduceCtorEq,Yc,Yd,Ye,Yf,Yg,Yj,Yk,Yl,Ym,Yn,Zav,ZB,ZbR,gE1,Tryz.ntmps40,Tryz.results40,gTT]
  simp [apL,Zw]
 intro q hq
 simp (maxSteps:=1000000) only [↓Zn,Ze,Zd,Zm,gSt,gS0,Ya,Yb,↓reduceIte,reduceCtorEq,Yc,Yd,Ye,Yf,Yg,Yj,Yk,Yl,Ym,Yn,Zav,ZB,ZbR,gE1,Tryz.ntmps40,Tryz.results40,gTT]
 refine ⟨fun h3=>?_,fun h3=>?_⟩
 ·have h3':=of_decide_eq_true h3
  have hqz:q < z:=by
   rcases Nat.lt_or_ge q z with h | h
   ·exact h
   ·have:=Nat.mul_le_mul_right A h
    omega
  have hle:=Nat.mul_le_mul_right A (show q+1≤z from hqz)
  have hqs:(q+1)*A=q*A+A:=by rw [Nat.add_mul,Nat.one_mul]
  have hqb:(q+1)*B=q*B+B:=by rw [Nat.add_mul,Nat.one_mul]
  have hqB:q*B≤8*z:=by
   have:=Nat.mul_le_mul (show q≤z by omega) hB8.2
   omega
  refine Zk (fun r=>⟨[(8,vI .i64 (r:Nat))],[(⟨1,6⟩,[.d (.int .i64 b),.own ⟨1,99⟩ (LI .i32 (apL A B m l (q*B+r)))])],[(⟨1,99⟩,⟨false,1,LI .i32 (apL A B m l (q*B+r))⟩)]⟩) (fun r=>r≤B) (fun r=>B - r) (·+1) 0 (Nat.zero_le _) ?_ ?_
  ·simp (maxSteps:=1000000) only [↓Zn,Ze,Zd,Zm,gSt,gS0,Ya,Yb,↓reduceIte,reduceCtorEq,Yc,Yd,Ye,Yf,Yg,Yj,Yk,Yl,Ym,Yn,Zav,ZB,ZbR,gE1,Tryz.ntmps40,Tryz.results40,gTT]
   exact ⟨rfl,rfl,rfl⟩
  intro r hr
  simp (maxSteps:=1000000) only [↓Zn,Ze,Zd,Zm,gSt,gS0,Ya,Yb,↓reduceIte,reduceCtorEq,Yc,Yd,Ye,Yf,Yg,Yj,Yk,Yl,Ym,Yn,Zav,ZB,ZbR,gE1,Tryz.ntmps40,Tryz.results40,gTT]
  refine ⟨fun h4=>?_,fun h4=>?_⟩
  ·have hrB:r < B:=by have:=of_decide_eq_true h4; omega
   have hr1:(r+1)*A≤B*A:=Nat.mul_le_mul_right _ hrB
   have hrA:(r+1)*A=r*A+A:=by rw [Nat.add_mul,Nat.one_mul]
   have hmB:m.length=B*A:=by rw [hm,Nat.mul_comm]
   have hra:IntKind.i64.wrap ((r:Int)*a)=((r*A:Nat):Int):=by
    have h64:r*A≤8*8:=Nat.mul_le_mul (by omega) hA8.2
    have:(r:Int)*a=((r*A:Nat):Int):=by rw [Int.natCast_mul,hAa]
    rw [this,IntWalk.i64_in _ (by omega)]
   have hdn:=Zko (f:=fun c=>atL m (r*A+c)) (g:=fun c=>atL l (q*A+c)) (fun i=>ZLC hmc _) (fun i=>by have:=ZLD hsm (q*A+i); unfold atL; omega)
   have hav:=ZEJ (a:=A) (b:=B) (q:=q) (r:=r) (m:=m) (l:=l) hrB
   have hsuc:=Zud A B m l (q*B+r)
   have hlen:=Zd1 A B m l (q*B+r)
   refine Zk (fun n=>⟨[(10,vI .i64 (n:Nat)),(9,vI .i64 (16384+Ziw (fun c=>atL m (r*A+c)) (fun c=>atL l (q*A+c)) n))],[],[]⟩) (fun n=>n≤A) (fun n=>A - n) (·+1) 0 (Nat.zero_le _) ?_ ?_
   ·simp (maxSteps:=1000000) only [↓Zn,Ze,Zd,Zm,gSt,gS0,Ya,Yb,↓reduceIte,reduceCtorEq,Yc,Yd,Ye,Yf,Yg,Yj,Yk,Yl,Ym,Yn,Zav,ZB,ZbR,gE1,Tryz.ntmps40,Tryz.results40,gTT]
    exact ⟨rfl,rfl⟩
   intro n hn
   simp (maxSteps:=1000000) only [↓Zn,Ze,Zd,Zm,gSt,gS0,Ya,Yb,↓reduceIte,reduceCtorEq,Yc,Yd,Ye,Yf,Yg,Yj,Yk,Yl,Ym,Yn,Zav,ZB,ZbR,gE1,Tryz.ntmps40,Tryz.results40,gTT]
   have hd:=hdn n
   have hd2:=hdn (n+1)
   refine ⟨fun h5=>?_,fun h5=>?_⟩
   ·have hnA:n < A:=by have:=of_decide_eq_true h5; omega
    refine ⟨by kernel_rfl,?_⟩
    rw [hra,IntWalk.i64_in (((r*A:Nat):Int)+(n:Int)) (by omega),IntWalk.i64_in (((q*A:Nat):Int)+(n:Int)) (by omega)]
    have t1:(((r*A:Nat):Int)+(n:Int)).toNat=r*A+n:=by omega
    have t2:(((q*A:Nat):Int)+(n:Int)).toNat=q*A+n:=by omega
    have b1:=ZLC hmc (r*A+n)
    have b2:=ZLD hsm (q*A+n)
    have g1:m[r*A+n]?.getD 0=atL m (r*A+n):=rfl
    have g2:l[q*A+n]?.getD 0=atL l (q*A+n):=rfl
    have hsd:Ziw (fun c=>atL m (r*A+c)) (fun c=>atL l (q*A+c)) (n+1)=Ziw (fun c=>atL m (r*A+c)) (fun c=>atL l (q*A+c)) n+atL m (r*A+n)*atL l (q*A+n):=rfl
    have b3:-1099511627776≤atL m (r*A+n)*atL l (q*A+n)∧atL m (r*A+n)*atL l (q*A+n)≤1099511627776:=by
     have k:=Zko (f:=fun _=>atL m (r*A+n)) (g:=fun _=>atL l (q*A+n)) (fun _=>b1) (fun _=>by unfold atL; omega) 1
     simp [Ziw] at k
     omega
    rw [t1,t2,g1,g2,hsd]
    rw [g1] at b1
    rw [g2] at b2
    generalize Ziw (fun c=>atL m (r*A+c)) (fun c=>atL l (q*A+c)) n=dd at *
    rw [IntWalk.i64_in (atL l (q*A+n)) (by omega),IntWalk.i64_in (atL m (r*A+n)*atL l (q*A+n)) (by omega),IntWalk.i64_in (16384+dd+_) (by omega)]
    exact ⟨by omega,by omega,⟨(ZY _ (by omega)).symm,by omega⟩,by omega,by omega⟩
   ·have hnA:n=A:=by have:=of_decide_eq_false h5; omega
    subst hnA
    generalize hdd:Ziw (fun c=>atL m (r*n+c)) (fun c=>atL l (q*n+c)) n=dd at *
    rw [Int.add_comm dd 16384] at hav
    rw [ZH2,← hav]
    have hs3:q*B+(r+1)=q*B+r+1:=rfl
    rw [hs3,hsuc]
    refine ⟨by kernel_rfl,by unfold Zab; omega,⟨(ZY _ (by omega)).symm,rfl,rfl⟩,by omega,by omega⟩
  ·have hrB:r=B:=by have:=of_decide_eq_false h4; omega
   rw [hrB,hqb,hqs]
   exact ⟨⟨by rw [IntWalk.i64_in _ (by omega)]; omega,rfl,rfl⟩,by omega,by omega⟩
 ·have hqz:q=z:=by
   have h3':=of_decide_eq_false h3
   rcases Nat.lt_or_ge q z with h | h
   ·have:=Nat.mul_lt_mul_of_pos_right h (show 0 < A by omega)
    omega
   ·omega
  rw [hqz]
def ZeL:List V→Zf→Zr→Name→Option Ent
 | [.agg [.d (.int .i64 a),.d (.int .i64 b),.d (.list q_m)],.agg [.d (.int .i64 c),.d (.list q_l)]],[],[],_=>some ⟨(Zc q_m).length≤1000000∧(Zc q_l).length≤1000000∧q_m=LI .i64 (Zc q_m)∧q_l=LI .i32 (Zc q_l),.tup [.agg [.int .i64 (apC a b (Zc q_m) c (Zc q_l)),.list (LI .i32 (apO a b (Zc q_m) c (Zc q_l)))],.int .i64 (apE a b (Zc q_m) c (Zc q_l))],[],[]⟩
 | _,_,_,_=>none
def ZaG:=And.intro (@ZeL.eq_1) (@ZeL.eq_1)
theorem ZoO:Snd Tryz.prog 40 ZeL:=by
 intro vs b k n e h hn hp
 unfold ZeL at h
 split at h
 ·cases h; obtain ⟨hp0,hp1,hq0,hq1⟩:=hp; obtain ⟨_,rfl⟩:=Zq hq0; obtain ⟨_,rfl⟩:=Zq hq1; simp only [Zi,Zo,Zj,Zp] at hp0 hp1 ⊢; exact (Zq4 _ _ _ _ _ hp0 hp1).lift rfl _
 ·cases h
end Go.Vam
