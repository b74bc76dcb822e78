/- A part of the proof. Conditions: none. -/
import Derived.Test.YtmpbpijnbmpbhaaGreatSDa
set_option linter.unusedVariables false
set_option linter.defProp false
set_option linter.unusedSimpArgs false
set_option maxRecDepth 40000
set_option maxHeartbeats 4000000
namespace Go.Vam
open Go.Proofs Go.RowKit
open Nat renaming reduceShiftRight→Ya,reduceMod→Yb,reduceEqDiff→Yc,reduceLT→Yd,reduceLeDiff→Ye,reduceAdd→Yf,reduceMul→Yg
open Int renaming reduceLE→Yj,reduceLT→Yk,reduceNeg→Yl,reduceAdd→Ym,reduceToNat→Yn
def ZeO (x:Int):Bool:=decide (-131072≤x) && decide (x≤131072)
def mxB (a b:Int) (n:Nat):Bool:=decide (a < 1) || decide (8 < a) || decide (b < 1) || decide (8 < b) || (n:Int) != IntKind.i64.wrap (a*b)
def mxV (a b:Int) (l:List Int):Bool:=!mxB a b l.length && l.all ZeO
theorem ZB8 {x:Int} (h:ZeO x=true):-131072≤x∧x≤131072:=by simpa [ZeO] using h
theorem ZCs {a b:Int} (ha:1≤a∧a≤8) (hb:1≤b∧b≤8):1≤a*b∧a*b≤64:=by
 have h1:a*b≤8*8:=Int.mul_le_mul ha.2 hb.2 (by omega) (by decide)
 have h2:1*1≤a*b:=Int.mul_le_mul ha.1 hb.1 (by decide) (by omega)
 omega
theorem ZGJ {a b:Int} {n:Nat} (h:mxB a b n=false):(1≤a∧a≤8)∧(1≤b∧b≤8)∧n=a.toNat*b.toNat:=by
 simp only [mxB,Bool.or_eq_false_iff,decide_eq_false_iff_not,bne_eq_false_iff_eq] at h
 obtain ⟨⟨⟨⟨h1,h2⟩,h3⟩,h4⟩,h5⟩:=h
 have hm:=ZCs (a:=a) (b:=b) (by omega) (by omega)
 rw [IntWalk.i64_in (a*b) (by omega)] at h5
 refine ⟨by omega,by omega,?_⟩
 have e1:a=(a.toNat:Int):=by omega
 have e2:b=(b.toNat:Int):=by omega
 rw [e1,e2,← Int.natCast_mul] at h5
 exact_mod_cast h5
theorem ZDR {a b:Int} {l:List Int} (h:mxV a b l=true):(1≤a∧a≤8)∧(1≤b∧b≤8)∧l.length=a.toNat*b.toNat∧l.all ZeO=true:=by
 simp only [mxV,Bool.and_eq_true,Bool.not_eq_true'] at h
 obtain ⟨h1,h2,h3⟩:=ZGJ h.1
 exact ⟨h1,h2,h3,h.2⟩
theorem ZBW {l:List Int} {n:Nat} (h:n < l.length) (ha:(l.take n).all ZeO=true) (hx:ZeO l[n]=true):(l.take (n+1)).all ZeO=true:=by
 rw [List.take_add_one,List.getElem?_eq_getElem h,List.all_append,ha]
 simpa using hx
theorem ZEq {l:List Int} {n:Nat} (h:n < l.length) (hx:ZeO l[n]=false):l.all ZeO=false:=by
 rw [List.all_eq_false]
 exact ⟨l[n],List.getElem_mem h,by simp [hx]⟩
def Zxk (a:Nat) (l:List Int) (i:Nat):List Int:=(l.drop (i*a)).take a
def ZmX (a:Nat) (l:List Int) (n:Nat):List (List Int):=(List.range n).map (Zxk a l)
def ZkH (a:Nat) (l:List Int) (n g:Nat):List (List Int):=(List.range n).map fun i=>if i < g then Zxk a l i else []
theorem Zwd (a:Nat) (l:List Int) (n:Nat):ZkH a l n 0=List.replicate n []:=by
 apply List.ext_getElem
 ·simp [ZkH]
 ·intro i h1 h2; simp [ZkH]
theorem ZAj (a:Nat) (l:List Int) (n:Nat):ZkH a l n n=ZmX a l n:=by
 apply List.map_congr_left
 intro i hi
 rw [List.mem_range] at hi
 rw [if_pos hi]
theorem ZAk (a:Nat) (l:List Int) (n g:Nat):(ZkH a l n g).length=n:=by simp [ZkH]
theorem Zwc (a:Nat) (l:List Int) (n g:Nat):ZkH a l n (g+1)=(ZkH a l n g).set g (Zxk a l g):=by
 apply List.ext_getElem
 ·simp [ZkH]
 ·intro i h1 h2
  simp only [ZkH,List.getElem_map,List.getElem_range,List.getElem_set]
  by_cases e:g=i
  ·subst e; simp
  ·rw [if_neg e]
   by_cases h:i < g
   ·rw [if_pos h,if_pos (by omega)]
   ·rw [if_neg h,if_neg (by omega)]
def ZBq (k:Name) (a n g:Nat):List C:=(List.range n).map fun i=>if i < g then C.vw k (i*a) a else .nil
theorem ZuK (k:Name) (a n g:Nat):(ZBq k a n g).length=n:=by simp [ZBq]
theorem ZBs (k:Name) (a n:Nat):ZBq k a n 0=List.replicate n .nil:=by
 apply List.ext_getElem
 ·simp [ZBq]
 ·intro i h1 h2; simp [ZBq]
theorem ZC7 (k:Name) (a n:Nat):ZBq k a n n=ZFy k a n:=by
 apply List.map_congr_left
 intro i hi
 rw [List.mem_range] at hi
 rw [if_pos hi]
theorem ZzG {β:Type}:∀ (l:List β) (g:Nat) (y:β),g < l.length→lay l g [y]=l.set g y
 | [],_,_,h=>absurd h (Nat.not_lt_zero _)
 | x::l,0,y,_=>rfl
 | x::l,g+1,y,h=>by
  show x::lay l g [y]=x::l.set g y
  rw [ZzG l g y (by simpa using h)]
theorem ZBr (k:Name) (a n g:Nat) (hg:g < n):lay (ZBq k a n g) g [C.vw k (g*a) a]=ZBq k a n (g+1):=by
 rw [ZzG _ _ _ (by rw [ZuK]; exact hg)]
 apply List.ext_getElem
 ·simp [ZBq]
 ·intro i h1 h2
  simp only [ZBq,List.getElem_map,List.getElem_range,List.getElem_set]
  by_cases e:g=i
  ·subst e; simp
  ·rw [if_neg e]
   by_cases h:i < g
   ·rw [if_pos h,if_pos (by omega)]
   ·rw [if_neg h,if_neg (by omega)]
theorem ZsJ (a b:Int) (l:List Int) (hl:l.length≤1000000):Spec Tryz.prog 0 221 [.agg [.d (.int .i64 a),.d (.int .i64 b),.d (.list (LI .i64 l))]] [] [] (vB (mxV a b l)) [] []:=by
 refine sE (md:=fun _=>0) (L:=[]) [(1,[0,0,0,0,0,70901320121623,0,0,0,0,0,70901320065047,0,0,0,0,0,70901315928087,0,0,0,0,0,70901127184407,0,0,0,0,0])] 70892730187799 Zb Tryz.func221 rfl rfl rfl ?_
 simp (maxSteps:=1000000) only [↓Zo,Ze,Zd,Zn,gSt,gS0,Ya,Yb,↓reduceIte,reduceCtorEq,Yc,Yd,Ye,Yf,Yg,Yj,Yk,Yl,Ym,Yn,gE1,Tryz.ntmps221,Tryz.results221,gTT]
 refine ⟨fun h=>?_,fun h=>?_⟩
 ·have hc:mxB a b l.length=true:=h
  simp [mxV,hc]
 have hc:mxB a b l.length=false:=h
 refine Zl (fun n=>⟨[(37,vI .i64 (n:Nat))],[],[]⟩) (fun n=>n≤l.length∧(l.take n).all ZeO=true) (fun n=>l.length - n) (·+1) 0 ⟨Nat.zero_le _,rfl⟩ ?_ ?_
 ·simp (maxSteps:=1000000) only [↓Zo,Ze,Zd,Zn,gSt,gS0,Ya,Yb,↓reduceIte,reduceCtorEq,Yc,Yd,Ye,Yf,Yg,Yj,Yk,Yl,Ym,Yn,gE1,Tryz.ntmps221,Tryz.results221,gTT]
  rfl
 rintro n ⟨hn,hok⟩
 simp (maxSteps:=1000000) only [↓Zo,Ze,Zd,Zn,gSt,gS0,Ya,Yb,↓reduceIte,reduceCtorEq,Yc,Yd,Ye,Yf,Yg,Yj,Yk,Yl,Ym,Yn,gE1,Tryz.ntmps221,Tryz.results221,gTT]
 refine ⟨fun h1=>?_,fun h1=>?_⟩
 ·have hlt:n < l.length:=by have:=of_decide_eq_true h1; omega
  have hg:l[n]?.getD 0=l[n]:=by rw [List.getElem?_eq_getElem hlt]; rfl
  rw [hg]
  refine ⟨by omega,fun h2=>?_,fun h2=>?_⟩
  ·have hx:ZeO l[n]=false:=by
    simp only [Bool.or_eq_true,decide_eq_true_eq] at h2
    simp only [ZeO,Bool.and_eq_false_iff,decide_eq_false_iff_not]
    omega
   simp [mxV,ZEq hlt hx]
  ·have hx:ZeO l[n]=true:=by
    simp only [Bool.or_eq_false_iff,decide_eq_false_iff_not] at h2
    simp only [ZeO,Bool.and_eq_true,decide_eq_true_eq]
    omega
   exact ⟨(Zaz _ (by omega)).symm,⟨by omega,ZBW hlt hok hx⟩,by omega⟩
 ·have:n=l.length:=by have:=of_decide_eq_false h1; omega
  rw [this,List.take_length] at hok
  simp [mxV,hc,hok]
def Zfc:List V→Zf→Zw→Name→Option Ent
 | [.agg [.d (.int .i64 a),.d (.int .i64 b),.d (.list q_l)]],[],[],_=>some ⟨(Zc q_l).length≤1000000∧q_l=LI .i64 (Zc q_l),vB (mxV a b (Zc q_l)),[],[]⟩
 | _,_,_,_=>none
def Zaw:=And.intro (@Zfc.eq_1) (@Zfc.eq_1)
theorem Zi7:Snd Tryz.prog 221 Zfc:=by
 intro vs b k n e h hn hp
 unfold Zfc at h
 split at h
 ·cases h; obtain ⟨hp0,hq0⟩:=hp; obtain ⟨_,rfl⟩:=Zu hq0; simp only [Zi,Zp,Zj,Zq] at hp0 ⊢; exact (ZsJ _ _ _ hp0).lift rfl _
 ·cases h
theorem Zwv (a b:Int) (ha:1≤a∧a≤8) (hb:1≤b∧b≤8):Spec Tryz.prog 0 81 [vI .i64 a,vI .i64 b] [] [] (.agg [.d (.int .i64 a),.d (.int .i64 b),.arr ⟨0,9⟩ (a*b).toNat]) [] [(⟨0,9⟩,⟨true,1,(LI .i64 (List.replicate (a*b).toNat 0))⟩)]:=by
 refine ZbI (X:=⟨Tryz.prog,tt,Tryz.f81.ntmps,1,fun s=>if s=10 then 2 else 0,(tab [])⟩) (M:=[]) (m:=19) (r0:=.agg [.d (.int .i64 a),.d (.int .i64 b),.arr ⟨1,10⟩ (a*b).toNat]) (b0:=[]) (k0:=[(⟨1,10⟩,⟨true,1,(LI .i64 (List.replicate (a*b).toNat 0))⟩)]) ⟨1,10⟩ ⟨0,9⟩ rfl rfl ⟨Zah,ZU Zb _ rfl rfl⟩ ZB Tryz.func81 rfl (by decide) (by show (2:Nat)≤_; exact Nat.le_of_ble_eq_true rfl) rfl rfl rfl ⟨by simp [V.has,C.has,Z6],by simp [C.has],by simp⟩ (by decide) (by simp [V.names,C.names,ZS,ZT]) (by simp [lk]) (by simp [lk]) (by simp [lk]) ?_
 simp (maxSteps:=1000000) only [↓Zo,Ze,Zd,Zn,gSt,gS0,Ya,Yb,↓reduceIte,reduceCtorEq,Yc,Yd,Ye,Yf,Yg,Yj,Yk,Yl,Ym,Yn,gE1,Tryz.ntmps81,Tryz.results81,gTT]
 have hm:=ZCs ha hb
 rw [IntWalk.i64_in (a*b) (by omega)]
 exact ⟨⟨by omega,by omega,by omega,by omega⟩,rfl,rfl⟩
def ZiZ:List V→Zf→Zw→Name→Option Ent
 | [.c (.d (.int .i64 a)),.c (.d (.int .i64 b))],[],[],nF=>some ⟨(1≤a∧a≤8)∧(1≤b∧b≤8),.agg [.d (.int .i64 a),.d (.int .i64 b),.arr nF (a*b).toNat],[],[(nF,⟨true,1,(LI .i64 (List.replicate (a*b).toNat 0))⟩)]⟩
 | _,_,_,_=>none
def ZbL:=And.intro (@ZiZ.eq_1) (@ZiZ.eq_1)
theorem Zu5:Snd Tryz.prog 81 ZiZ:=by
 intro vs b k n e h hn hp
 unfold ZiZ at h
 split at h
 ·cases h; obtain ⟨hp0,hp1⟩:=hp; exact Spec.ren1 (Zwv _ _ hp0 hp1) 9 (by simp [Zbi,V.names,C.names,ZS,ZT,Z6]) (Nat.le_of_eq hn)
 ·cases h
theorem ZwR (a b:Int) (l:List Int) (ha:1≤a∧a≤8) (hb:1≤b∧b≤8) (hl:l.length=a.toNat*b.toNat):Spec Tryz.prog 0 82 [.agg [.d (.int .i64 a),.d (.int .i64 b),.d (.list (LI .i64 l))]] [] [] (vL (LL .i64 (ZmX a.toNat l b.toNat))) [] []:=by
 refine spec_of_E (X:=⟨Tryz.prog,tt,Tryz.f82.ntmps,1,fun s=>if s=7 then 2 else 0,(tab [])⟩) (M:=[(5,[0,0,0,0,0,8589897247,0,0,0,0,0,8578493983,0,0,0,0,0,7550889503,0,0,0]),(1000007,[2])]) (m:=3615) rfl rfl ⟨Zah,ZU Zb _ rfl rfl⟩ ZB Tryz.func82 rfl (by decide) (by show (1:Nat)≤_; exact Nat.le_of_ble_eq_true rfl) ⟨by simp [V.has,C.has,Z6],by simp [C.has],by simp⟩ ?_
 simp (maxSteps:=1000000) only [↓Zo,Ze,Zd,Zn,gSt,gS0,Ya,Yb,↓reduceIte,reduceCtorEq,Yc,Yd,Ye,Yf,Yg,Yj,Yk,Yl,Ym,Yn,gE1,Tryz.ntmps82,Tryz.results82,gTT]
 refine ⟨by omega,?_⟩
 refine Zl (fun g=>⟨[(10,vI .i64 (g:Nat))],[],[(⟨1,7⟩,⟨true,1,LL .i64 (ZkH a.toNat l b.toNat g)⟩)]⟩) (fun g=>g≤b.toNat) (fun g=>b.toNat - g) (·+1) 0 (Nat.zero_le _) ?_ ?_
 ·simp (maxSteps:=1000000) only [↓Zo,Ze,Zd,Zn,gSt,gS0,Ya,Yb,↓reduceIte,reduceCtorEq,Yc,Yd,Ye,Yf,Yg,Yj,Yk,Yl,Ym,Yn,gE1,Tryz.ntmps82,Tryz.results82,gTT]
  rw [Zwd,ZF7]
  exact ⟨rfl,rfl⟩
 intro g hg
 simp (maxSteps:=1000000) only [↓Zo,Ze,Zd,Zn,gSt,gS0,Ya,Yb,↓reduceIte,reduceCtorEq,Yc,Yd,Ye,Yf,Yg,Yj,Yk,Yl,Ym,Yn,gE1,Tryz.ntmps82,Tryz.results82,gTT]
 refine ⟨fun h=>?_,fun h=>?_⟩
 ·skip
  have hlt:g < b.toNat:=by have:=of_decide_eq_true h; omega
  have hA:((a.toNat:Nat):Int)=a:=by omega
  have hga:g*a.toNat≤8*8:=Nat.mul_le_mul (by omega) (by omega)
  have hle:(g+1)*a.toNat≤b.toNat*a.toNat:=Nat.mul_le_mul_right _ hlt
  rw [Nat.add_mul,Nat.one_mul,Nat.mul_comm b.toNat] at hle
  have e1:IntKind.i64.wrap ((g:Int)*a)=((g*a.toNat:Nat):Int):=by
   have:(g:Int)*a=((g*a.toNat:Nat):Int):=by rw [Int.natCast_mul,hA]
   rw [this,IntWalk.i64_in _ (by omega)]
  have e2:IntKind.i64.wrap (IntKind.i64.wrap ((g:Int)+1)*a)=((g*a.toNat+a.toNat:Nat):Int):=by
   have:((g:Int)+1)*a=((g*a.toNat+a.toNat:Nat):Int):=by rw [Int.add_mul,Int.one_mul,Int.natCast_add,Int.natCast_mul,hA]
   rw [IntWalk.i64_in ((g:Int)+1) (by omega),this,IntWalk.i64_in _ (by omega)]
  rw [e1,e2]
  have hr:List.take (((g*a.toNat+a.toNat:Nat):Int).toNat - ((g*a.toNat:Nat):Int).toNat) (List.drop ((g*a.toNat:Nat):Int).toNat l)=Zxk a.toNat l g:=by
   rw [Int.toNat_natCast,Int.toNat_natCast,Nat.add_sub_cancel_left]
   rfl
  rw [hr,← Zwc]
  exact ⟨⟨by omega,by omega,by omega,by omega⟩,by omega,by rw [ZAk]; exact hlt,⟨(Zaz _ (by omega)).symm,rfl⟩,by omega,by omega⟩
 ·have:g=b.toNat:=by have:=of_decide_eq_false h; omega
  rw [this,ZAj]
  exact ⟨by simp [ZmX],rfl⟩
def Zmo:List V→Zf→Zw→Name→Option Ent
 | [.agg [.d (.int .i64 a),.d (.int .i64 b),.d (.list q_l)]],[],[],_=>some ⟨(1≤a∧a≤8)∧(1≤b∧b≤8)∧(Zc q_l).length=a.toNat*b.toNat∧q_l=LI .i64 (Zc q_l),vL (LL .i64 (ZmX a.toNat (Zc q_l) b.toNat)),[],[]⟩
 | _,_,_,_=>none
theorem Zvp:Snd Tryz.prog 82 Zmo:=by
 intro vs b k n e h hn hp
 unfold Zmo at h
 split at h
 ·cases h; obtain ⟨hp0,hp1,hp2,hq0⟩:=hp; obtain ⟨_,rfl⟩:=Zu hq0; simp only [Zi,Zp,Zj,Zq] at hp0 hp1 hp2 ⊢; exact (ZwR _ _ _ hp0 hp1 hp2).lift rfl _
 ·cases h
theorem ZwQ (a b:Int) (q:Nat) (l:List Int) (ha:1≤a∧a≤8) (hb:1≤b∧b≤8) (hl:q=a.toNat*b.toNat):Spec Tryz.prog 0 82 [.agg [.d (.int .i64 a),.d (.int .i64 b),.arr ⟨0,0⟩ q]] [] [(⟨0,0⟩,⟨true,1,(LI .i64 l)⟩)] (.c (.rws ⟨0,0⟩ a.toNat b.toNat)) [] [(⟨0,0⟩,⟨true,1,(LI .i64 l)⟩)]:=by
 refine spec_of_E (X:=⟨Tryz.prog,tt,Tryz.f82.ntmps,1,fun s=>if s=7 then 5 else 0,(tab [])⟩) (M:=[(5,[0,0,0,0,0,8589897247,0,0,0,0,0,8578493983,0,0,0,0,0,7550889503,0,0,0]),(1000007,[2])]) (m:=3615) rfl rfl ⟨Zah,ZU Zb _ rfl rfl⟩ ZB Tryz.func82 rfl (by decide) (by show (1:Nat)≤_; exact Nat.le_of_ble_eq_true rfl) ⟨by simp [V.has,C.has,Z6],by simp [C.has],by simp⟩ ?_
 simp (maxSteps:=1000000) only [↓Zo,Ze,Zd,Zn,gSt,gS0,Ya,Yb,↓reduceIte,reduceCtorEq,Yc,Yd,Ye,Yf,Yg,Yj,Yk,Yl,Ym,Yn,gE1,Tryz.ntmps82,Tryz.results82,gTT]
 refine ⟨by omega,?_⟩
 refine Zl (fun g=>⟨[(10,vI .i64 (g:Nat))],[(⟨1,7⟩,ZBq ⟨0,0⟩ a.toNat b.toNat g)],[]⟩) (fun g=>g≤b.toNat) (fun g=>b.toNat - g) (·+1) 0 (Nat.zero_le _) ?_ ?_
 ·simp (maxSteps:=1000000) only [↓Zo,Ze,Zd,Zn,gSt,gS0,Ya,Yb,↓reduceIte,reduceCtorEq,Yc,Yd,Ye,Yf,Yg,Yj,Yk,Yl,Ym,Yn,gE1,Tryz.ntmps82,Tryz.results82,gTT]
  rw [ZBs]
  exact ⟨rfl,Zch _⟩
 intro g hg
 simp (maxSteps:=1000000) only [↓Zo,Ze,Zd,Zn,gSt,gS0,Ya,Yb,↓reduceIte,reduceCtorEq,Yc,Yd,Ye,Yf,Yg,Yj,Yk,Yl,Ym,Yn,gE1,Tryz.ntmps82,Tryz.results82,gTT]
 refine ⟨fun h=>?_,fun h=>?_⟩
 ·skip
  have hlt:g < b.toNat:=by have:=of_decide_eq_true h; omega
  have hA:((a.toNat:Nat):Int)=a:=by omega
  have hga:g*a.toNat≤8*8:=Nat.mul_le_mul (by omega) (by omega)
  have hle:(g+1)*a.toNat≤b.toNat*a.toNat:=Nat.mul_le_mul_right _ hlt
  rw [Nat.add_mul,Nat.one_mul,Nat.mul_comm b.toNat] at hle
  have e1:IntKind.i64.wrap ((g:Int)*a)=((g*a.toNat:Nat):Int):=by
   have:(g:Int)*a=((g*a.toNat:Nat):Int):=by rw [Int.natCast_mul,hA]
   rw [this,IntWalk.i64_in _ (by omega)]
  have e2:IntKind.i64.wrap (IntKind.i64.wrap ((g:Int)+1)*a)=((g*a.toNat+a.toNat:Nat):Int):=by
   have:((g:Int)+1)*a=((g*a.toNat+a.toNat:Nat):Int):=by rw [Int.add_mul,Int.one_mul,Int.natCast_add,Int.natCast_mul,hA]
   rw [IntWalk.i64_in ((g:Int)+1) (by omega),this,IntWalk.i64_in _ (by omega)]
  rw [e1,e2]
  have hv:(((g*a.toNat+a.toNat:Nat):Int) - ((g*a.toNat:Nat):Int)).toNat=a.toNat:=by omega
  rw [hv,Int.toNat_natCast,if_pos (by rw [ZuK]; omega),ZBr _ _ _ _ hlt]
  exact ⟨⟨by omega,by omega,by omega⟩,by omega,⟨(Zaz _ (by omega)).symm,Zch _⟩,by omega,by omega⟩
 ·have:g=b.toNat:=by have:=of_decide_eq_false h; omega
  rw [this,ZC7]
  exact ⟨⟨0,0⟩,a.toNat,rfl,rfl⟩
def Zjj:List V→Zf→Zw→Name→Option Ent
 | [.agg [.d (.int .i64 a),.d (.int .i64 b),.arr n0 q]],[],[(j0,⟨true,1,q_l⟩)],_=>some ⟨(1≤a∧a≤8)∧(1≤b∧b≤8)∧q=a.toNat*b.toNat∧n0.lv≤1∧j0=n0∧q_l=LI .i64 (Zc q_l),.c (.rws n0 a.toNat b.toNat),[],[(n0,⟨true,1,(LI .i64 (Zc q_l))⟩)]⟩
 | _,_,_,_=>none
theorem ZbQ {a b:Int} {q:Nat}  {q_l:List D} {n0:Name} {j0:Name} {nF:Name}:Zjj [.agg [.d (.int .i64 a),.d (.int .i64 b),.arr n0 q]] [] [(j0,⟨true,1,q_l⟩)] nF=some ⟨(1≤a∧a≤8)∧(1≤b∧b≤8)∧q=a.toNat*b.toNat∧n0.lv≤1∧j0=n0∧q_l=LI .i64 (Zc q_l),.c (.rws n0 a.toNat b.toNat),[],[(n0,⟨true,1,(LI .i64 (Zc q_l))⟩)]⟩:=Eq.trans rfl rfl
theorem Zlr:Snd Tryz.prog 82 Zjj:=by
 intro vs b k n e h hn hp
 unfold Zjj at h
 split at h
 ·cases h; obtain ⟨hp0,hp1,hp2,hl0,rfl,hq0⟩:=hp; obtain ⟨_,rfl⟩:=Zu hq0; simp only [Zi,Zp,Zj,Zq] at hp0 hp1 hp2 ⊢; exact Spec.ren1 (ZwQ _ _ _ _ hp0 hp1 hp2) 0 (by simp [Zbi,V.names,C.names,ZS,ZT,Z6]) hl0
 ·cases h
def Zom:List V→Zf→Zw→Name→Option Ent:=fun vs b k n=>(Zmo vs b k n).orElse fun _=>Zjj vs b k n
theorem ZbC {a b:Int}  {q_l:List D} {nF:Name}:Zom [.agg [.d (.int .i64 a),.d (.int .i64 b),.d (.list q_l)]] [] [] nF=some ⟨(1≤a∧a≤8)∧(1≤b∧b≤8)∧(Zc q_l).length=a.toNat*b.toNat∧q_l=LI .i64 (Zc q_l),vL (LL .i64 (ZmX a.toNat (Zc q_l) b.toNat)),[],[]⟩:=Eq.trans rfl rfl
theorem Zba {a b:Int} {q:Nat}  {q_l:List D} {n0:Name} {j0:Name} {nF:Name}:Zom [.agg [.d (.int .i64 a),.d (.int .i64 b),.arr n0 q]] [] [(j0,⟨true,1,q_l⟩)] nF=some ⟨(1≤a∧a≤8)∧(1≤b∧b≤8)∧q=a.toNat*b.toNat∧n0.lv≤1∧j0=n0∧q_l=LI .i64 (Zc q_l),.c (.rws n0 a.toNat b.toNat),[],[(n0,⟨true,1,(LI .i64 (Zc q_l))⟩)]⟩:=Eq.trans rfl rfl
theorem Zx0:Snd Tryz.prog 82 Zom:=by
 intro vs b k n e h hn hp
 unfold Zom at h
 cases ha:Zmo vs b k n with
 | some x=>rw [ha] at h; cases h; exact Zvp vs b k n _ ha hn hp
 | none=>rw [ha] at h; exact Zlr vs b k n e h hn hp
theorem Zux {a i:Nat} {l:List Int} (h:(i+1)*a≤l.length):(Zxk a l i).length=a:=by
 unfold Zxk
 rw [List.length_take,List.length_drop]
 rw [Nat.add_mul,Nat.one_mul] at h
 omega
theorem Zuw {a i c:Nat} {l:List Int} (h:c < a):(Zxk a l i)[c]?=l[i*a+c]?:=by
 unfold Zxk
 rw [List.getElem?_take_of_lt h,List.getElem?_drop]
theorem ZAi {a n i:Nat} {l:List Int} (h:i < n):(ZmX a l n)[i]?.getD []=Zxk a l i:=by
 unfold ZmX
 rw [List.getElem?_map,List.getElem?_range h]
 rfl
theorem ZpF (a n:Nat) (l:List Int):(ZmX a l n).length=n:=by simp [ZmX]
theorem ZMv {l:List Int} (h:l.all ZeO=true) (i:Nat):-131072≤l[i]?.getD 0∧l[i]?.getD 0≤131072:=by
 by_cases hi:i < l.length
 ·rw [List.getElem?_eq_getElem hi]; exact ZB8 (List.all_eq_true.1 h _ (List.getElem_mem hi))
 ·rw [List.getElem?_eq_none (by omega)]; decide
theorem ZMw {l:List Int} (h:l.all Zc2=true) (i:Nat):-8388608≤l[i]?.getD 0∧l[i]?.getD 0≤8388607:=by
 by_cases hi:i < l.length
 ·rw [List.getElem?_eq_getElem hi]; exact Zse (List.all_eq_true.1 h _ (List.getElem_mem hi))
 ·rw [List.getElem?_eq_none (by omega)]; decide
def Zo2 (f g:Nat→Int):Nat→Int
 | 0=>0
 | n+1=>Zo2 f g n+f n*g n
theorem ZrZ {f g:Nat→Int} (hf:∀ i,-131072≤f i∧f i≤131072) (hg:∀ i,-8388608≤g i∧g i≤8388608):∀ n:Nat,-((n:Int)*1099511627776)≤Zo2 f g n∧Zo2 f g n≤(n:Int)*1099511627776
 | 0=>by simp [Zo2]
 | n+1=>by
  have ih:=ZrZ hf hg n
  have h1:=hf n
  have h2:=hg n
  have h3:-1099511627776≤f n*g n∧f n*g n≤1099511627776:=by
   by_cases h0:0≤g n
   ·have:=ZlR (x:=f n) (y:=g n) (A:=131072) (B:=8388608) h1.1 h1.2 h0 h2.2 (by decide)
    omega
   ·have:=ZlR (x:=f n) (y:=- g n) (A:=131072) (B:=8388608) h1.1 h1.2 (by omega) (by omega) (by decide)
    rw [Int.mul_neg] at this
    omega
  show -(((n+1:Nat):Int)*1099511627776)≤Zo2 f g n+f n*g n∧Zo2 f g n+f n*g n≤((n+1:Nat):Int)*1099511627776
  rw [Int.natCast_add,Int.add_mul]
  omega
def atL (l:List Int) (i:Nat):Int:=l[i]?.getD 0
def apV (a b:Nat) (m l:List Int) (j:Nat):Int:=ZAm ((Zo2 (fun c=>atL m (j % b*a+c)) (fun c=>atL l (j / b*a+c)) a+16384) / 32768)
def apL (a b:Nat) (m l:List Int) (n:Nat):List Int:=(List.range n).map (apV a b m l)
theorem ZyB (a b:Nat) (m l:List Int) (n:Nat):(apL a b m l n).length=n:=by simp [apL]
theorem ZBY (a b:Nat) (m l:List Int) (n:Nat):apL a b m l (n+1)=apL a b m l n++[apV a b m l n]:=by simp [apL,List.range_succ]
theorem ZGd {a b q r:Nat} {m l:List Int} (h:r < b):apV a b m l (q*b+r)=ZAm ((Zo2 (fun c=>atL m (r*a+c)) (fun c=>atL l (q*a+c)) a+16384) / 32768):=by
 unfold apV
 have e1:(q*b+r) % b=r:=by rw [Nat.add_comm,Nat.add_mul_mod_self_right,Nat.mod_eq_of_lt h]
 have e2:(q*b+r) / b=q:=by rw [Nat.add_comm,Nat.add_mul_div_right _ _ (by omega),Nat.div_eq_of_lt h,Nat.zero_add]
 rw [e1,e2]
def apE (a b:Int) (m:List Int) (c:Int) (l:List Int):Int:=if (!mxV a b m || !ZaR c l)=true then 1 else if c≠a then 11 else 0
def apC (a b:Int) (m:List Int) (c:Int) (l:List Int):Int:=if apE a b m c l=0 then b else 0
def apO (a b:Int) (m:List Int) (c:Int) (l:List Int):List Int:=if apE a b m c l=0 then apL a.toNat b.toNat m l (l.length / a.toNat*b.toNat) else []
theorem ZDs {a b:Int} {m:List Int} {c:Int} {l:List Int} (h1:mxV a b m=true) (h2:ZaR c l=true) (h3:c=a):apE a b m c l=0:=by
 unfold apE; rw [h1,h2,h3]; simp
theorem ZK0 (n:Int):n.fdiv (2 ^ Nat.min 15 IntKind.i64.bits)=n / 32768:=Int.fdiv_eq_ediv_of_nonneg n (show (0:Int)≤32768 by decide)
theorem ZEs {a b:Int} {m:List Int} {c:Int} {l:List Int} (h:(!mxV a b m || !ZaR c l)=true):apE a b m c l=1:=by unfold apE; rw [if_pos h]
theorem ZvE {a b:Int} {m:List Int} {c:Int} {l:List Int} (h:(!mxV a b m || !ZaR c l)=false) (h2:c≠a):apE a b m c l=11:=by
 unfold apE; rw [h,if_neg (by decide),if_pos h2]
theorem Zpn:(Tryz.prog.info? 3).map (fun i=>(i.zero,i.size,i.bytes))=some (some (.int .i64 0),1,8):=by kernel_rfl
theorem Zd1:Tryz.prog.underlying 26=some (.slice 3):=Tryz.underlying26
set_option maxRecDepth 100000 in
theorem ZrU (n c:Nat) (w:World):Calls Tryz.prog 138 #[.slice none n c] w fun e w'=>e=.returned (.slice none 0 0)∧w'=w:=by
 have q:∀ (w:World) (a:Option Addr) (n c n' c':Nat),(binOp .eql 26 (.slice a n c) (.slice none n' c')).run Tryz.prog w=.ok (.bool a.isNone) w:=fun w a n c n' c'=>Go.Lib.run_eql_slice_nil w _ _ a n c n' c' Zd1
 go_enter Tryz.func138,Tryz.ntmps138
 go_wp2
 go_ret
 exact ⟨rfl,rfl⟩
set_option maxRecDepth 100000 in
theorem ZoV (l:List Int) (hbig:l.length*8≤140737488355328) (b off c:Nat) (w:World) (hc:∀ j,j < l.length→w.cell? ⟨b,off+j,none⟩=some (.int .i64 (l.getD j 0))) :
  Calls Tryz.prog 138 #[.slice (some ⟨b,off,none⟩) l.length c] w fun e w'=>∃ v',e=.returned v'∧w'.ownsRow w.heap.size 3 1 v' l.length (l.map (Value.int .i64))∧Below w.heap.size w w':=by
 obtain ⟨i0,hi,hz0,hz1,hz2⟩:=info_parts Zpn
 have q:∀ (w:World) (a:Option Addr) (n c n' c':Nat),(binOp .eql 26 (.slice a n c) (.slice none n' c')).run Tryz.prog w=.ok (.bool a.isNone) w:=fun w a n c n' c'=>Go.Lib.run_eql_slice_nil w _ _ a n c n' c' Zd1
 have u:∀ w,Sem.run Tryz.prog (underlying 26) w=.ok (TypeDesc.slice 3) w:=run_underlying Zd1
 have X:Aside (∀ j,j < l.length→w.cell? ⟨b,off+j,none⟩=some (.int .i64 (l.getD j 0))):=hc
 have Y:Aside (l.length*8≤140737488355328):=hbig
 clear hc hbig
 generalize hn:l.length=n at *
 go_enter Tryz.func138,Tryz.ntmps138
 go_wp2_with (at_builtin; refine wpList_append_own _ rfl _ _ 26 rfl w.heap.size 3 i0 (.int .i64 0) 1 8 Zd1 hi hz0 hz1 hz2 rfl (by decide) _ _ _ rfl (World.ownsRow_made w #[] 0 (Nat.le_refl _) (Nat.zero_le _) rfl) ⟨b,off,none⟩ n c (l.map (Value.int .i64)) rfl ?qc1 ?qc2 ?qc3 ?qc4 ?qc5 ?qc6 ?_)
 case qc1=>simp [hn]
 case qc2 =>
  intro j u hj
  have hjn:j < n:=by
   have:=(List.getElem?_eq_some_iff.1 hj).1
   simpa [hn] using this
  rw [Addr.add_lit]
  refine Go.Lib.cell?_alloc_some _ ?_
  rw [X.out j hjn]
  have e:(l.map (Value.int .i64))[j]?=some (Value.int .i64 (l.getD j 0)):=by simp [List.getD,hn,hjn,List.getElem?_eq_getElem (show j < l.length by omega)]
  rw [e] at hj
  exact hj
 case qc3=>intro u hu; obtain ⟨x,_,rfl⟩:=List.mem_map.1 hu; rfl
 case qc4=>have:=Y.out; unfold maxLen; omega
 case qc5=>have:=Y.out; omega
 case qc6=>simp
 intro v' w1 hown hgrow hnil
 go_wp2
 go_ret
 refine ⟨v',rfl,by simpa using hown,?_⟩
 exact ((Below.refl _ w).alloc (Nat.le_refl _) _).grown hgrow (by simp) (by intro k hk; simp [Value.ownBlock] at hk; omega)
set_option maxRecDepth 100000 in
theorem ZoW (a:Addr) (c:Nat) (w:World):Calls Tryz.prog 138 #[.slice (some a) 0 c] w fun e w'=>∃ v',e=.returned v'∧w'.ownsRow w.heap.size 3 1 v' 0 []∧Below w.heap.size w w':=by
 obtain ⟨i0,hi,hz0,hz1,hz2⟩:=info_parts Zpn
 have q:∀ (w:World) (a:Option Addr) (n c n' c':Nat),(binOp .eql 26 (.slice a n c) (.slice none n' c')).run Tryz.prog w=.ok (.bool a.isNone) w:=fun w a n c n' c'=>Go.Lib.run_eql_slice_nil w _ _ a n c n' c' Zd1
 have u:∀ w,Sem.run Tryz.prog (underlying 26) w=.ok (TypeDesc.slice 3) w:=run_underlying Zd1
 go_enter Tryz.func138,Tryz.ntmps138
 go_wp2_with (at_builtin; refine wpList_append_own _ rfl _ _ 26 rfl w.heap.size 3 i0 (.int .i64 0) 1 8 Zd1 hi hz0 hz1 hz2 rfl (by decide) _ _ _ rfl (World.ownsRow_made w #[] 0 (Nat.le_refl _) (Nat.zero_le _) rfl) a 0 c [] rfl rfl (by intro j u hj; simp at hj) (by intro u hu; cases hu) (by unfold maxLen; omega) (by omega) (by simp) ?_)
 intro v' w1 hown hgrow hnil
 go_wp2
 go_ret
 refine ⟨v',rfl,by simpa using hown,?_⟩
 exact ((Below.refl _ w).alloc (Nat.le_refl _) _).grown hgrow (by simp) (by intro k hk; simp [Value.ownBlock] at hk; omega)
theorem ZpW (l:List Int) (hl:l.length*8≤140737488355328):Spec Tryz.prog 0 138 [vL (LI .i64 l)] [] [] (vL (LI .i64 l)) [] [] :=
 Zg1 Tryz.func138 rfl (by decide) l ZrU (ZoV l hl) ZoW
def Zc9:List V→Zf→Zw→Name→Option Ent
 | [.c (.d (.list q_l))],[],[],_=>some ⟨(Zc q_l).length*8≤140737488355328∧q_l=LI .i64 (Zc q_l),vL (LI .i64 (Zc q_l)),[],[]⟩
 | _,_,_,_=>none
def ZcL:=And.intro (@Zc9.eq_1) (@Zc9.eq_1)
theorem ZhL:Snd Tryz.prog 138 Zc9:=by
 intro vs b k n e h hn hp
 unfold Zc9 at h
 split at h
 ·cases h; obtain ⟨hp0,hq0⟩:=hp; obtain ⟨_,rfl⟩:=Zu hq0; simp only [Zi,Zp,Zj,Zq] at hp0 ⊢; exact (ZpW _ hp0).lift rfl _
 ·cases h
theorem ZsH (a b:Int) (m:List Int) (c:Int) (l:List Int) (hml:m.length≤1000000) (hl:l.length≤1000000):Spec Tryz.prog 0 224 [.agg [.d (.int .i64 a),.d (.int .i64 b),.d (.list (LI .i64 m))],.agg [.d (.int .i64 c),.d (.list (LI .i32 l))]] [] [] (.tup [.agg [.int .i64 (apC a b m c l),.list (LI .i32 (apO a b m c l))],.int .i64 (apE a b m c l)]) [] []:=by
 refine sE (md:=fun _=>0) (L:=[(221,Zfc),(62,Za8),(82,Zom),(76,ZrH)]) [] 1080996126978489855 (Za Zi7 (Za ZaF (Za Zx0 (Za Zmv Zb)))) Tryz.func224 rfl rfl rfl ?_
 simp (maxSteps:=1000000) only [↓Zo,Ze,Zd,Zn,gSt,gS0,Ya,Yb,↓reduceIte,reduceCtorEq,Yc,Yd,Ye,Yf,Yg,Yj,Yk,Yl,Ym,Yn,Zaw,ZJ,ZbC,ZaI,gE1,Zba,Tryz.ntmps224,Tryz.results224,gTT]
 refine ⟨hml,fun _=>hl,fun h=>?_,fun h=>?_⟩
 ·have e:=ZEs h
  simp [apC,apO,e,Zy]
 refine ⟨fun h2=>?_,fun h2=>?_⟩
 ·have e:=ZvE h (show c≠a by simpa using h2)
  simp [apC,apO,e,Zy]
 have hv:mxV a b m=true:=by simp at h; exact h.1
 have hb:ZaR c l=true:=by simp at h; exact h.2
 have hca:c=a:=by simpa using h2
 have hE:=ZDs hv hb hca
 obtain ⟨ha,hbb,hm,hmc⟩:=ZDR hv
 obtain ⟨hc0,hsm⟩:=ZjV hb
 obtain ⟨k1,k2,k3⟩:=ZfN hc0
 rw [hca] at k3
 have hC:apC a b m c l=b:=by simp [apC,hE]
 have hO:apO a b m c l=apL a.toNat b.toNat m l (l.length / a.toNat*b.toNat):=by simp [apO,hE]
 rw [hC,hO,hE]
 have hAa:((a.toNat:Nat):Int)=a:=by omega
 have hBb:((b.toNat:Nat):Int)=b:=by omega
 have hA8:1≤a.toNat∧a.toNat≤8:=by omega
 have hB8:1≤b.toNat∧b.toNat≤8:=by omega
 generalize hA:a.toNat=A at *
 generalize hB:b.toNat=B at *
 have hz:l.length / A≤l.length:=Nat.div_le_self ..
 generalize l.length / A=z at *
 refine ⟨⟨ha,hbb,hm⟩,?_⟩
 refine Ze3 ⟨1,7⟩ 1 1 ⟨1,99⟩ rfl rfl (by simp (maxSteps:=1000000) only [↓Zo,Ze,Zd,Zn,gSt,gS0,Ya,Yb,↓reduceIte,reduceCtorEq,Yc,Yd,Ye,Yf,Yg,Yj,Yk,Yl,Ym,Yn,Zaw,ZJ,ZbC,ZaI,gE1,Zba,Tryz.ntmps224,Tryz.results224,gTT]) (Nat.le_refl _) ?_
 simp (maxSteps:=1000000) only [↓Zo,Ze,Zd,Zn,gSt,gS0,Ya,Yb,↓reduceIte,reduceCtorEq,Yc,Yd,Ye,Yf,Yg,Yj,Yk,Yl,Ym,Yn,Zaw,ZJ,ZbC,ZaI,gE1,Zba,Tryz.ntmps224,Tryz.results224,gTT]
 refine Zl (fun q=>⟨[(8,vI .i64 ((q*A:Nat):Int))],[(⟨1,7⟩,[.d (.int .i64 b),.own ⟨1,99⟩ (LI .i32 (apL A B m l (q*B)))])],[(⟨1,99⟩,⟨false,1,LI .i32 (apL A B m l (q*B))⟩)]⟩) (fun q=>q≤z) (fun q=>z - q) (·+1) 0 (Nat.zero_le _) ?_ ?_
 ·simp (maxSteps:=1000000) only [↓Zo,Ze,Zd,Zn,gSt,gS0,Ya,Yb,↓reduceIte,reduceCtorEq,Yc,Yd,Ye,Yf,Yg,Yj,Yk,Yl,Ym,Yn,Zaw,ZJ,ZbC,ZaI,gE1,Zba,Tryz.ntmps224,Tryz.results224,gTT]
  simp [apL,Zy]
 intro q hq
 simp (maxSteps:=1000000) only [↓Zo,Ze,Zd,Zn,gSt,gS0,Ya,Yb,↓reduceIte,reduceCtorEq,Yc,Yd,Ye,Yf,Yg,Yj,Yk,Yl,Ym,Yn,Zaw,ZJ,ZbC,ZaI,gE1,Zba,Tryz.ntmps224,Tryz.results224,gTT]
 refine ⟨fun h3=>?_,fun h3=>?_⟩
 ·have h3':=of_decide_eq_true h3
  have hqz:q < z:=by
   rcases Nat.lt_or_ge q z with h | h
   ·exact h
   ·have:=Nat.mul_le_mul_right A h
    omega
  have hle:=Nat.mul_le_mul_right A (show q+1≤z from hqz)
  have hqs:(q+1)*A=q*A+A:=by rw [Nat.add_mul,Nat.one_mul]
  have hqb:(q+1)*B=q*B+B:=by rw [Nat.add_mul,Nat.one_mul]
  have hqB:q*B≤8*z:=by
   have:=Nat.mul_le_mul (show q≤z by omega) hB8.2
   omega
  refine Zl (fun r=>⟨[(45,vI .i64 (r:Nat))],[(⟨1,7⟩,[.d (.int .i64 b),.own ⟨1,99⟩ (LI .i32 (apL A B m l (q*B+r)))])],[(⟨1,99⟩,⟨false,1,LI .i32 (apL A B m l (q*B+r))⟩)]⟩) (fun r=>r≤B) (fun r=>B - r) (·+1) 0 (Nat.zero_le _) ?_ ?_
  ·simp (maxSteps:=1000000) only [↓Zo,Ze,Zd,Zn,gSt,gS0,Ya,Yb,↓reduceIte,reduceCtorEq,Yc,Yd,Ye,Yf,Yg,Yj,Yk,Yl,Ym,Yn,Zaw,ZJ,ZbC,ZaI,gE1,Zba,Tryz.ntmps224,Tryz.results224,gTT]
   simp [ZpF]
  intro r hr
  simp (maxSteps:=1000000) only [↓Zo,Ze,Zd,Zn,gSt,gS0,Ya,Yb,↓reduceIte,reduceCtorEq,Yc,Yd,Ye,Yf,Yg,Yj,Yk,Yl,Ym,Yn,Zaw,ZJ,ZbC,ZaI,gE1,Zba,Tryz.ntmps224,Tryz.results224,gTT]
  have hrl:=ZpF A B m
  refine ⟨fun h4=>?_,fun h4=>?_⟩
  ·have hrB:r < B:=by have:=of_decide_eq_true h4; omega
   have hw:IntKind.i64.wrap (((q*A:Nat):Int)+a)=((q*A+A:Nat):Int):=by rw [IntWalk.i64_in _ (by omega)]; omega
   have hr1:(r+1)*A≤B*A:=Nat.mul_le_mul_right _ hrB
   have hrA:(r+1)*A=r*A+A:=by rw [Nat.add_mul,Nat.one_mul]
   have hmB:m.length=B*A:=by rw [hm,Nat.mul_comm]
   have hrl2:=Zux (a:=A) (i:=r) (l:=m) (by omega)
   have hfl:=Zux (a:=A) (i:=q) (l:=l) (by omega)
   have hfr:List.take (((q*A+A:Nat):Int).toNat - q*A) (List.drop (q*A) l)=Zxk A l q:=by
    rw [Int.toNat_natCast,Nat.add_sub_cancel_left]; rfl
   rw [hw,hfr,ZAi hrB]
   refine ⟨by omega,by omega,?_⟩
   have hdn:=ZrZ (f:=fun c=>atL m (r*A+c)) (g:=fun c=>atL l (q*A+c)) (fun i=>ZMv hmc _) (fun i=>by have:=ZMw hsm (q*A+i); unfold atL; omega)
   have hav:=ZGd (a:=A) (b:=B) (q:=q) (r:=r) (m:=m) (l:=l) hrB
   have hsuc:=ZBY A B m l (q*B+r)
   have hlen:=ZyB A B m l (q*B+r)
   refine Zl (fun n=>⟨[(58,vI .i64 (n:Nat)),(11,vI .i64 (Zo2 (fun c=>atL m (r*A+c)) (fun c=>atL l (q*A+c)) n))],[],[]⟩) (fun n=>n≤A) (fun n=>A - n) (·+1) 0 (Nat.zero_le _) ?_ ?_
   ·simp (maxSteps:=1000000) only [↓Zo,Ze,Zd,Zn,gSt,gS0,Ya,Yb,↓reduceIte,reduceCtorEq,Yc,Yd,Ye,Yf,Yg,Yj,Yk,Yl,Ym,Yn,Zaw,ZJ,ZbC,ZaI,gE1,Zba,Tryz.ntmps224,Tryz.results224,gTT]
    exact ⟨rfl,rfl⟩
   intro n hn
   simp (maxSteps:=1000000) only [↓Zo,Ze,Zd,Zn,gSt,gS0,Ya,Yb,↓reduceIte,reduceCtorEq,Yc,Yd,Ye,Yf,Yg,Yj,Yk,Yl,Ym,Yn,Zaw,ZJ,ZbC,ZaI,gE1,Zba,Tryz.ntmps224,Tryz.results224,gTT]
   have hd:=hdn n
   have hd2:=hdn (n+1)
   refine ⟨fun h5=>?_,fun h5=>?_⟩
   ·have hnA:n < A:=by have:=of_decide_eq_true h5; omega
    have g1:(Zxk A m r)[n]?.getD 0=atL m (r*A+n):=by rw [Zuw hnA]; rfl
    have g2:(Zxk A l q)[n]?.getD 0=atL l (q*A+n):=by rw [Zuw hnA]; rfl
    rw [g1,g2]
    have b1:=ZMv hmc (r*A+n)
    have b2:=ZMw hsm (q*A+n)
    have hsd:Zo2 (fun c=>atL m (r*A+c)) (fun c=>atL l (q*A+c)) (n+1)=Zo2 (fun c=>atL m (r*A+c)) (fun c=>atL l (q*A+c)) n+atL m (r*A+n)*atL l (q*A+n):=rfl
    have b3:-1099511627776≤atL m (r*A+n)*atL l (q*A+n)∧atL m (r*A+n)*atL l (q*A+n)≤1099511627776:=by
     have k:=ZrZ (f:=fun _=>atL m (r*A+n)) (g:=fun _=>atL l (q*A+n)) (fun _=>b1) (fun _=>by unfold atL; omega) 1
     simp [Zo2] at k
     omega
    rw [IntWalk.i64_in (atL l (q*A+n)) (by unfold atL; omega),IntWalk.i64_in (atL m (r*A+n)*atL l (q*A+n)) (by omega),IntWalk.i64_in (Zo2 _ _ n+_) (by omega),← hsd]
    exact ⟨by omega,by omega,⟨(Zaz _ (by omega)).symm,rfl⟩,by omega,by omega⟩
   ·have hnA:n=A:=by have:=of_decide_eq_false h5; omega
    subst hnA
    generalize hdd:Zo2 (fun c=>atL m (r*n+c)) (fun c=>atL l (q*n+c)) n=dd at *
    rw [IntWalk.i64_in (dd+16384) (by omega),ZK0,← hav]
    have hs3:q*B+(r+1)=q*B+r+1:=rfl
    rw [hs3,hsuc]
    refine ⟨by kernel_rfl,by unfold Zag; omega,⟨(Zaz _ (by omega)).symm,rfl,rfl⟩,by omega,by omega⟩
  ·have hrB:r=B:=by have:=of_decide_eq_false h4; omega
   rw [hrB,hqb,hqs]
   exact ⟨⟨by rw [IntWalk.i64_in _ (by omega)]; omega,rfl,rfl⟩,by omega,by omega⟩
 ·have hqz:q=z:=by
   have h3':=of_decide_eq_false h3
   rcases Nat.lt_or_ge q z with h | h
   ·have:=Nat.mul_lt_mul_of_pos_right h (show 0 < A by omega)
    omega
   ·omega
  rw [hqz]
def Zgn:List V→Zf→Zw→Name→Option Ent
 | [.agg [.d (.int .i64 a),.d (.int .i64 b),.d (.list q_m)],.agg [.d (.int .i64 c),.d (.list q_l)]],[],[],_=>some ⟨(Zc q_m).length≤1000000∧(Zc q_l).length≤1000000∧q_m=LI .i64 (Zc q_m)∧q_l=LI .i32 (Zc q_l),.tup [.agg [.int .i64 (apC a b (Zc q_m) c (Zc q_l)),.list (LI .i32 (apO a b (Zc q_m) c (Zc q_l)))],.int .i64 (apE a b (Zc q_m) c (Zc q_l))],[],[]⟩
 | _,_,_,_=>none
def Zri:=And.intro (@Zgn.eq_1) (@Zgn.eq_1)
theorem Zrj:Snd Tryz.prog 224 Zgn:=by
 intro vs b k n e h hn hp
 unfold Zgn at h
 split at h
 ·cases h; obtain ⟨hp0,hp1,hq0,hq1⟩:=hp; obtain ⟨_,rfl⟩:=Zu hq0; obtain ⟨_,rfl⟩:=Zu hq1; simp only [Zi,Zp,Zj,Zq] at hp0 hp1 ⊢; exact (ZsH _ _ _ _ _ hp0 hp1).lift rfl _
 ·cases h
end Go.Vam
