/- A part of the proof. Conditions: none. -/
import Derived.Test.YtmpbpijnbmpbhaaGreatBWa
import Derived.Test.YtmpbpijnbmpbhaaGreatBVm
import Derived.WalkKit
import Derived.OwnWalk
import Derived.Lib.Walk
import Derived.Lib.SliceRun
section
set_option linter.unusedVariables false
set_option linter.defProp false
set_option linter.unusedSimpArgs false
set_option maxRecDepth 40000
set_option maxHeartbeats 4000000
namespace Go.Vam
open Go.Proofs
open Nat renaming reduceShiftRight→Ya,reduceMod→Yb,reduceEqDiff→Yc,reduceLT→Yd,reduceLeDiff→Ye,reduceAdd→Yf,reduceMul→Yg
open Int renaming reduceLE→Yj,reduceLT→Yk,reduceNeg→Yl,reduceAdd→Ym,reduceToNat→Yn
theorem ZkB {x y A B:Int} (h1:-A≤x) (h2:x≤A) (h3:0≤y) (h4:y≤B) (hA:0≤A):-(A*B)≤x*y∧x*y≤A*B:=by
 have e1:x*y≤A*y:=Int.mul_le_mul_of_nonneg_right h2 h3
 have e2:A*y≤A*B:=Int.mul_le_mul_of_nonneg_left h4 hA
 have e3:-A*y≤x*y:=Int.mul_le_mul_of_nonneg_right h1 h3
 have e4:-A*y=-(A*y):=Int.neg_mul A y
 omega
def ZnO (n:Int):Int:=if -8388608 < (if n < 8388607 then n else 8388607) then (if n < 8388607 then n else 8388607) else -8388608
theorem ZhL (n:Int):-8388608≤ZnO n∧ZnO n≤8388607:=by unfold ZnO; omega
theorem ZEc (n:Int):Spec Tryz.prog 0 76 [vI .i64 n] [] [] (vI .i32 (ZnO n)) [] []:=by
 refine sE (md:=fun _=>0) (L:=[]) [] 5 Zb Tryz.func76 rfl rfl rfl ?_
 simp (maxSteps:=1000000) only [↓Zn,Ze,Zd,Zm,gSt,gS0,Ya,Yb,↓reduceIte,reduceCtorEq,Yc,Yd,Ye,Yf,Yg,Yj,Yk,Yl,Ym,Yn,Tryz.ntmps76,Tryz.results76,gTT]
 exact (IntWalk.i32_in _ (by have:=ZhL n; omega)).symm
def ZoW:List V→Zf→Zr→Name→Option Ent
 | [.c (.d (.int .i64 n))],[],[],_=>some ⟨True,vI .i32 (ZnO n),[],[]⟩
 | _,_,_,_=>none
def Zal:=And.intro (@ZoW.eq_1) (@ZoW.eq_1)
theorem ZiE:Snd Tryz.prog 76 ZoW:=by
 intro vs b k n e h hn hp
 unfold ZoW at h
 split at h
 ·cases h; exact (ZEc _).lift rfl _
 ·cases h
theorem ZCc (n:Int):Spec Tryz.prog 0 103 [vI .i64 n] [] [] (vI .i32 (ZnO n)) [] []:=by
 refine sE (md:=fun _=>0) (L:=[]) [] 5 Zb Tryz.func103 rfl rfl rfl ?_
 simp (maxSteps:=1000000) only [↓Zn,Ze,Zd,Zm,gSt,gS0,Ya,Yb,↓reduceIte,reduceCtorEq,Yc,Yd,Ye,Yf,Yg,Yj,Yk,Yl,Ym,Yn,Tryz.ntmps103,Tryz.results103,gTT]
 exact (IntWalk.i32_in _ (by have:=ZhL n; omega)).symm
def ZoT:List V→Zf→Zr→Name→Option Ent
 | [.c (.d (.int .i64 n))],[],[],_=>some ⟨True,vI .i32 (ZnO n),[],[]⟩
 | _,_,_,_=>none
def ZbR:=And.intro (@ZoT.eq_1) (@ZoT.eq_1)
theorem Zy4:Snd Tryz.prog 103 ZoT:=by
 intro vs b k n e h hn hp
 unfold ZoT at h
 split at h
 ·cases h; exact (ZCc _).lift rfl _
 ·cases h
theorem ZBY (l:List UInt8) (n:Int):Spec Tryz.prog 0 21 [.c (.lp ⟨0,0⟩ 0),vI .i64 n] [(⟨0,0⟩,[.d (.list (LB l))])] [] (vI .i64 (dN l n)) [(⟨0,0⟩,[.d (.list (LB (dT l n)))])] []:=by
 refine spec_of_E (X:=⟨Tryz.prog,tt,Tryz.f21.ntmps,1,fun _=>0,(tab [])⟩) (M:=[]) (m:=32819) rfl rfl ⟨Z7,ZI Zb _ rfl rfl⟩ Zs Tryz.func21 rfl (by decide) (by show (2:Nat)≤_; exact Nat.le_of_ble_eq_true rfl) ⟨by simp [V.has,C.has],by simp [C.has],by simp⟩ ?_
 simp (maxSteps:=1000000) only [↓Zn,Ze,Zd,Zm,gSt,gS0,Ya,Yb,↓reduceIte,reduceCtorEq,Yc,Yd,Ye,Yf,Yg,Yj,Yk,Yl,Ym,Yn,Tryz.ntmps21,Tryz.results21,gTT]
 refine ⟨fun h=>?_,fun h=>?_⟩
 ·rcases (Bool.or_eq_true _ _).mp h with h | h
  ·have h0:l=[]:=by cases l with | nil=>rfl | cons a l=>simp at h; omega
   subst h0
   unfold dN dT
   split <;> simp
  ·have h1:=of_decide_eq_true h
   simp only [dN,dT,if_pos h1,and_self]
 ·rw [Bool.or_eq_false_iff] at h
  have h1:=of_decide_eq_false h.2
  match l,h.1 with
  | a::l,_ =>
   simp only [dN,dT,if_neg h1,List.length_cons,List.headD_cons,List.tail_cons,List.getElem?_cons_zero,Option.getD_some,List.drop_succ_cons,List.drop_zero]
   refine ⟨by omega,by omega,by omega,?_,by rw [Nat.add_sub_cancel,List.take_length]⟩
   have:=ZNp a
   rw [IntWalk.i64_in _ (by omega),Int.tmod_eq_emod_of_nonneg (by omega)]
def Zjk:List V→Zf→Zr→Name→Option Ent
 | [.c (.lp n0 0),.c (.d (.int .i64 n))],[(m0,[.d (.list q_l)])],[],_=>some ⟨n0.lv≤1∧m0=n0∧q_l=LB (bys q_l),vI .i64 (dN (bys q_l) n),[(n0,[.d (.list (LB (dT (bys q_l) n)))])],[]⟩
 | _,_,_,_=>none
def ZeD:=And.intro (@Zjk.eq_1) (@Zjk.eq_1)
theorem Zjl:Snd Tryz.prog 21 Zjk:=by
 intro vs b k n e h hn hp
 unfold Zjk at h
 split at h
 ·cases h; obtain ⟨hl0,rfl,hq0⟩:=hp; obtain ⟨_,rfl⟩:=Zpc hq0; simp only [Zi,Zo,Zj,Zp]; exact Spec.ren1 (ZBY _ _) 0 (by simp [Za9,V.names,C.names,ZJ,ZK]) hl0
 ·cases h
theorem ZEa (l:List UInt8):Spec Tryz.prog 0 7 [vL (LB l)] [] [] (.c (.lp ⟨0,9⟩ 0)) [(⟨0,9⟩,[.d (.list (LB (l.take 300)))])] []:=by
 refine ZbW (X:=⟨Tryz.prog,tt,Tryz.f7.ntmps,1,fun _=>0,(tab [])⟩) (M:=[]) (m:=5) (r0:=.c (.lp ⟨1,9⟩ 0)) (b0:=[(⟨1,9⟩,[.d (.list (LB (l.take 300)))])]) (k0:=[]) ⟨1,9⟩ ⟨0,9⟩ rfl rfl ⟨Z7,ZI Zb _ rfl rfl⟩ Zs Tryz.func7 rfl (by decide) (by show (1:Nat)≤_; exact Nat.le_of_ble_eq_true rfl) rfl rfl rfl ⟨by simp [V.has,C.has],by simp [C.has],by simp⟩ (by decide) (by simp [V.names,C.names,ZJ,ZK]) (by simp [lk]) (by simp [lk]) (by simp [lk]) ?_
 simp (maxSteps:=1000000) only [↓Zn,Ze,Zd,Zm,gSt,gS0,Ya,Yb,↓reduceIte,reduceCtorEq,Yc,Yd,Ye,Yf,Yg,Yj,Yk,Yl,Ym,Yn,Tryz.ntmps7,Tryz.results7,gTT]
 refine ⟨by split <;> omega,?_⟩
 have e:(if (300:Int) < ↑l.length then (300:Int) else ↑l.length).toNat=min 300 l.length:=by split <;> omega
 rw [e,Nat.sub_zero,List.take_eq_take_min]
def ZyP:List V→Zf→Zr→Name→Option Ent
 | [.c (.d (.list q_l))],[],[],nF=>some ⟨q_l=LB (bys q_l),.c (.lp nF 0),[(nF,[.d (.list (LB ((bys q_l).take 300)))])],[]⟩
 | _,_,_,_=>none
def ZcZ:=And.intro (@ZyP.eq_1) (@ZyP.eq_1)
theorem ZCW:Snd Tryz.prog 7 ZyP:=by
 intro vs b k n e h hn hp
 unfold ZyP at h
 split at h
 ·cases h; have hq0:=hp; obtain ⟨_,rfl⟩:=Zpc hq0; simp only [Zi,Zo,Zj,Zp]; exact Spec.ren1 (ZEa _) 9 (by simp [Za9,V.names,C.names,ZJ,ZK]) (Nat.le_of_eq hn)
 ·cases h
def ZbI (x:Int):Bool:=decide (-8388608≤x) && decide (x≤8388607)
def ZwS (c:Int) (n:Nat):Bool:=decide (c < 1) || decide (8 < c) || (n:Int).tmod c != 0 || decide (65536 < IntKind.i64.wrap ((n:Int).tdiv c))
def ZaL (c:Int) (l:List Int):Bool:=!ZwS c l.length && l.all ZbI
theorem Zs0 {x:Int} (h:ZbI x=true):-8388608≤x∧x≤8388607:=by simpa [ZbI] using h
theorem Zd4 {c:Int} {n:Nat} (h:ZwS c n=false):1≤c∧c≤8∧n=n / c.toNat*c.toNat:=by
 simp only [ZwS,Bool.or_eq_false_iff,decide_eq_false_iff_not,bne_eq_false_iff_eq] at h
 obtain ⟨⟨⟨h1,h2⟩,h3⟩,_⟩:=h
 refine ⟨by omega,by omega,?_⟩
 have e:c=(c.toNat:Int):=by omega
 rw [e,Int.tmod_eq_emod_of_nonneg (by omega)] at h3
 have h4:n % c.toNat=0:=by exact_mod_cast h3
 exact (Nat.div_mul_cancel (Nat.dvd_of_mod_eq_zero h4)).symm
theorem ZnJ (a b:List Int) (ha:a.length≤1000000000):Spec Tryz.prog 0 72 [vL (LI .i32 a),vL (LI .i32 b)] [] [] (vB (a==b)) [] []:=by
 refine sE (md:=fun _=>0) (L:=[]) [] 16806963 Zb Tryz.func72 rfl rfl rfl ?_
 simp (maxSteps:=1000000) only [↓Zn,Ze,Zd,Zm,gSt,gS0,Ya,Yb,↓reduceIte,reduceCtorEq,Yc,Yd,Ye,Yf,Yg,Yj,Yk,Yl,Ym,Yn,Tryz.ntmps72,Tryz.results72,gTT]
 refine ⟨fun h=>?_,fun h=>?_⟩
 ·rw [beq_eq_false_iff_ne]
  intro e
  subst e
  simp at h
 have hlen:a.length=b.length:=by
  have:(a.length:Int)=b.length:=by simpa using h
  omega
 refine Zk (fun n=>⟨[(13,vI .i64 (n:Nat))],[],[]⟩) (fun n=>n≤a.length∧a.take n=b.take n) (fun n=>a.length - n) (·+1) 0 ⟨Nat.zero_le _,rfl⟩ ?_ ?_
 ·simp (maxSteps:=1000000) only [↓Zn,Ze,Zd,Zm,gSt,gS0,Ya,Yb,↓reduceIte,reduceCtorEq,Yc,Yd,Ye,Yf,Yg,Yj,Yk,Yl,Ym,Yn,Tryz.ntmps72,Tryz.results72,gTT]
  rfl
 rintro n ⟨hn,heq⟩
 simp (maxSteps:=1000000) only [↓Zn,Ze,Zd,Zm,gSt,gS0,Ya,Yb,↓reduceIte,reduceCtorEq,Yc,Yd,Ye,Yf,Yg,Yj,Yk,Yl,Ym,Yn,Tryz.ntmps72,Tryz.results72,gTT]
 refine ⟨fun h1=>?_,fun h1=>?_⟩
 ·have hlt:n < a.length:=by have:=of_decide_eq_true h1; omega
  have hlt2:n < b.length:=by omega
  have g1:a[n]?.getD 0=a[n]:=by rw [List.getElem?_eq_getElem hlt]; rfl
  have g2:b[n]?.getD 0=b[n]:=by rw [List.getElem?_eq_getElem hlt2]; rfl
  rw [g1,g2]
  refine ⟨by kernel_rfl,by omega,by omega,fun h2=>?_,fun h2=>?_⟩
  ·rw [beq_eq_false_iff_ne]
   intro e
   subst e
   simp at h2
  ·have e:a[n]=b[n]:=by simpa using h2
   refine ⟨(ZY _ (by omega)).symm,⟨by omega,?_⟩,by omega⟩
   rw [List.take_add_one,List.take_add_one,heq,List.getElem?_eq_getElem hlt,List.getElem?_eq_getElem hlt2,e]
 ·have hnl:n=a.length:=by have:=of_decide_eq_false h1; omega
  rw [hnl,List.take_length,hlen,List.take_length] at heq
  rw [heq,beq_self_eq_true]
def ZdH:List V→Zf→Zr→Name→Option Ent
 | [.c (.d (.list q_a)),.c (.d (.list q_b))],[],[],_=>some ⟨(Zc q_a).length≤1000000000∧q_a=LI .i32 (Zc q_a)∧q_b=LI .i32 (Zc q_b),vB ((Zc q_a)==(Zc q_b)),[],[]⟩
 | _,_,_,_=>none
def ZmJ:=And.intro (@ZdH.eq_1) (@ZdH.eq_1)
theorem ZmK:Snd Tryz.prog 72 ZdH:=by
 intro vs b k n e h hn hp
 unfold ZdH at h
 split at h
 ·cases h; obtain ⟨hp0,hq0,hq1⟩:=hp; obtain ⟨_,rfl⟩:=Zq hq0; obtain ⟨_,rfl⟩:=Zq hq1; simp only [Zi,Zo,Zj,Zp] at hp0 ⊢; exact (ZnJ _ _ hp0).lift rfl _
 ·cases h
theorem ZCe (c d:Int) (a b:List Int) (ha:a.length≤1000000000):Spec Tryz.prog 0 24 [.agg [.d (.int .i64 c),.d (.list (LI .i32 a))],.agg [.d (.int .i64 d),.d (.list (LI .i32 b))]] [] [] (vB (c==d && a==b)) [] []:=by
 refine sE (md:=fun _=>0) (L:=[(72,ZdH)]) [(1,[0,0,0,0,0,130079,0,0,0,0,0,65567,0])] 31 (Za ZmK Zb) Tryz.func24 rfl rfl rfl ?_
 simp (maxSteps:=1000000) only [↓Zn,Ze,Zd,Zm,gSt,gS0,Ya,Yb,↓reduceIte,reduceCtorEq,Yc,Yd,Ye,Yf,Yg,Yj,Yk,Yl,Ym,Yn,ZmJ,Tryz.ntmps24,Tryz.results24,gTT]
 exact fun _=>ha
def ZoV:List V→Zf→Zr→Name→Option Ent
 | [.agg [.d (.int .i64 c),.d (.list q_a)],.agg [.d (.int .i64 d),.d (.list q_b)]],[],[],_=>some ⟨(Zc q_a).length≤1000000000∧q_a=LI .i32 (Zc q_a)∧q_b=LI .i32 (Zc q_b),vB (c==d && (Zc q_a)==(Zc q_b)),[],[]⟩
 | _,_,_,_=>none
def Zy6:=And.intro (@ZoV.eq_1) (@ZoV.eq_1)
theorem Zy7:Snd Tryz.prog 24 ZoV:=by
 intro vs b k n e h hn hp
 unfold ZoV at h
 split at h
 ·cases h; obtain ⟨hp0,hq0,hq1⟩:=hp; obtain ⟨_,rfl⟩:=Zq hq0; obtain ⟨_,rfl⟩:=Zq hq1; simp only [Zi,Zo,Zj,Zp] at hp0 ⊢; exact (ZCe _ _ _ _ hp0).lift rfl _
 ·cases h
theorem ZEe (x:Int):Spec Tryz.prog 0 142 [vI .i32 x] [] [] (vB (ZbI x)) [] []:=by
 refine sE (md:=fun _=>0) (L:=[]) [] 5 Zb Tryz.func142 rfl rfl rfl ?_
 simp (maxSteps:=1000000) only [↓Zn,Ze,Zd,Zm,gSt,gS0,Ya,Yb,↓reduceIte,reduceCtorEq,Yc,Yd,Ye,Yf,Yg,Yj,Yk,Yl,Ym,Yn,Tryz.ntmps142,Tryz.results142,gTT]
 rfl
def Zy9:List V→Zf→Zr→Name→Option Ent
 | [.c (.d (.int .i32 x))],[],[],_=>some ⟨True,vB (ZbI x),[],[]⟩
 | _,_,_,_=>none
def ZmL:=And.intro (@Zy9.eq_1) (@Zy9.eq_1)
theorem ZCY:Snd Tryz.prog 142 Zy9:=by
 intro vs b k n e h hn hp
 unfold Zy9 at h
 split at h
 ·cases h; exact (ZEe _).lift rfl _
 ·cases h
theorem ZCd (x:Int):Spec Tryz.prog 0 86 [vI .i32 x] [] [] (vB (ZbI x)) [] []:=by
 refine sE (md:=fun _=>0) (L:=[]) [] 5 Zb Tryz.func86 rfl rfl rfl ?_
 simp (maxSteps:=1000000) only [↓Zn,Ze,Zd,Zm,gSt,gS0,Ya,Yb,↓reduceIte,reduceCtorEq,Yc,Yd,Ye,Yf,Yg,Yj,Yk,Yl,Ym,Yn,Tryz.ntmps86,Tryz.results86,gTT]
 rfl
def ZoU:List V→Zf→Zr→Name→Option Ent
 | [.c (.d (.int .i32 x))],[],[],_=>some ⟨True,vB (ZbI x),[],[]⟩
 | _,_,_,_=>none
def ZjL:=And.intro (@ZoU.eq_1) (@ZoU.eq_1)
theorem Zy5:Snd Tryz.prog 86 ZoU:=by
 intro vs b k n e h hn hp
 unfold ZoU at h
 split at h
 ·cases h; exact (ZCd _).lift rfl _
 ·cases h
theorem Zs6 (c:Int) (l:List Int) (hl:l.length≤1000000):Spec Tryz.prog 0 62 [.agg [.d (.int .i64 c),.d (.list (LI .i32 l))]] [] [] (vB (ZaL c l)) [] []:=by
 refine sE (md:=fun _=>0) (L:=[(142,Zy9)]) [(1,[0,0,0,0,0,1166083620119,0,0,0,0,0,1166083563543,0,0,0,0,0,1166079426583,0,0,0,0,0,1165819379735,0,0])] 1165009879063 (Za ZCY Zb) Tryz.func62 rfl rfl rfl ?_
 simp (maxSteps:=1000000) only [↓Zn,Ze,Zd,Zm,gSt,gS0,Ya,Yb,↓reduceIte,reduceCtorEq,Yc,Yd,Ye,Yf,Yg,Yj,Yk,Yl,Ym,Yn,ZmL,Tryz.ntmps62,Tryz.results62,gTT]
 refine ⟨fun h=>?_,fun h=>?_,fun h=>?_,fun h=>?_⟩
 ·simp only [Bool.or_eq_false_iff,decide_eq_false_iff_not] at h; omega
 ·simp only [Bool.or_eq_false_iff,decide_eq_false_iff_not] at h; omega
 ·have hc:ZwS c l.length=true:=h
  simp [ZaL,hc]
 have hc:ZwS c l.length=false:=h
 refine Zk (fun n=>⟨[(34,vI .i64 (n:Nat))],[],[]⟩) (fun n=>n≤l.length∧(l.take n).all ZbI=true) (fun n=>l.length - n) (·+1) 0 ⟨Nat.zero_le _,rfl⟩ ?_ ?_
 ·simp (maxSteps:=1000000) only [↓Zn,Ze,Zd,Zm,gSt,gS0,Ya,Yb,↓reduceIte,reduceCtorEq,Yc,Yd,Ye,Yf,Yg,Yj,Yk,Yl,Ym,Yn,ZmL,Tryz.ntmps62,Tryz.results62,gTT]
  rfl
 rintro n ⟨hn,hok⟩
 simp (maxSteps:=1000000) only [↓Zn,Ze,Zd,Zm,gSt,gS0,Ya,Yb,↓reduceIte,reduceCtorEq,Yc,Yd,Ye,Yf,Yg,Yj,Yk,Yl,Ym,Yn,ZmL,Tryz.ntmps62,Tryz.results62,gTT]
 refine ⟨fun h1=>?_,fun h1=>?_⟩
 ·have hlt:n < l.length:=by have:=of_decide_eq_true h1; omega
  have hg:l[n]?.getD 0=l[n]:=by rw [List.getElem?_eq_getElem hlt]; rfl
  rw [hg]
  refine ⟨by omega,fun h2=>?_,fun h2=>?_⟩
  ·have hbad:l.all ZbI=false:=by
    rw [List.all_eq_false]
    exact ⟨l[n],List.getElem_mem hlt,by simp [h2]⟩
   simp [ZaL,hbad]
  ·refine ⟨(ZY _ (by omega)).symm,⟨by omega,?_⟩,by omega⟩
   rw [List.take_add_one,List.getElem?_eq_getElem hlt,List.all_append,hok]
   simpa using h2
 ·have:n=l.length:=by have:=of_decide_eq_false h1; omega
  rw [this,List.take_length] at hok
  simp [ZaL,hc,hok]
def ZaR:List V→Zf→Zr→Name→Option Ent
 | [.agg [.d (.int .i64 c),.d (.list q_l)]],[],[],_=>some ⟨(Zc q_l).length≤1000000∧q_l=LI .i32 (Zc q_l),vB (ZaL c (Zc q_l)),[],[]⟩
 | _,_,_,_=>none
def ZD:=And.intro (@ZaR.eq_1) (@ZaR.eq_1)
theorem Zax:Snd Tryz.prog 62 ZaR:=by
 intro vs b k n e h hn hp
 unfold ZaR at h
 split at h
 ·cases h; obtain ⟨hp0,hq0⟩:=hp; obtain ⟨_,rfl⟩:=Zq hq0; simp only [Zi,Zo,Zj,Zp] at hp0 ⊢; exact (Zs6 _ _ hp0).lift rfl _
 ·cases h
theorem ZqY (c:Int) (l:List Int) (hl:l.length≤1000000):Spec Tryz.prog 0 30 [.agg [.d (.int .i64 c),.d (.list (LI .i32 l))]] [] [] (vB (ZaL c l)) [] []:=by
 refine sE (md:=fun _=>0) (L:=[(86,ZoU)]) [(1,[0,0,0,0,0,1166083620119,0,0,0,0,0,1166083563543,0,0,0,0,0,1166079426583,0,0,0,0,0,1165819379735,0,0])] 1165009879063 (Za Zy5 Zb) Tryz.func30 rfl rfl rfl ?_
 simp (maxSteps:=1000000) only [↓Zn,Ze,Zd,Zm,gSt,gS0,Ya,Yb,↓reduceIte,reduceCtorEq,Yc,Yd,Ye,Yf,Yg,Yj,Yk,Yl,Ym,Yn,ZjL,Tryz.ntmps30,Tryz.results30,gTT]
 refine ⟨fun h=>?_,fun h=>?_,fun h=>?_,fun h=>?_⟩
 ·simp only [Bool.or_eq_false_iff,decide_eq_false_iff_not] at h; omega
 ·simp only [Bool.or_eq_false_iff,decide_eq_false_iff_not] at h; omega
 ·have hc:ZwS c l.length=true:=h
  simp [ZaL,hc]
 have hc:ZwS c l.length=false:=h
 refine Zk (fun n=>⟨[(34,vI .i64 (n:Nat))],[],[]⟩) (fun n=>n≤l.length∧(l.take n).all ZbI=true) (fun n=>l.length - n) (·+1) 0 ⟨Nat.zero_le _,rfl⟩ ?_ ?_
 ·simp (maxSteps:=1000000) only [↓Zn,Ze,Zd,Zm,gSt,gS0,Ya,Yb,↓reduceIte,reduceCtorEq,Yc,Yd,Ye,Yf,Yg,Yj,Yk,Yl,Ym,Yn,ZjL,Tryz.ntmps30,Tryz.results30,gTT]
  rfl
 rintro n ⟨hn,hok⟩
 simp (maxSteps:=1000000) only [↓Zn,Ze,Zd,Zm,gSt,gS0,Ya,Yb,↓reduceIte,reduceCtorEq,Yc,Yd,Ye,Yf,Yg,Yj,Yk,Yl,Ym,Yn,ZjL,Tryz.ntmps30,Tryz.results30,gTT]
 refine ⟨fun h1=>?_,fun h1=>?_⟩
 ·have hlt:n < l.length:=by have:=of_decide_eq_true h1; omega
  have hg:l[n]?.getD 0=l[n]:=by rw [List.getElem?_eq_getElem hlt]; rfl
  rw [hg]
  refine ⟨by omega,fun h2=>?_,fun h2=>?_⟩
  ·have hbad:l.all ZbI=false:=by
    rw [List.all_eq_false]
    exact ⟨l[n],List.getElem_mem hlt,by simp [h2]⟩
   simp [ZaL,hbad]
  ·refine ⟨(ZY _ (by omega)).symm,⟨by omega,?_⟩,by omega⟩
   rw [List.take_add_one,List.getElem?_eq_getElem hlt,List.all_append,hok]
   simpa using h2
 ·have:n=l.length:=by have:=of_decide_eq_false h1; omega
  rw [this,List.take_length] at hok
  simp [ZaL,hc,hok]
def Zbh:List V→Zf→Zr→Name→Option Ent
 | [.agg [.d (.int .i64 c),.d (.list q_l)]],[],[],_=>some ⟨(Zc q_l).length≤1000000∧q_l=LI .i32 (Zc q_l),vB (ZaL c (Zc q_l)),[],[]⟩
 | _,_,_,_=>none
def ZB:=And.intro (@Zbh.eq_1) (@Zbh.eq_1)
theorem Zbw:Snd Tryz.prog 30 Zbh:=by
 intro vs b k n e h hn hp
 unfold Zbh at h
 split at h
 ·cases h; obtain ⟨hp0,hq0⟩:=hp; obtain ⟨_,rfl⟩:=Zq hq0; simp only [Zi,Zo,Zj,Zp] at hp0 ⊢; exact (ZqY _ _ hp0).lift rfl _
 ·cases h
theorem Ztm (c:Int) (l:List Int) (hl:l.length≤1000000):Spec Tryz.prog 0 20 [.agg [.d (.int .i64 c),.d (.list (LI .i32 l))]] [] [] (vI .i64 (if ZaL c l=true then ((l.length / c.toNat:Nat):Int) else 0)) [] []:=by
 refine spec_of_E (X:=⟨Tryz.prog,tt,Tryz.f20.ntmps,1,fun _=>0,(tab [(30,Zbh)])⟩) (M:=[]) (m:=39) rfl rfl ⟨Z7,ZI (Za Zbw Zb) _ rfl rfl⟩ Zs Tryz.func20 rfl (by decide) (by show (1:Nat)≤_; exact Nat.le_of_ble_eq_true rfl) ⟨by simp [V.has,C.has],by simp [C.has],by simp⟩ ?_
 simp (maxSteps:=1000000) only [↓Zn,Ze,Zd,Zm,gSt,gS0,Ya,Yb,↓reduceIte,reduceCtorEq,Yc,Yd,Ye,Yf,Yg,Yj,Yk,Yl,Ym,Yn,ZB,Tryz.ntmps20,Tryz.results20,gTT]
 refine ⟨hl,fun h=>?_,fun h=>?_⟩
 ·simp [h]
 have h1:ZaL c l=true:=by simpa using h
 have h2:ZwS c l.length=false:=by
  unfold ZaL at h1
  simp only [Bool.and_eq_true,Bool.not_eq_true'] at h1
  exact h1.1
 obtain ⟨c1,c2,_⟩:=Zd4 h2
 rw [if_pos h1,Int.tdiv_eq_ediv_of_nonneg (by omega)]
 have e:(l.length:Int) / c=((l.length / c.toNat:Nat):Int):=by
  have:c=(c.toNat:Int):=by omega
  rw [this]
  exact (Int.natCast_ediv ..).symm
 have hle:l.length / c.toNat≤l.length:=Nat.div_le_self ..
 rw [e]
 have c0:¬ c=0:=by omega
 generalize l.length / c.toNat=z at *
 rw [IntWalk.i64_in (z:Int) (by omega)]
 exact ⟨c0,rfl⟩
def ZdT:List V→Zf→Zr→Name→Option Ent
 | [.agg [.d (.int .i64 c),.d (.list q_l)]],[],[],_=>some ⟨(Zc q_l).length≤1000000∧q_l=LI .i32 (Zc q_l),vI .i64 (if ZaL c (Zc q_l)=true then (((Zc q_l).length / c.toNat:Nat):Int) else 0),[],[]⟩
 | _,_,_,_=>none
def ZZ:=And.intro (@ZdT.eq_1) (@ZdT.eq_1)
theorem ZfF:Snd Tryz.prog 20 ZdT:=by
 intro vs b k n e h hn hp
 unfold ZdT at h
 split at h
 ·cases h; obtain ⟨hp0,hq0⟩:=hp; obtain ⟨_,rfl⟩:=Zq hq0; simp only [Zi,Zo,Zj,Zp] at hp0 ⊢; exact (Ztm _ _ hp0).lift rfl _
 ·cases h
theorem ZfP {k:Int} {l:List Int} (h:ZaL k l=true):ZwS k l.length=false∧l.all ZbI=true:=by
 unfold ZaL at h
 simpa using h
theorem Zkc {c:Int} {l:List Int} (h:ZaL c l=true) (hl:l.length≤1000000):l.length / c.toNat≤65536:=by
 have hc:=(ZfP h).1
 obtain ⟨h1,h2,h3⟩:=Zd4 hc
 have hz:l.length / c.toNat≤l.length:=Nat.div_le_self ..
 unfold ZwS at hc
 simp only [Bool.or_eq_false_iff,decide_eq_false_iff_not] at hc
 have e:(l.length:Int).tdiv c=((l.length / c.toNat:Nat):Int):=ZEs _ (by omega)
 rw [e] at hc
 generalize l.length / c.toNat=z at *
 rw [IntWalk.i64_in (z:Int) (by omega)] at hc
 omega
theorem Za5 {c:Int} {l:List Int} {z:Nat} (hc:1≤c∧c≤8) (hd:l.length=z*c.toNat) (hz:z≤65536) (hs:l.all ZbI=true):ZaL c l=true:=by
 unfold ZaL
 have hch:ZwS c l.length=false:=by
  have e:c=(c.toNat:Int):=by omega
  unfold ZwS
  have e2:((l.length:Nat):Int)=(z:Int)*c:=by rw [hd,Int.natCast_mul,← e]
  rw [e2,Int.mul_tmod_left,Int.mul_tdiv_cancel _ (by omega),IntWalk.i64_in _ (by omega)]
  simp only [Bool.or_eq_false_iff,decide_eq_false_iff_not,bne_self_eq_false,and_true]
  omega
 rw [hch,hs]; rfl
end Go.Vam
end
section
set_option linter.unusedVariables false
set_option linter.defProp false
set_option linter.unusedSimpArgs false
set_option maxRecDepth 40000
set_option maxHeartbeats 4000000
namespace Go.Vam
open Go.Proofs Go.RowKit
open Nat renaming reduceShiftRight→Ya,reduceMod→Yb,reduceEqDiff→Yc,reduceLT→Yd,reduceLeDiff→Ye,reduceAdd→Yf,reduceMul→Yg
open Int renaming reduceLE→Yj,reduceLT→Yk,reduceNeg→Yl,reduceAdd→Ym,reduceToNat→Yn
theorem ZsK:(Tryz.prog.info? 21).map (fun i=>(i.zero,i.size,i.bytes))=some (some (.int .i32 0),1,4):=by kernel_rfl
theorem ZfC:Tryz.prog.underlying 45=some (.slice 21):=Tryz.underlying45
set_option maxRecDepth 100000 in
theorem Zz5 (n c:Nat) (w:World):Calls Tryz.prog 131 #[.slice none n c] w fun e w'=>e=.returned (.slice none 0 0)∧w'=w:=by
 have q:∀ (w:World) (a:Option Addr) (n c n' c':Nat),(binOp .eql 45 (.slice a n c) (.slice none n' c')).run Tryz.prog w=.ok (.bool a.isNone) w:=fun w a n c n' c'=>Go.Lib.run_eql_slice_nil w _ _ a n c n' c' ZfC
 go_enter Tryz.func131,Tryz.ntmps131
 go_wp2
 go_ret
 exact ⟨rfl,rfl⟩
set_option maxRecDepth 100000 in
theorem ZwT (l:List Int) (hbig:l.length*4≤140737488355328) (b off c:Nat) (w:World) (hc:∀ j,j < l.length→w.cell? ⟨b,off+j,none⟩=some (.int .i32 (l.getD j 0))) :
  Calls Tryz.prog 131 #[.slice (some ⟨b,off,none⟩) l.length c] w fun e w'=>∃ v',e=.returned v'∧w'.ownsRow w.heap.size 21 1 v' l.length (l.map (Value.int .i32))∧Below w.heap.size w w':=by
 obtain ⟨i0,hi,hz0,hz1,hz2⟩:=info_parts ZsK
 have q:∀ (w:World) (a:Option Addr) (n c n' c':Nat),(binOp .eql 45 (.slice a n c) (.slice none n' c')).run Tryz.prog w=.ok (.bool a.isNone) w:=fun w a n c n' c'=>Go.Lib.run_eql_slice_nil w _ _ a n c n' c' ZfC
 have u:∀ w,Sem.run Tryz.prog (underlying 45) w=.ok (TypeDesc.slice 21) w:=run_underlying ZfC
 have X:Aside (∀ j,j < l.length→w.cell? ⟨b,off+j,none⟩=some (.int .i32 (l.getD j 0))):=hc
 have Y:Aside (l.length*4≤140737488355328):=hbig
 clear hc hbig
 generalize hn:l.length=n at *
 go_enter Tryz.func131,Tryz.ntmps131
 go_wp2_with (at_builtin; refine wpList_append_own _ rfl _ _ 45 rfl w.heap.size 21 i0 (.int .i32 0) 1 4 ZfC hi hz0 hz1 hz2 rfl (by decide) _ _ _ rfl (World.ownsRow_made w #[] 0 (Nat.le_refl _) (Nat.zero_le _) rfl) ⟨b,off,none⟩ n c (l.map (Value.int .i32)) rfl ?qc1 ?qc2 ?qc3 ?qc4 ?qc5 ?qc6 ?_)
 case qc1=>simp [hn]
 case qc2 =>
  intro j u hj
  have hjn:j < n:=by
   have:=(List.getElem?_eq_some_iff.1 hj).1
   simpa [hn] using this
  rw [Addr.add_lit]
  refine Go.Lib.cell?_alloc_some _ ?_
  rw [X.out j hjn]
  have e:(l.map (Value.int .i32))[j]?=some (Value.int .i32 (l.getD j 0)):=by simp [List.getD,hn,hjn,List.getElem?_eq_getElem (show j < l.length by omega)]
  rw [e] at hj
  exact hj
 case qc3=>intro u hu; obtain ⟨x,_,rfl⟩:=List.mem_map.1 hu; rfl
 case qc4=>have:=Y.out; unfold maxLen; omega
 case qc5=>have:=Y.out; omega
 case qc6=>simp
 intro v' w1 hown hgrow hnil
 go_wp2
 go_ret
 refine ⟨v',rfl,by simpa using hown,?_⟩
 exact ((Below.refl _ w).alloc (Nat.le_refl _) _).grown hgrow (by simp) (by intro k hk; simp [Value.ownBlock] at hk; omega)
set_option maxRecDepth 100000 in
theorem ZwU (a:Addr) (c:Nat) (w:World):Calls Tryz.prog 131 #[.slice (some a) 0 c] w fun e w'=>∃ v',e=.returned v'∧w'.ownsRow w.heap.size 21 1 v' 0 []∧Below w.heap.size w w':=by
 obtain ⟨i0,hi,hz0,hz1,hz2⟩:=info_parts ZsK
 have q:∀ (w:World) (a:Option Addr) (n c n' c':Nat),(binOp .eql 45 (.slice a n c) (.slice none n' c')).run Tryz.prog w=.ok (.bool a.isNone) w:=fun w a n c n' c'=>Go.Lib.run_eql_slice_nil w _ _ a n c n' c' ZfC
 have u:∀ w,Sem.run Tryz.prog (underlying 45) w=.ok (TypeDesc.slice 21) w:=run_underlying ZfC
 go_enter Tryz.func131,Tryz.ntmps131
 go_wp2_with (at_builtin; refine wpList_append_own _ rfl _ _ 45 rfl w.heap.size 21 i0 (.int .i32 0) 1 4 ZfC hi hz0 hz1 hz2 rfl (by decide) _ _ _ rfl (World.ownsRow_made w #[] 0 (Nat.le_refl _) (Nat.zero_le _) rfl) a 0 c [] rfl rfl (by intro j u hj; simp at hj) (by intro u hu; cases hu) (by unfold maxLen; omega) (by omega) (by simp) ?_)
 intro v' w1 hown hgrow hnil
 go_wp2
 go_ret
 refine ⟨v',rfl,by simpa using hown,?_⟩
 exact ((Below.refl _ w).alloc (Nat.le_refl _) _).grown hgrow (by simp) (by intro k hk; simp [Value.ownBlock] at hk; omega)
theorem Zxt (l:List Int) (hl:l.length*4≤140737488355328):Spec Tryz.prog 0 131 [vL (LI .i32 l)] [] [] (vL (LI .i32 l)) [] [] :=
 Zg2 Tryz.func131 rfl (by decide) l Zz5 (ZwT l hl) ZwU
theorem ZDW (w:World) (ty:TypeId) (a:Option Addr) (n:Nat) (h0:0 < n) (hb:n*4≤140737488355328) :
  (Builtin.append_ #[45,3] ty #[.slice a 0 0,.int .i64 n]).run Tryz.prog w=.ok (.slice (some ⟨w.heap.size,0,none⟩) n (grownCap w n 0 21)) (w.drew.alloc (.cells (Builtin.zeroCells #[.int .i32 0] n++Builtin.zeroCells #[.int .i32 0] (grownCap w n 0 21 - n)) 21)):=by
 obtain ⟨i0,hi,hz0,hz1,hz2⟩:=info_parts ZsK
 have ut:Sem.run Tryz.prog (underlying 45) w=.ok (TypeDesc.slice 21) w:=run_underlying ZfC w
 have ui:∀ w,Sem.run Tryz.prog (underlying 3) w=.ok (TypeDesc.int .i64) w:=run_underlying Tryz.underlying3
 have hn0:n≠0:=by omega
 have hw:IntKind.i64.wrap (n:Int)=n:=IntWalk.i64_in _ (by omega)
 have c1:¬ (9223372036854775807 < (n:Int)):=by omega
 have c2:¬ (281474976710656 < Builtin.nextslicecap n 0*i0.bytes):=by rw [nextslicecap_zero h0,hz2]; omega
 have c3:¬ (281474976710656 < (n:Int)*(i0.bytes:Int)):=by rw [hz2]; omega
 have c4:¬ ((n:Int) < 0):=by omega
 have c5:¬ (n*i0.size=0):=by rw [hz1]; omega
 have c6:∀ w,(Builtin.firstCells i0.size 0 (.slice a 0 0)).run Tryz.prog w=.ok #[] w:=fun w=>by
  cases a <;> simp [Builtin.firstCells,loadCells,loadCellsFrom]
 have zc:(Value.cells (.int .i32 0))=#[.int .i32 0]:=rfl
 simp [Builtin.append_,run_underlying ZfC,run_underlying Tryz.underlying3,sizeOf,typeInfo,zeroValue,hi,hz0,asInt,asIntOf,hw,hn0,c4,c5,c1,c2,c3,Question.forced,c6,newRow,grownCap,zc]
set_option maxRecDepth 100000 in
theorem Zw4 (n:Nat) (hb:n*4≤140737488355328) (a:Option Addr) (w:World):Calls Tryz.prog 203 #[.slice a 0 0,.int .i64 n] w (ZNt a w):=by
 have u:∀ w,Sem.run Tryz.prog (underlying 45) w=.ok (TypeDesc.slice 21) w:=run_underlying ZfC
 have h1:¬ ((n:Int) < 0):=by omega
 have h2:wrap64 ((0:Int) - (0:Int))=0:=by unfold wrap64; decide
 have h3:wrap64 ((n:Int) - 0)=(n:Int):=by unfold wrap64; omega
 by_cases h0:n=0
 ·subst h0
  go_enter Tryz.func203,Tryz.ntmps203
  go_wp2
  go_ret
  exact .inl ⟨rfl,rfl⟩
 ·have h4:((n:Int) > 0):=by omega
  have hr:=fun ty=>ZDW w ty a n (by omega) hb
  have hG:n≤grownCap w n 0 21:=grownCap_ge w _ _ _
  have hG2:grownCap w n 0 21≤9223372036854775807:=grownCap_le_maxLen w n 0 21 (by unfold maxLen; omega)
  generalize grownCap w n 0 21=G at *
  go_enter Tryz.func203,Tryz.ntmps203
  go_wp2_with (at_builtin; refine Zk4 rfl rfl rfl rfl hr ?_)
  all_goals
   go_ret
   refine .inr ⟨G,Builtin.zeroCells #[.int .i32 0] n++Builtin.zeroCells #[.int .i32 0] (G - n),21,rfl,rfl,?_,rfl,rfl,rfl⟩
   simp [Builtin.zeroCells]
   omega
theorem ZxD (n:Nat) (hb:n*4≤140737488355328):Spec Tryz.prog 0 203 [.c .nil,vI .i64 n] [] [] (.c (.own ⟨0,9⟩ [])) [] [(⟨0,9⟩,⟨false,1,[]⟩)] :=
 ZqK Tryz.func203 rfl (by decide) n (Zw4 n hb)
theorem ZBP (n:Int) (h:0≤n∧n*4≤140737488355328):Spec Tryz.prog 0 203 [.c .nil,vI .i64 n] [] [] (.c (.own ⟨0,9⟩ [])) [] [(⟨0,9⟩,⟨false,1,[]⟩)]:=by
 have:=ZxD n.toNat (by omega)
 rw [show ((n.toNat:Nat):Int)=n by omega] at this
 exact this
def Zoe:List V→Zf→Zr→Name→Option Ent
 | [.c .nil,.c (.d (.int .i64 n))],[],[],nF=>some ⟨(0≤n∧n*4≤140737488355328),.c (.own nF []),[],[(nF,⟨false,1,[]⟩)]⟩
 | _,_,_,_=>none
def ZeA:=And.intro (@Zoe.eq_1) (@Zoe.eq_1)
theorem ZyC:Snd Tryz.prog 203 Zoe:=by
 intro vs b k n e h hn hp
 unfold Zoe at h
 split at h
 ·cases h; have hp0:=hp; exact Spec.ren1 (ZBP _ hp0) 9 (by simp [Za9,V.names,C.names,ZJ,ZK]) (Nat.le_of_eq hn)
 ·cases h
def Zes:List V→Zf→Zr→Name→Option Ent
 | [.c (.d (.list q_l))],[],[],_=>some ⟨(Zc q_l).length*4≤140737488355328∧q_l=LI .i32 (Zc q_l),vL (LI .i32 (Zc q_l)),[],[]⟩
 | _,_,_,_=>none
def Zaa:=And.intro (@Zes.eq_1) (@Zes.eq_1)
theorem Ze9:Snd Tryz.prog 131 Zes:=by
 intro vs b k n e h hn hp
 unfold Zes at h
 split at h
 ·cases h; obtain ⟨hp0,hq0⟩:=hp; obtain ⟨_,rfl⟩:=Zq hq0; simp only [Zi,Zo,Zj,Zp] at hp0 ⊢; exact (Zxt _ hp0).lift rfl _
 ·cases h
structure Rs where
 c:Int
 p:Ph
 l:List Int
def rs0:Rs:=⟨0,⟨0,0,0,0,0⟩,[]⟩
def rsV (x:Rs):Bool:=phV x.p && ZaL x.c x.l
theorem ZA {x:Rs} (h:rsV x=true):phV x.p=true∧ZaL x.c x.l=true:=by simpa [rsV] using h
theorem ZW {c:Int} {l:List Int} (h:ZaL c l=true) (hl:l.length≤1000000):(1≤c∧c≤8)∧l.length=l.length / c.toNat*c.toNat∧l.length / c.toNat≤65536∧l.all ZbI=true:=by
 obtain ⟨h1,h2⟩:=ZfP h
 obtain ⟨k1,k2,k3⟩:=Zd4 h1
 exact ⟨⟨k1,k2⟩,k3,Zkc h hl,h2⟩
theorem Ze2 {l:List Int} (h:l.all ZbI=true) (i:Nat):-8388608≤l[i]?.getD 0∧l[i]?.getD 0≤8388607:=by
 cases hi:l[i]? with
 | none=>decide
 | some x=>exact Zs0 (List.all_eq_true.1 h x (List.mem_of_getElem? hi))
def waN (x:Rs):Int:=if rsV x=true then ((x.l.length / x.c.toNat:Nat):Int) else 0
def pnE (n d:Int):Int:=if phV ⟨n,d,0,0,0⟩=true then 0 else 1
def pnN (n d:Int):Int:=if pnE n d=0 then n else 0
def pnD (n d:Int):Int:=if pnE n d=0 then d else 0
def nwE (c n d:Int):Int:=if rsV ⟨c,⟨n,d,0,0,0⟩,[]⟩=true then 0 else 1
def nwR (c n d:Int):Rs:=if rsV ⟨c,⟨n,d,0,0,0⟩,[]⟩=true then ⟨c,⟨n,d,0,0,0⟩,[]⟩ else rs0
def feE (x:Rs) (k:Int) (y:List Int):Int:=if (!rsV x || !ZaL k y)=true then 1 else if k≠x.c then 11 else if 65536 < (x.l.length+y.length) / x.c.toNat then 3 else 0
def feR (x:Rs) (k:Int) (y:List Int):Rs:=if feE x k y=0 then { x with l:=x.l++y} else rs0
theorem ZCz {c:Int} {a b:Nat} (hc:1≤c) (h:a+b≤9000000):IntKind.i64.wrap ((IntKind.i64.wrap ((a:Int)+(b:Int))).tdiv c)=(((a+b) / c.toNat:Nat):Int):=by
 have hz:(a+b) / c.toNat≤a+b:=Nat.div_le_self ..
 have e:((a:Int)+(b:Int))=((a+b:Nat):Int):=by omega
 rw [e,IntWalk.i64_in ((a+b:Nat):Int) (by omega),ZEs _ (by omega)]
 generalize (a+b) / c.toNat=z at *
 exact IntWalk.i64_in _ (by omega)
theorem Zdg {c:Int} {a:Nat} (hc:1≤c) (h:a≤9000000):IntKind.i64.wrap ((a:Int).tdiv c)=((a / c.toNat:Nat):Int):=by
 have hz:a / c.toNat≤a:=Nat.div_le_self ..
 rw [ZEs _ (by omega)]
 generalize a / c.toNat=z at *
 exact IntWalk.i64_in _ (by omega)
theorem ZHB {x y:List Int} {i:Nat}:(([D.list (LI .i32 x),D.list (LI .i32 y)])[i]?).getD (D.list [])=D.list (LI .i32 (([x,y])[i]?.getD [])):=by
 match i with
 | 0=>rfl
 | 1=>rfl
 | i+2=>rfl
def ZEP (x y:List Int) (i:Nat):Nat:=(([x,y].take i).map List.length).sum
def ZzQ (x y:List Int) (i:Nat):List Int:=([x,y].take i).flatten
theorem ZHs {x:Rs} {k:Int} {y:List Int} (h:feE x k y=0):rsV x=true∧ZaL k y=true∧k=x.c∧(x.l.length+y.length) / x.c.toNat≤65536:=by
 unfold feE at h
 split at h
 ·cases h
 ·split at h
  ·cases h
  ·split at h
   ·cases h
   ·rename_i h1 h2 h3
    simp only [Bool.or_eq_true,Bool.not_eq_true',not_or,Bool.not_eq_false] at h1
    exact ⟨h1.1,h1.2,by simpa using h2,by omega⟩
theorem ZB8 (c n d a p f:Int) (l:List Int):Spec Tryz.prog 0 196 [.agg [.d (.int .i64 c),.d (.int .i64 n),.d (.int .i64 d),.d (.int .i64 a),.d (.int .i64 p),.d (.int .i64 f),.d (.list (LI .i32 l))]] [] [] (.agg [.d (.int .i64 c),.d (.list (LI .i32 l))]) [] []:=by
 refine sE (md:=fun _=>0) (L:=[]) [] 7 Zb Tryz.func196 rfl rfl rfl ?_
 simp (maxSteps:=1000000) only [↓Zn,Ze,Zd,Zm,gSt,gS0,Ya,Yb,↓reduceIte,reduceCtorEq,Yc,Yd,Ye,Yf,Yg,Yj,Yk,Yl,Ym,Yn,Tryz.ntmps196,Tryz.results196,gTT]
def ZoH:List V→Zf→Zr→Name→Option Ent
 | [.agg [.d (.int .i64 c),.d (.int .i64 n),.d (.int .i64 d),.d (.int .i64 a),.d (.int .i64 p),.d (.int .i64 f),.d (.list q_l)]],[],[],_=>some ⟨q_l=LI .i32 (Zc q_l),.agg [.d (.int .i64 c),.d (.list (LI .i32 (Zc q_l)))],[],[]⟩
 | _,_,_,_=>none
def Zy1:=And.intro (@ZoH.eq_1) (@ZoH.eq_1)
theorem Zy2:Snd Tryz.prog 196 ZoH:=by
 intro vs b k n e h hn hp
 unfold ZoH at h
 split at h
 ·cases h; have hq0:=hp; obtain ⟨_,rfl⟩:=Zq hq0; simp only [Zi,Zo,Zj,Zp]; exact (ZB8 _ _ _ _ _ _ _).lift rfl _
 ·cases h
theorem Zx2 (c n d a p f:Int) (l:List Int):Spec Tryz.prog 0 172 [.agg [.d (.int .i64 c),.d (.int .i64 n),.d (.int .i64 d),.d (.int .i64 a),.d (.int .i64 p),.d (.int .i64 f),.d (.list (LI .i32 l))]] [] [] (.agg [.d (.int .i64 c),.d (.list (LI .i32 l))]) [] []:=by
 refine sE (md:=fun _=>0) (L:=[]) [] 7 Zb Tryz.func172 rfl rfl rfl ?_
 simp (maxSteps:=1000000) only [↓Zn,Ze,Zd,Zm,gSt,gS0,Ya,Yb,↓reduceIte,reduceCtorEq,Yc,Yd,Ye,Yf,Yg,Yj,Yk,Yl,Ym,Yn,Tryz.ntmps172,Tryz.results172,gTT]
def ZjJ:List V→Zf→Zr→Name→Option Ent
 | [.agg [.d (.int .i64 c),.d (.int .i64 n),.d (.int .i64 d),.d (.int .i64 a),.d (.int .i64 p),.d (.int .i64 f),.d (.list q_l)]],[],[],_=>some ⟨q_l=LI .i32 (Zc q_l),.agg [.d (.int .i64 c),.d (.list (LI .i32 (Zc q_l)))],[],[]⟩
 | _,_,_,_=>none
def Zwt:=And.intro (@ZjJ.eq_1) (@ZjJ.eq_1)
theorem Zwu:Snd Tryz.prog 172 ZjJ:=by
 intro vs b k n e h hn hp
 unfold ZjJ at h
 split at h
 ·cases h; have hq0:=hp; obtain ⟨_,rfl⟩:=Zq hq0; simp only [Zi,Zo,Zj,Zp]; exact (Zx2 _ _ _ _ _ _ _).lift rfl _
 ·cases h
theorem Zq8 (c n d a p f:Int) (l:List Int) (hl:l.length≤1000000):Spec Tryz.prog 0 123 [.agg [.d (.int .i64 c),.d (.int .i64 n),.d (.int .i64 d),.d (.int .i64 a),.d (.int .i64 p),.d (.int .i64 f),.d (.list (LI .i32 l))]] [] [] (vB (rsV ⟨c,⟨n,d,a,p,f⟩,l⟩)) [] []:=by
 refine sE (md:=fun _=>0) (L:=[(160,ZbN),(196,ZoH),(62,ZaR)]) [] 7 (Za Zch (Za Zy2 (Za Zax Zb))) Tryz.func123 rfl rfl rfl ?_
 simp (maxSteps:=1000000) only [↓Zn,Ze,Zd,Zm,gSt,gS0,Ya,Yb,↓reduceIte,reduceCtorEq,Yc,Yd,Ye,Yf,Yg,Yj,Yk,Yl,Ym,Yn,Zcg,Zy1,ZD,Tryz.ntmps123,Tryz.results123,gTT]
 exact ⟨fun _=>hl,rfl⟩
def Zbi:List V→Zf→Zr→Name→Option Ent
 | [.agg [.d (.int .i64 c),.d (.int .i64 n),.d (.int .i64 d),.d (.int .i64 a),.d (.int .i64 p),.d (.int .i64 f),.d (.list q_l)]],[],[],_=>some ⟨(Zc q_l).length≤1000000∧q_l=LI .i32 (Zc q_l),vB (rsV ⟨c,⟨n,d,a,p,f⟩,(Zc q_l)⟩),[],[]⟩
 | _,_,_,_=>none
def Zbz:=And.intro (@Zbi.eq_1) (@Zbi.eq_1)
theorem ZbA:Snd Tryz.prog 123 Zbi:=by
 intro vs b k n e h hn hp
 unfold Zbi at h
 split at h
 ·cases h; obtain ⟨hp0,hq0⟩:=hp; obtain ⟨_,rfl⟩:=Zq hq0; simp only [Zi,Zo,Zj,Zp] at hp0 ⊢; exact (Zq8 _ _ _ _ _ _ _ hp0).lift rfl _
 ·cases h
theorem ZnF (c n d a p f:Int) (l:List Int) (hl:l.length≤1000000):Spec Tryz.prog 0 97 [.agg [.d (.int .i64 c),.d (.int .i64 n),.d (.int .i64 d),.d (.int .i64 a),.d (.int .i64 p),.d (.int .i64 f),.d (.list (LI .i32 l))]] [] [] (vB (rsV ⟨c,⟨n,d,a,p,f⟩,l⟩)) [] []:=by
 refine sE (md:=fun _=>0) (L:=[(171,Zb2),(172,ZjJ),(30,Zbh)]) [] 7 (Za ZdX (Za Zwu (Za Zbw Zb))) Tryz.func97 rfl rfl rfl ?_
 simp (maxSteps:=1000000) only [↓Zn,Ze,Zd,Zm,gSt,gS0,Ya,Yb,↓reduceIte,reduceCtorEq,Yc,Yd,Ye,Yf,Yg,Yj,Yk,Yl,Ym,Yn,ZbQ,Zwt,ZB,Tryz.ntmps97,Tryz.results97,gTT]
 exact ⟨fun _=>hl,rfl⟩
def Zby:List V→Zf→Zr→Name→Option Ent
 | [.agg [.d (.int .i64 c),.d (.int .i64 n),.d (.int .i64 d),.d (.int .i64 a),.d (.int .i64 p),.d (.int .i64 f),.d (.list q_l)]],[],[],_=>some ⟨(Zc q_l).length≤1000000∧q_l=LI .i32 (Zc q_l),vB (rsV ⟨c,⟨n,d,a,p,f⟩,(Zc q_l)⟩),[],[]⟩
 | _,_,_,_=>none
def Zcv:=And.intro (@Zby.eq_1) (@Zby.eq_1)
theorem Zcw:Snd Tryz.prog 97 Zby:=by
 intro vs b k n e h hn hp
 unfold Zby at h
 split at h
 ·cases h; obtain ⟨hp0,hq0⟩:=hp; obtain ⟨_,rfl⟩:=Zq hq0; simp only [Zi,Zo,Zj,Zp] at hp0 ⊢; exact (ZnF _ _ _ _ _ _ _ hp0).lift rfl _
 ·cases h
theorem ZB3 (n d:Int):Spec Tryz.prog 0 122 [.agg [.d (.int .i64 n),.d (.int .i64 d)]] [] [] (.tup [.agg [.int .i64 (pnN n d),.int .i64 (pnD n d),.int .i64 0,.int .i64 0,.int .i64 0],.int .i64 (pnE n d)]) [] []:=by
 refine spec_of_E (X:=⟨Tryz.prog,tt,Tryz.f122.ntmps,1,fun _=>0,(tab [(160,ZbN)])⟩) (M:=[]) (m:=543) rfl rfl ⟨Z7,ZI (Za Zch Zb) _ rfl rfl⟩ Zs Tryz.func122 rfl (by decide) (by show (1:Nat)≤_; exact Nat.le_of_ble_eq_true rfl) ⟨by simp [V.has,C.has],by simp [C.has],by simp⟩ ?_
 simp (maxSteps:=1000000) only [↓Zn,Ze,Zd,Zm,gSt,gS0,Ya,Yb,↓reduceIte,reduceCtorEq,Yc,Yd,Ye,Yf,Yg,Yj,Yk,Yl,Ym,Yn,Zcg,Tryz.ntmps122,Tryz.results122,gTT]
 refine ⟨fun h=>?_,fun h=>?_⟩
 ·simp [pnN,pnD,pnE,h]
 ·have h':phV ⟨n,d,0,0,0⟩=true:=by simpa using h
  simp [pnN,pnD,pnE,h']
def Zox:List V→Zf→Zr→Name→Option Ent
 | [.agg [.d (.int .i64 n),.d (.int .i64 d)]],[],[],_=>some ⟨True,.tup [.agg [.int .i64 (pnN n d),.int .i64 (pnD n d),.int .i64 0,.int .i64 0,.int .i64 0],.int .i64 (pnE n d)],[],[]⟩
 | _,_,_,_=>none
def ZyS:=And.intro (@Zox.eq_1) (@Zox.eq_1)
theorem ZyT:Snd Tryz.prog 122 Zox:=by
 intro vs b k n e h hn hp
 unfold Zox at h
 split at h
 ·cases h; exact (ZB3 _ _).lift rfl _
 ·cases h
theorem Zx4 (c n d:Int):Spec Tryz.prog 0 47 [vI .i64 c,.agg [.d (.int .i64 n),.d (.int .i64 d)]] [] [] (.tup [.agg [.int .i64 (nwR c n d).c,.int .i64 (nwR c n d).p.n,.int .i64 (nwR c n d).p.d,.int .i64 (nwR c n d).p.a,.int .i64 (nwR c n d).p.p,.int .i64 (nwR c n d).p.f,.list (LI .i32 (nwR c n d).l)],.int .i64 (nwE c n d)]) [] []:=by
 refine sE (md:=fun _=>0) (L:=[(122,Zox),(123,Zbi)]) [] 8389115 (Za ZyT (Za ZbA Zb)) Tryz.func47 rfl rfl rfl ?_
 simp (maxSteps:=1000000) only [↓Zn,Ze,Zd,Zm,gSt,gS0,Ya,Yb,↓reduceIte,reduceCtorEq,Yc,Yd,Ye,Yf,Yg,Yj,Yk,Yl,Ym,Yn,ZyS,Zbz,Tryz.ntmps47,Tryz.results47,gTT]
 refine ⟨fun h=>?_,fun h=>?_⟩
 ·have e:rsV ⟨c,⟨n,d,0,0,0⟩,[]⟩=false:=by
   by_cases hp:phV ⟨n,d,0,0,0⟩=true
   ·have e1:pnE n d=0:=by simp [pnE,hp]
    simp [pnN,pnD,e1] at h; exact h
   ·simp [rsV,hp]
  simp [nwR,nwE,e,rs0,Zw]
 ·have hp:pnE n d=0:=by simp at h; exact h.1
  simp [pnN,pnD,hp] at h ⊢
  simp [nwR,nwE,h,Zw]
def ZeO:List V→Zf→Zr→Name→Option Ent
 | [.c (.d (.int .i64 c)),.agg [.d (.int .i64 n),.d (.int .i64 d)]],[],[],_=>some ⟨True,.tup [.agg [.int .i64 (nwR c n d).c,.int .i64 (nwR c n d).p.n,.int .i64 (nwR c n d).p.d,.int .i64 (nwR c n d).p.a,.int .i64 (nwR c n d).p.p,.int .i64 (nwR c n d).p.f,.list (LI .i32 (nwR c n d).l)],.int .i64 (nwE c n d)],[],[]⟩
 | _,_,_,_=>none
def Zfk:=And.intro (@ZeO.eq_1) (@ZeO.eq_1)
theorem Zfl:Snd Tryz.prog 47 ZeO:=by
 intro vs b k n e h hn hp
 unfold ZeO at h
 split at h
 ·cases h; exact (Zx4 _ _ _).lift rfl _
 ·cases h
theorem ZtH (c n d:Int):Spec Tryz.prog 0 38 [vI .i64 c,.agg [.d (.int .i64 n),.d (.int .i64 d)]] [] [] (.tup [.agg [.int .i64 (nwR c n d).c,.int .i64 (nwR c n d).p.n,.int .i64 (nwR c n d).p.d,.int .i64 (nwR c n d).p.a,.int .i64 (nwR c n d).p.p,.int .i64 (nwR c n d).p.f,.list (LI .i32 (nwR c n d).l)],.int .i64 (nwE c n d)]) [] []:=by
 refine sE (md:=fun _=>0) (L:=[(97,Zby)]) [] 8315 (Za Zcw Zb) Tryz.func38 rfl rfl rfl ?_
 simp (maxSteps:=1000000) only [↓Zn,Ze,Zd,Zm,gSt,gS0,Ya,Yb,↓reduceIte,reduceCtorEq,Yc,Yd,Ye,Yf,Yg,Yj,Yk,Yl,Ym,Yn,Zcv,Tryz.ntmps38,Tryz.results38,gTT]
 refine ⟨fun h=>?_,fun h=>?_⟩
 ·simp [nwR,nwE,h,rs0,Zw]
 ·simp at h
  simp [nwR,nwE,h,Zw]
def Zfj:List V→Zf→Zr→Name→Option Ent
 | [.c (.d (.int .i64 c)),.agg [.d (.int .i64 n),.d (.int .i64 d)]],[],[],_=>some ⟨True,.tup [.agg [.int .i64 (nwR c n d).c,.int .i64 (nwR c n d).p.n,.int .i64 (nwR c n d).p.d,.int .i64 (nwR c n d).p.a,.int .i64 (nwR c n d).p.p,.int .i64 (nwR c n d).p.f,.list (LI .i32 (nwR c n d).l)],.int .i64 (nwE c n d)],[],[]⟩
 | _,_,_,_=>none
def ZaI:=And.intro (@Zfj.eq_1) (@Zfj.eq_1)
theorem ZjK:Snd Tryz.prog 38 Zfj:=by
 intro vs b k n e h hn hp
 unfold Zfj at h
 split at h
 ·cases h; exact (ZtH _ _ _).lift rfl _
 ·cases h
theorem Zrd (c n d a p f:Int) (l:List Int) (hl:l.length≤1000000):Spec Tryz.prog 0 55 [.agg [.d (.int .i64 c),.d (.int .i64 n),.d (.int .i64 d),.d (.int .i64 a),.d (.int .i64 p),.d (.int .i64 f),.d (.list (LI .i32 l))]] [] [] (vI .i64 (waN ⟨c,⟨n,d,a,p,f⟩,l⟩)) [] []:=by
 refine spec_of_E (X:=⟨Tryz.prog,tt,Tryz.f55.ntmps,1,fun _=>0,(tab [(123,Zbi)])⟩) (M:=[]) (m:=39) rfl rfl ⟨Z7,ZI (Za ZbA Zb) _ rfl rfl⟩ Zs Tryz.func55 rfl (by decide) (by show (1:Nat)≤_; exact Nat.le_of_ble_eq_true rfl) ⟨by simp [V.has,C.has],by simp [C.has],by simp⟩ ?_
 simp (maxSteps:=1000000) only [↓Zn,Ze,Zd,Zm,gSt,gS0,Ya,Yb,↓reduceIte,reduceCtorEq,Yc,Yd,Ye,Yf,Yg,Yj,Yk,Yl,Ym,Yn,Zbz,Tryz.ntmps55,Tryz.results55,gTT]
 refine ⟨hl,fun h=>by simp [waN,h],fun h=>?_⟩
 have hv:rsV ⟨c,⟨n,d,a,p,f⟩,l⟩=true:=by simpa using h
 obtain ⟨⟨k1,k2⟩,k3,k4,k5⟩:=ZW (ZA hv).2 hl
 simp only at k1 k2
 refine ⟨by omega,?_⟩
 rw [Zdg k1 (by omega)]
 simp [waN,hv]
def Za2:List V→Zf→Zr→Name→Option Ent
 | [.agg [.d (.int .i64 c),.d (.int .i64 n),.d (.int .i64 d),.d (.int .i64 a),.d (.int .i64 p),.d (.int .i64 f),.d (.list q_l)]],[],[],_=>some ⟨(Zc q_l).length≤1000000∧q_l=LI .i32 (Zc q_l),vI .i64 (waN ⟨c,⟨n,d,a,p,f⟩,(Zc q_l)⟩),[],[]⟩
 | _,_,_,_=>none
def Za3:=And.intro (@Za2.eq_1) (@Za2.eq_1)
theorem Za4:Snd Tryz.prog 55 Za2:=by
 intro vs b k n e h hn hp
 unfold Za2 at h
 split at h
 ·cases h; obtain ⟨hp0,hq0⟩:=hp; obtain ⟨_,rfl⟩:=Zq hq0; simp only [Zi,Zo,Zj,Zp] at hp0 ⊢; exact (Zrd _ _ _ _ _ _ _ hp0).lift rfl _
 ·cases h
theorem ZnI (c n d a p f:Int) (l:List Int) (hl:l.length≤1000000):Spec Tryz.prog 0 100 [.agg [.d (.int .i64 c),.d (.int .i64 n),.d (.int .i64 d),.d (.int .i64 a),.d (.int .i64 p),.d (.int .i64 f),.d (.list (LI .i32 l))]] [] [] (vI .i64 (waN ⟨c,⟨n,d,a,p,f⟩,l⟩)) [] []:=by
 refine spec_of_E (X:=⟨Tryz.prog,tt,Tryz.f100.ntmps,1,fun _=>0,(tab [(97,Zby)])⟩) (M:=[]) (m:=39) rfl rfl ⟨Z7,ZI (Za Zcw Zb) _ rfl rfl⟩ Zs Tryz.func100 rfl (by decide) (by show (1:Nat)≤_; exact Nat.le_of_ble_eq_true rfl) ⟨by simp [V.has,C.has],by simp [C.has],by simp⟩ ?_
 simp (maxSteps:=1000000) only [↓Zn,Ze,Zd,Zm,gSt,gS0,Ya,Yb,↓reduceIte,reduceCtorEq,Yc,Yd,Ye,Yf,Yg,Yj,Yk,Yl,Ym,Yn,Zcv,Tryz.ntmps100,Tryz.results100,gTT]
 refine ⟨hl,fun h=>by simp [waN,h],fun h=>?_⟩
 have hv:rsV ⟨c,⟨n,d,a,p,f⟩,l⟩=true:=by simpa using h
 obtain ⟨⟨k1,k2⟩,k3,k4,k5⟩:=ZW (ZA hv).2 hl
 simp only at k1 k2
 refine ⟨by omega,?_⟩
 rw [Zdg k1 (by omega)]
 simp [waN,hv]
def ZbB:List V→Zf→Zr→Name→Option Ent
 | [.agg [.d (.int .i64 c),.d (.int .i64 n),.d (.int .i64 d),.d (.int .i64 a),.d (.int .i64 p),.d (.int .i64 f),.d (.list q_l)]],[],[],_=>some ⟨(Zc q_l).length≤1000000∧q_l=LI .i32 (Zc q_l),vI .i64 (waN ⟨c,⟨n,d,a,p,f⟩,(Zc q_l)⟩),[],[]⟩
 | _,_,_,_=>none
def Z9:=And.intro (@ZbB.eq_1) (@ZbB.eq_1)
theorem Zcx:Snd Tryz.prog 100 ZbB:=by
 intro vs b k n e h hn hp
 unfold ZbB at h
 split at h
 ·cases h; obtain ⟨hp0,hq0⟩:=hp; obtain ⟨_,rfl⟩:=Zq hq0; simp only [Zi,Zo,Zj,Zp] at hp0 ⊢; exact (ZnI _ _ _ _ _ _ _ hp0).lift rfl _
 ·cases h
theorem Ztd (x y:List Int) (hx:x.length≤1000000) (hy:y.length≤1000000):Spec Tryz.prog 0 143 [.c (.d (.list [.list (LI .i32 x),.list (LI .i32 y)]))] [] [] (vL (LI .i32 (x++y))) [] []:=by
 refine sE (md:=fun s=>if s=24 then 3 else 0) (L:=[(203,Zoe)]) [] 504373101 (Za ZyC Zb) Tryz.func143 rfl rfl rfl ?_
 simp (maxSteps:=1000000) only [↓Zn,Ze,Zd,Zm,gSt,gS0,Ya,Yb,↓reduceIte,reduceCtorEq,Yc,Yd,Ye,Yf,Yg,Yj,Yk,Yl,Ym,Yn,ZeA,ZHB,Tryz.ntmps143,Tryz.results143,gTT]
 have hb:∀ i:Nat,i≤2→(ZEP x y i≤2000000):=fun i hi=>by
  have:i=0∨i=1∨i=2:=by omega
  rcases this with rfl | rfl | rfl <;> simp [ZEP,ZzQ] <;> omega
 have hs:∀ i:Nat,i < 2→ZEP x y (i+1)=ZEP x y i+(([x,y])[i]?.getD []).length:=fun i hi=>by
  have:i=0∨i=1:=by omega
  rcases this with rfl | rfl <;> simp [ZEP,ZzQ]
 have hf:∀ i:Nat,i < 2→ZzQ x y (i+1)=ZzQ x y i++(([x,y])[i]?.getD []):=fun i hi=>by
  have:i=0∨i=1:=by omega
  rcases this with rfl | rfl <;> simp [ZEP,ZzQ]
 have hl:∀ i:Nat,i≤2→(ZzQ x y i).length≤2000000:=fun i hi=>by
  have:i=0∨i=1∨i=2:=by omega
  rcases this with rfl | rfl | rfl <;> simp [ZEP,ZzQ] <;> omega
 have hg:∀ i:Nat,(([x,y])[i]?.getD []).length≤1000000:=fun i=>by
  match i with
  | 0=>exact hx
  | 1=>exact hy
  | i+2=>exact Nat.zero_le _
 refine Zk (fun i=>⟨[(11,vI .i64 (i:Nat)),(3,vI .i64 ((ZEP x y i:Nat):Int))],[],[]⟩) (fun i=>i≤2) (fun i=>2 - i) (·+1) 0 (by decide) ?_ ?_
 ·simp (maxSteps:=1000000) only [↓Zn,Ze,Zd,Zm,gSt,gS0,Ya,Yb,↓reduceIte,reduceCtorEq,Yc,Yd,Ye,Yf,Yg,Yj,Yk,Yl,Ym,Yn,ZeA,ZHB,Tryz.ntmps143,Tryz.results143,gTT]
  exact ⟨rfl,rfl⟩
 intro i hi
 simp (maxSteps:=1000000) only [↓Zn,Ze,Zd,Zm,gSt,gS0,Ya,Yb,↓reduceIte,reduceCtorEq,Yc,Yd,Ye,Yf,Yg,Yj,Yk,Yl,Ym,Yn,ZeA,ZHB,Tryz.ntmps143,Tryz.results143,gTT]
 have b1:=hb i hi
 have b2:=hg i
 refine ⟨fun h=>?_,fun h=>?_⟩
 ·have h2:i < 2:=by have:=of_decide_eq_true h; omega
  have b3:=hs i h2
  rw [IntWalk.i64_in (_+_) (by omega),b3]
  refine ⟨by omega,fun h=>?_,fun h=>?_⟩
  ·have:=of_decide_eq_true h; omega
  ·exact ⟨⟨(ZY _ (by omega)).symm,by omega⟩,by omega,by omega⟩
 ·refine ⟨⟨by omega,by omega⟩,?_⟩
  refine Zk (fun i=>⟨[(27,vI .i64 (i:Nat)),(6,.c (.own ⟨1,24⟩ (LI .i32 (ZzQ x y i))))],[],[(⟨1,24⟩,⟨false,1,LI .i32 (ZzQ x y i)⟩)]⟩) (fun i=>i≤2) (fun i=>2 - i) (·+1) 0 (by decide) ?_ ?_
  ·simp (maxSteps:=1000000) only [↓Zn,Ze,Zd,Zm,gSt,gS0,Ya,Yb,↓reduceIte,reduceCtorEq,Yc,Yd,Ye,Yf,Yg,Yj,Yk,Yl,Ym,Yn,ZeA,ZHB,Tryz.ntmps143,Tryz.results143,gTT]
   simp [Zw,ZzQ]
  intro j hj
  simp (maxSteps:=1000000) only [↓Zn,Ze,Zd,Zm,gSt,gS0,Ya,Yb,↓reduceIte,reduceCtorEq,Yc,Yd,Ye,Yf,Yg,Yj,Yk,Yl,Ym,Yn,ZeA,ZHB,Tryz.ntmps143,Tryz.results143,gTT]
  have b1:=hl j hj
  have b2:=hg j
  refine ⟨fun h=>?_,fun h=>?_⟩
  ·have h2:j < 2:=by have:=of_decide_eq_true h; omega
   rw [hf j h2]
   exact ⟨by omega,by unfold Zab; omega,⟨⟨(ZY _ (by omega)).symm,rfl⟩,rfl⟩,by omega,by omega⟩
  ·have:j=2:=by have:=of_decide_eq_false h; omega
   subst this
   simp [ZzQ]
def Zgc:List V→Zf→Zr→Name→Option Ent
 | [.c (.d (.list [.list q_x,.list q_y]))],[],[],_=>some ⟨(Zc q_x).length≤1000000∧(Zc q_y).length≤1000000∧q_x=LI .i32 (Zc q_x)∧q_y=LI .i32 (Zc q_y),vL (LI .i32 ((Zc q_x)++(Zc q_y))),[],[]⟩
 | _,_,_,_=>none
def ZrF:=And.intro (@Zgc.eq_1) (@Zgc.eq_1)
theorem ZrG:Snd Tryz.prog 143 Zgc:=by
 intro vs b k n e h hn hp
 unfold Zgc at h
 split at h
 ·cases h; obtain ⟨hp0,hp1,hq0,hq1⟩:=hp; obtain ⟨_,rfl⟩:=Zq hq0; obtain ⟨_,rfl⟩:=Zq hq1; simp only [Zi,Zo,Zj,Zp] at hp0 hp1 ⊢; exact (Ztd _ _ hp0 hp1).lift rfl _
 ·cases h
theorem ZBL (c n d a p f:Int) (l:List Int) (k:Int) (y:List Int) (hl:l.length≤1000000) (hy:y.length≤1000000):Spec Tryz.prog 0 88 [.agg [.d (.int .i64 c),.d (.int .i64 n),.d (.int .i64 d),.d (.int .i64 a),.d (.int .i64 p),.d (.int .i64 f),.d (.list (LI .i32 l))],.agg [.d (.int .i64 k),.d (.list (LI .i32 y))]] [] [] (.tup [.agg [.int .i64 (feR ⟨c,⟨n,d,a,p,f⟩,l⟩ k y).c,.int .i64 (feR ⟨c,⟨n,d,a,p,f⟩,l⟩ k y).p.n,.int .i64 (feR ⟨c,⟨n,d,a,p,f⟩,l⟩ k y).p.d,.int .i64 (feR ⟨c,⟨n,d,a,p,f⟩,l⟩ k y).p.a,.int .i64 (feR ⟨c,⟨n,d,a,p,f⟩,l⟩ k y).p.p,.int .i64 (feR ⟨c,⟨n,d,a,p,f⟩,l⟩ k y).p.f,.list (LI .i32 (feR ⟨c,⟨n,d,a,p,f⟩,l⟩ k y).l)],.int .i64 (feE ⟨c,⟨n,d,a,p,f⟩,l⟩ k y)]) [] []:=by
 refine sE (md:=fun _=>0) (L:=[(123,Zbi),(62,ZaR),(143,Zgc)]) [(5,[0,0,0,0,0,33898430591,0,0,0,0,0,0])] 8454271 (Za ZbA (Za Zax (Za ZrG Zb))) Tryz.func88 rfl rfl rfl ?_
 simp (maxSteps:=1000000) only [↓Zn,Ze,Zd,Zm,gSt,gS0,Ya,Yb,↓reduceIte,reduceCtorEq,Yc,Yd,Ye,Yf,Yg,Yj,Yk,Yl,Ym,Yn,Zbz,ZD,ZrF,Tryz.ntmps88,Tryz.results88,gTT]
 refine ⟨hl,fun _=>hy,fun h=>?_,fun h=>⟨fun h2=>?_,fun h2=>?_⟩⟩
 ·have e:feE ⟨c,⟨n,d,a,p,f⟩,l⟩ k y=1:=by unfold feE; rw [if_pos h]
  simp [feR,e,rs0,Zw]
 ·have hk:k≠c:=by simpa using h2
  have e:feE ⟨c,⟨n,d,a,p,f⟩,l⟩ k y=11:=by unfold feE; rw [if_neg (by rw [h]; decide),if_pos hk]
  simp [feR,e,rs0,Zw]
 have hk:k=c:=by simpa using h2
 have hv:rsV ⟨c,⟨n,d,a,p,f⟩,l⟩=true:=by simp at h; exact h.1
 obtain ⟨⟨k1,k2⟩,k3,k4,k5⟩:=ZW (ZA hv).2 hl
 simp only at k1 k2
 rw [ZCz k1 (by omega)]
 refine ⟨by omega,fun h3=>?_,fun h3=>?_⟩
 ·have h4:65536 < (l.length+y.length) / c.toNat:=by have:=of_decide_eq_true h3; omega
  have e:feE ⟨c,⟨n,d,a,p,f⟩,l⟩ k y=3:=by unfold feE; rw [if_neg (by rw [h]; decide),if_neg (by simpa using hk),if_pos h4]
  simp [feR,e,rs0,Zw]
 have h4:¬ 65536 < (l.length+y.length) / c.toNat:=by have:=of_decide_eq_false h3; omega
 have e:feE ⟨c,⟨n,d,a,p,f⟩,l⟩ k y=0:=by unfold feE; rw [if_neg (by rw [h]; decide),if_neg (by simpa using hk),if_neg h4]
 refine ⟨⟨hl,hy⟩,?_⟩
 simp [feR,e]
def Zi7:List V→Zf→Zr→Name→Option Ent
 | [.agg [.d (.int .i64 c),.d (.int .i64 n),.d (.int .i64 d),.d (.int .i64 a),.d (.int .i64 p),.d (.int .i64 f),.d (.list q_l)],.agg [.d (.int .i64 k),.d (.list q_y)]],[],[],_=>some ⟨(Zc q_l).length≤1000000∧(Zc q_y).length≤1000000∧q_l=LI .i32 (Zc q_l)∧q_y=LI .i32 (Zc q_y),.tup [.agg [.int .i64 (feR ⟨c,⟨n,d,a,p,f⟩,(Zc q_l)⟩ k (Zc q_y)).c,.int .i64 (feR ⟨c,⟨n,d,a,p,f⟩,(Zc q_l)⟩ k (Zc q_y)).p.n,.int .i64 (feR ⟨c,⟨n,d,a,p,f⟩,(Zc q_l)⟩ k (Zc q_y)).p.d,.int .i64 (feR ⟨c,⟨n,d,a,p,f⟩,(Zc q_l)⟩ k (Zc q_y)).p.a,.int .i64 (feR ⟨c,⟨n,d,a,p,f⟩,(Zc q_l)⟩ k (Zc q_y)).p.p,.int .i64 (feR ⟨c,⟨n,d,a,p,f⟩,(Zc q_l)⟩ k (Zc q_y)).p.f,.list (LI .i32 (feR ⟨c,⟨n,d,a,p,f⟩,(Zc q_l)⟩ k (Zc q_y)).l)],.int .i64 (feE ⟨c,⟨n,d,a,p,f⟩,(Zc q_l)⟩ k (Zc q_y))],[],[]⟩
 | _,_,_,_=>none
def Zi8:=And.intro (@Zi7.eq_1) (@Zi7.eq_1)
theorem Zi9:Snd Tryz.prog 88 Zi7:=by
 intro vs b k n e h hn hp
 unfold Zi7 at h
 split at h
 ·cases h; obtain ⟨hp0,hp1,hq0,hq1⟩:=hp; obtain ⟨_,rfl⟩:=Zq hq0; obtain ⟨_,rfl⟩:=Zq hq1; simp only [Zi,Zo,Zj,Zp] at hp0 hp1 ⊢; exact (ZBL _ _ _ _ _ _ _ _ _ hp0 hp1).lift rfl _
 ·cases h
theorem ZxV (c n d a p f:Int) (l:List Int) (k:Int) (y:List Int) (hl:l.length≤1000000) (hy:y.length≤1000000):Spec Tryz.prog 0 98 [.agg [.d (.int .i64 c),.d (.int .i64 n),.d (.int .i64 d),.d (.int .i64 a),.d (.int .i64 p),.d (.int .i64 f),.d (.list (LI .i32 l))],.agg [.d (.int .i64 k),.d (.list (LI .i32 y))]] [] [] (.tup [.agg [.int .i64 (feR ⟨c,⟨n,d,a,p,f⟩,l⟩ k y).c,.int .i64 (feR ⟨c,⟨n,d,a,p,f⟩,l⟩ k y).p.n,.int .i64 (feR ⟨c,⟨n,d,a,p,f⟩,l⟩ k y).p.d,.int .i64 (feR ⟨c,⟨n,d,a,p,f⟩,l⟩ k y).p.a,.int .i64 (feR ⟨c,⟨n,d,a,p,f⟩,l⟩ k y).p.p,.int .i64 (feR ⟨c,⟨n,d,a,p,f⟩,l⟩ k y).p.f,.list (LI .i32 (feR ⟨c,⟨n,d,a,p,f⟩,l⟩ k y).l)],.int .i64 (feE ⟨c,⟨n,d,a,p,f⟩,l⟩ k y)]) [] []:=by
 refine sE (md:=fun _=>0) (L:=[(97,Zby),(30,Zbh)]) [(5,[0,0,0,0,0,33898430591,0,0,0,0,0,0])] 8454271 (Za Zcw (Za Zbw Zb)) Tryz.func98 rfl rfl rfl ?_
 simp (maxSteps:=1000000) only [↓Zn,Ze,Zd,Zm,gSt,gS0,Ya,Yb,↓reduceIte,reduceCtorEq,Yc,Yd,Ye,Yf,Yg,Yj,Yk,Yl,Ym,Yn,Zcv,ZB,Tryz.ntmps98,Tryz.results98,gTT]
 refine ⟨hl,fun _=>hy,fun h=>?_,fun h=>⟨fun h2=>?_,fun h2=>?_⟩⟩
 ·have e:feE ⟨c,⟨n,d,a,p,f⟩,l⟩ k y=1:=by unfold feE; rw [if_pos h]
  simp [feR,e,rs0,Zw]
 ·have hk:k≠c:=by simpa using h2
  have e:feE ⟨c,⟨n,d,a,p,f⟩,l⟩ k y=11:=by unfold feE; rw [if_neg (by rw [h]; decide),if_pos hk]
  simp [feR,e,rs0,Zw]
 have hk:k=c:=by simpa using h2
 have hv:rsV ⟨c,⟨n,d,a,p,f⟩,l⟩=true:=by simp at h; exact h.1
 obtain ⟨⟨k1,k2⟩,k3,k4,k5⟩:=ZW (ZA hv).2 hl
 simp only at k1 k2
 rw [ZCz k1 (by omega)]
 refine ⟨by omega,fun h3=>?_,fun h3=>?_⟩
 ·have h4:65536 < (l.length+y.length) / c.toNat:=by have:=of_decide_eq_true h3; omega
  have e:feE ⟨c,⟨n,d,a,p,f⟩,l⟩ k y=3:=by unfold feE; rw [if_neg (by rw [h]; decide),if_neg (by simpa using hk),if_pos h4]
  simp [feR,e,rs0,Zw]
 have h4:¬ 65536 < (l.length+y.length) / c.toNat:=by have:=of_decide_eq_false h3; omega
 have e:feE ⟨c,⟨n,d,a,p,f⟩,l⟩ k y=0:=by unfold feE; rw [if_neg (by rw [h]; decide),if_neg (by simpa using hk),if_neg h4]
 refine ⟨by kernel_rfl,by unfold Zab; omega,by unfold Zab; omega,?_⟩
 simp [feR,e]
def Zjz:List V→Zf→Zr→Name→Option Ent
 | [.agg [.d (.int .i64 c),.d (.int .i64 n),.d (.int .i64 d),.d (.int .i64 a),.d (.int .i64 p),.d (.int .i64 f),.d (.list q_l)],.agg [.d (.int .i64 k),.d (.list q_y)]],[],[],_=>some ⟨(Zc q_l).length≤1000000∧(Zc q_y).length≤1000000∧q_l=LI .i32 (Zc q_l)∧q_y=LI .i32 (Zc q_y),.tup [.agg [.int .i64 (feR ⟨c,⟨n,d,a,p,f⟩,(Zc q_l)⟩ k (Zc q_y)).c,.int .i64 (feR ⟨c,⟨n,d,a,p,f⟩,(Zc q_l)⟩ k (Zc q_y)).p.n,.int .i64 (feR ⟨c,⟨n,d,a,p,f⟩,(Zc q_l)⟩ k (Zc q_y)).p.d,.int .i64 (feR ⟨c,⟨n,d,a,p,f⟩,(Zc q_l)⟩ k (Zc q_y)).p.a,.int .i64 (feR ⟨c,⟨n,d,a,p,f⟩,(Zc q_l)⟩ k (Zc q_y)).p.p,.int .i64 (feR ⟨c,⟨n,d,a,p,f⟩,(Zc q_l)⟩ k (Zc q_y)).p.f,.list (LI .i32 (feR ⟨c,⟨n,d,a,p,f⟩,(Zc q_l)⟩ k (Zc q_y)).l)],.int .i64 (feE ⟨c,⟨n,d,a,p,f⟩,(Zc q_l)⟩ k (Zc q_y))],[],[]⟩
 | _,_,_,_=>none
def Zwk:=And.intro (@Zjz.eq_1) (@Zjz.eq_1)
theorem Zwl:Snd Tryz.prog 98 Zjz:=by
 intro vs b k n e h hn hp
 unfold Zjz at h
 split at h
 ·cases h; obtain ⟨hp0,hp1,hq0,hq1⟩:=hp; obtain ⟨_,rfl⟩:=Zq hq0; obtain ⟨_,rfl⟩:=Zq hq1; simp only [Zi,Zo,Zj,Zp] at hp0 hp1 ⊢; exact (ZxV _ _ _ _ _ _ _ _ _ hp0 hp1).lift rfl _
 ·cases h
end Go.Vam
end
