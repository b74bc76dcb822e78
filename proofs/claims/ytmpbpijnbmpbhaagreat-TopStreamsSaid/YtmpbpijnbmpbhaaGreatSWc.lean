/- A part of the proof. Conditions: none. -/
import Derived.Test.YtmpbpijnbmpbhaaGreatSWa
import Derived.Test.YtmpbpijnbmpbhaaGreatSVm
import Derived.WalkKit
import Derived.OwnWalk
import Derived.Lib.Walk
import Derived.Lib.SliceRun
section
set_option linter.unusedVariables false
set_option linter.defProp false
set_option linter.unusedSimpArgs false
set_option maxRecDepth 40000
set_option maxHeartbeats 4000000
namespace Go.Vam
open Go.Proofs
open Nat renaming reduceShiftRight→Ya,reduceMod→Yb,reduceEqDiff→Yc,reduceLT→Yd,reduceLeDiff→Ye,reduceAdd→Yf,reduceMul→Yg
open Int renaming reduceLE→Yj,reduceLT→Yk,reduceNeg→Yl,reduceAdd→Ym,reduceToNat→Yn
theorem ZlR {x y A B:Int} (h1:-A≤x) (h2:x≤A) (h3:0≤y) (h4:y≤B) (hA:0≤A):-(A*B)≤x*y∧x*y≤A*B:=by
 have e1:x*y≤A*y:=Int.mul_le_mul_of_nonneg_right h2 h3
 have e2:A*y≤A*B:=Int.mul_le_mul_of_nonneg_left h4 hA
 have e3:-A*y≤x*y:=Int.mul_le_mul_of_nonneg_right h1 h3
 have e4:-A*y=-(A*y):=Int.neg_mul A y
 omega
def ZAm (n:Int):Int:=if -8388608 < (if n < 8388607 then n else 8388607) then (if n < 8388607 then n else 8388607) else -8388608
theorem ZmY (n:Int):-8388608≤ZAm n∧ZAm n≤8388607:=by unfold ZAm; omega
theorem ZCU (n:Int):Spec Tryz.prog 0 76 [vI .i64 n] [] [] (vI .i32 (ZAm n)) [] []:=by
 refine sE (md:=fun _=>0) (L:=[]) [] 5 Zb Tryz.func76 rfl rfl rfl ?_
 simp (maxSteps:=1000000) only [↓Zo,Ze,Zd,Zn,gSt,gS0,Ya,Yb,↓reduceIte,reduceCtorEq,Yc,Yd,Ye,Yf,Yg,Yj,Yk,Yl,Ym,Yn,Tryz.ntmps76,Tryz.results76,gTT]
 exact (IntWalk.i32_in _ (by have:=ZmY n; omega)).symm
def ZrH:List V→Zf→Zw→Name→Option Ent
 | [.c (.d (.int .i64 n))],[],[],_=>some ⟨True,vI .i32 (ZAm n),[],[]⟩
 | _,_,_,_=>none
def ZaI:=And.intro (@ZrH.eq_1) (@ZrH.eq_1)
theorem Zmv:Snd Tryz.prog 76 ZrH:=by
 intro vs b k n e h hn hp
 unfold ZrH at h
 split at h
 ·cases h; exact (ZCU _).lift rfl _
 ·cases h
theorem ZAP (l:List UInt8) (n:Int):Spec Tryz.prog 0 21 [.c (.lp ⟨0,0⟩ 0),vI .i64 n] [(⟨0,0⟩,[.d (.list (LB l))])] [] (vI .i64 (dN l n)) [(⟨0,0⟩,[.d (.list (LB (dT l n)))])] []:=by
 refine spec_of_E (X:=⟨Tryz.prog,tt,Tryz.f21.ntmps,1,fun _=>0,(tab [])⟩) (M:=[]) (m:=32819) rfl rfl ⟨Zah,ZU Zb _ rfl rfl⟩ ZB Tryz.func21 rfl (by decide) (by show (2:Nat)≤_; exact Nat.le_of_ble_eq_true rfl) ⟨by simp [V.has,C.has],by simp [C.has],by simp⟩ ?_
 simp (maxSteps:=1000000) only [↓Zo,Ze,Zd,Zn,gSt,gS0,Ya,Yb,↓reduceIte,reduceCtorEq,Yc,Yd,Ye,Yf,Yg,Yj,Yk,Yl,Ym,Yn,Tryz.ntmps21,Tryz.results21,gTT]
 refine ⟨fun h=>?_,fun h=>?_⟩
 ·rcases (Bool.or_eq_true _ _).mp h with h | h
  ·have h0:l=[]:=by cases l with | nil=>rfl | cons a l=>simp at h; omega
   subst h0
   unfold dN dT
   split <;> simp
  ·have h1:=of_decide_eq_true h
   simp only [dN,dT,if_pos h1,and_self]
 ·rw [Bool.or_eq_false_iff] at h
  have h1:=of_decide_eq_false h.2
  match l,h.1 with
  | a::l,_ =>
   simp only [dN,dT,if_neg h1,List.length_cons,List.headD_cons,List.tail_cons,List.getElem?_cons_zero,Option.getD_some,List.drop_succ_cons,List.drop_zero]
   refine ⟨by omega,by omega,by omega,?_,by rw [Nat.add_sub_cancel,List.take_length]⟩
   have:=ZMp a
   rw [IntWalk.i64_in _ (by omega),Int.tmod_eq_emod_of_nonneg (by omega)]
def ZhT:List V→Zf→Zw→Name→Option Ent
 | [.c (.lp n0 0),.c (.d (.int .i64 n))],[(m0,[.d (.list q_l)])],[],_=>some ⟨n0.lv≤1∧m0=n0∧q_l=LB (bys q_l),vI .i64 (dN (bys q_l) n),[(n0,[.d (.list (LB (dT (bys q_l) n)))])],[]⟩
 | _,_,_,_=>none
def Zbz:=And.intro (@ZhT.eq_1) (@ZhT.eq_1)
theorem Zgp:Snd Tryz.prog 21 ZhT:=by
 intro vs b k n e h hn hp
 unfold ZhT at h
 split at h
 ·cases h; obtain ⟨hl0,rfl,hq0⟩:=hp; obtain ⟨_,rfl⟩:=Zyj hq0; simp only [Zi,Zp,Zj,Zq]; exact Spec.ren1 (ZAP _ _) 0 (by simp [Zbi,V.names,C.names,ZS,ZT]) hl0
 ·cases h
theorem ZCS (l:List UInt8):Spec Tryz.prog 0 7 [vL (LB l)] [] [] (.c (.lp ⟨0,9⟩ 0)) [(⟨0,9⟩,[.d (.list (LB (l.take 300)))])] []:=by
 refine ZbI (X:=⟨Tryz.prog,tt,Tryz.f7.ntmps,1,fun _=>0,(tab [])⟩) (M:=[]) (m:=5) (r0:=.c (.lp ⟨1,9⟩ 0)) (b0:=[(⟨1,9⟩,[.d (.list (LB (l.take 300)))])]) (k0:=[]) ⟨1,9⟩ ⟨0,9⟩ rfl rfl ⟨Zah,ZU Zb _ rfl rfl⟩ ZB Tryz.func7 rfl (by decide) (by show (1:Nat)≤_; exact Nat.le_of_ble_eq_true rfl) rfl rfl rfl ⟨by simp [V.has,C.has],by simp [C.has],by simp⟩ (by decide) (by simp [V.names,C.names,ZS,ZT]) (by simp [lk]) (by simp [lk]) (by simp [lk]) ?_
 simp (maxSteps:=1000000) only [↓Zo,Ze,Zd,Zn,gSt,gS0,Ya,Yb,↓reduceIte,reduceCtorEq,Yc,Yd,Ye,Yf,Yg,Yj,Yk,Yl,Ym,Yn,Tryz.ntmps7,Tryz.results7,gTT]
 refine ⟨by split <;> omega,?_⟩
 have e:(if (300:Int) < ↑l.length then (300:Int) else ↑l.length).toNat=min 300 l.length:=by split <;> omega
 rw [e,Nat.sub_zero,List.take_eq_take_min]
def ZxN:List V→Zf→Zw→Name→Option Ent
 | [.c (.d (.list q_l))],[],[],nF=>some ⟨q_l=LB (bys q_l),.c (.lp nF 0),[(nF,[.d (.list (LB ((bys q_l).take 300)))])],[]⟩
 | _,_,_,_=>none
def Zix:=And.intro (@ZxN.eq_1) (@ZxN.eq_1)
theorem ZBM:Snd Tryz.prog 7 ZxN:=by
 intro vs b k n e h hn hp
 unfold ZxN at h
 split at h
 ·cases h; have hq0:=hp; obtain ⟨_,rfl⟩:=Zyj hq0; simp only [Zi,Zp,Zj,Zq]; exact Spec.ren1 (ZCS _) 9 (by simp [Zbi,V.names,C.names,ZS,ZT]) (Nat.le_of_eq hn)
 ·cases h
def Zc2 (x:Int):Bool:=decide (-8388608≤x) && decide (x≤8388607)
def ZvM (c:Int) (n:Nat):Bool:=decide (c < 1) || decide (8 < c) || (n:Int).tmod c != 0 || decide (65536 < IntKind.i64.wrap ((n:Int).tdiv c))
def ZaR (c:Int) (l:List Int):Bool:=!ZvM c l.length && l.all Zc2
theorem Zse {x:Int} (h:Zc2 x=true):-8388608≤x∧x≤8388607:=by simpa [Zc2] using h
theorem ZfN {c:Int} {n:Nat} (h:ZvM c n=false):1≤c∧c≤8∧n=n / c.toNat*c.toNat:=by
 simp only [ZvM,Bool.or_eq_false_iff,decide_eq_false_iff_not,bne_eq_false_iff_eq] at h
 obtain ⟨⟨⟨h1,h2⟩,h3⟩,_⟩:=h
 refine ⟨by omega,by omega,?_⟩
 have e:c=(c.toNat:Int):=by omega
 rw [e,Int.tmod_eq_emod_of_nonneg (by omega)] at h3
 have h4:n % c.toNat=0:=by exact_mod_cast h3
 exact (Nat.div_mul_cancel (Nat.dvd_of_mod_eq_zero h4)).symm
theorem Znm (a b:List Int) (ha:a.length≤1000000000):Spec Tryz.prog 0 72 [vL (LI .i32 a),vL (LI .i32 b)] [] [] (vB (a==b)) [] []:=by
 refine sE (md:=fun _=>0) (L:=[]) [] 16806963 Zb Tryz.func72 rfl rfl rfl ?_
 simp (maxSteps:=1000000) only [↓Zo,Ze,Zd,Zn,gSt,gS0,Ya,Yb,↓reduceIte,reduceCtorEq,Yc,Yd,Ye,Yf,Yg,Yj,Yk,Yl,Ym,Yn,Tryz.ntmps72,Tryz.results72,gTT]
 refine ⟨fun h=>?_,fun h=>?_⟩
 ·rw [beq_eq_false_iff_ne]
  intro e
  subst e
  simp at h
 have hlen:a.length=b.length:=by
  have:(a.length:Int)=b.length:=by simpa using h
  omega
 refine Zl (fun n=>⟨[(13,vI .i64 (n:Nat))],[],[]⟩) (fun n=>n≤a.length∧a.take n=b.take n) (fun n=>a.length - n) (·+1) 0 ⟨Nat.zero_le _,rfl⟩ ?_ ?_
 ·simp (maxSteps:=1000000) only [↓Zo,Ze,Zd,Zn,gSt,gS0,Ya,Yb,↓reduceIte,reduceCtorEq,Yc,Yd,Ye,Yf,Yg,Yj,Yk,Yl,Ym,Yn,Tryz.ntmps72,Tryz.results72,gTT]
  rfl
 rintro n ⟨hn,heq⟩
 simp (maxSteps:=1000000) only [↓Zo,Ze,Zd,Zn,gSt,gS0,Ya,Yb,↓reduceIte,reduceCtorEq,Yc,Yd,Ye,Yf,Yg,Yj,Yk,Yl,Ym,Yn,Tryz.ntmps72,Tryz.results72,gTT]
 refine ⟨fun h1=>?_,fun h1=>?_⟩
 ·have hlt:n < a.length:=by have:=of_decide_eq_true h1; omega
  have hlt2:n < b.length:=by omega
  have g1:a[n]?.getD 0=a[n]:=by rw [List.getElem?_eq_getElem hlt]; rfl
  have g2:b[n]?.getD 0=b[n]:=by rw [List.getElem?_eq_getElem hlt2]; rfl
  rw [g1,g2]
  refine ⟨by kernel_rfl,by omega,by omega,fun h2=>?_,fun h2=>?_⟩
  ·rw [beq_eq_false_iff_ne]
   intro e
   subst e
   simp at h2
  ·have e:a[n]=b[n]:=by simpa using h2
   refine ⟨(Zaz _ (by omega)).symm,⟨by omega,?_⟩,by omega⟩
   rw [List.take_add_one,List.take_add_one,heq,List.getElem?_eq_getElem hlt,List.getElem?_eq_getElem hlt2,e]
 ·have hnl:n=a.length:=by have:=of_decide_eq_false h1; omega
  rw [hnl,List.take_length,hlen,List.take_length] at heq
  rw [heq,beq_self_eq_true]
def Zct:List V→Zf→Zw→Name→Option Ent
 | [.c (.d (.list q_a)),.c (.d (.list q_b))],[],[],_=>some ⟨(Zc q_a).length≤1000000000∧q_a=LI .i32 (Zc q_a)∧q_b=LI .i32 (Zc q_b),vB ((Zc q_a)==(Zc q_b)),[],[]⟩
 | _,_,_,_=>none
def ZgG:=And.intro (@Zct.eq_1) (@Zct.eq_1)
theorem ZgH:Snd Tryz.prog 72 Zct:=by
 intro vs b k n e h hn hp
 unfold Zct at h
 split at h
 ·cases h; obtain ⟨hp0,hq0,hq1⟩:=hp; obtain ⟨_,rfl⟩:=Zu hq0; obtain ⟨_,rfl⟩:=Zu hq1; simp only [Zi,Zp,Zj,Zq] at hp0 ⊢; exact (Znm _ _ hp0).lift rfl _
 ·cases h
theorem ZA3 (c d:Int) (a b:List Int) (ha:a.length≤1000000000):Spec Tryz.prog 0 24 [.agg [.d (.int .i64 c),.d (.list (LI .i32 a))],.agg [.d (.int .i64 d),.d (.list (LI .i32 b))]] [] [] (vB (c==d && a==b)) [] []:=by
 refine sE (md:=fun _=>0) (L:=[(72,Zct)]) [(1,[0,0,0,0,0,130079,0,0,0,0,0,65567,0])] 31 (Za ZgH Zb) Tryz.func24 rfl rfl rfl ?_
 simp (maxSteps:=1000000) only [↓Zo,Ze,Zd,Zn,gSt,gS0,Ya,Yb,↓reduceIte,reduceCtorEq,Yc,Yd,Ye,Yf,Yg,Yj,Yk,Yl,Ym,Yn,ZgG,Tryz.ntmps24,Tryz.results24,gTT]
 exact fun _=>ha
def Zou:List V→Zf→Zw→Name→Option Ent
 | [.agg [.d (.int .i64 c),.d (.list q_a)],.agg [.d (.int .i64 d),.d (.list q_b)]],[],[],_=>some ⟨(Zc q_a).length≤1000000000∧q_a=LI .i32 (Zc q_a)∧q_b=LI .i32 (Zc q_b),vB (c==d && (Zc q_a)==(Zc q_b)),[],[]⟩
 | _,_,_,_=>none
def ZgF:=And.intro (@Zou.eq_1) (@Zou.eq_1)
theorem Zx4:Snd Tryz.prog 24 Zou:=by
 intro vs b k n e h hn hp
 unfold Zou at h
 split at h
 ·cases h; obtain ⟨hp0,hq0,hq1⟩:=hp; obtain ⟨_,rfl⟩:=Zu hq0; obtain ⟨_,rfl⟩:=Zu hq1; simp only [Zi,Zp,Zj,Zq] at hp0 ⊢; exact (ZA3 _ _ _ _ hp0).lift rfl _
 ·cases h
theorem ZCV (x:Int):Spec Tryz.prog 0 142 [vI .i32 x] [] [] (vB (Zc2 x)) [] []:=by
 refine sE (md:=fun _=>0) (L:=[]) [] 5 Zb Tryz.func142 rfl rfl rfl ?_
 simp (maxSteps:=1000000) only [↓Zo,Ze,Zd,Zn,gSt,gS0,Ya,Yb,↓reduceIte,reduceCtorEq,Yc,Yd,Ye,Yf,Yg,Yj,Yk,Yl,Ym,Yn,Tryz.ntmps142,Tryz.results142,gTT]
 rfl
def Zx5:List V→Zf→Zw→Name→Option Ent
 | [.c (.d (.int .i32 x))],[],[],_=>some ⟨True,vB (Zc2 x),[],[]⟩
 | _,_,_,_=>none
def Zmw:=And.intro (@Zx5.eq_1) (@Zx5.eq_1)
theorem ZBN:Snd Tryz.prog 142 Zx5:=by
 intro vs b k n e h hn hp
 unfold Zx5 at h
 split at h
 ·cases h; exact (ZCV _).lift rfl _
 ·cases h
theorem ZA2 (x:Int):Spec Tryz.prog 0 86 [vI .i32 x] [] [] (vB (Zc2 x)) [] []:=by
 refine sE (md:=fun _=>0) (L:=[]) [] 5 Zb Tryz.func86 rfl rfl rfl ?_
 simp (maxSteps:=1000000) only [↓Zo,Ze,Zd,Zn,gSt,gS0,Ya,Yb,↓reduceIte,reduceCtorEq,Yc,Yd,Ye,Yf,Yg,Yj,Yk,Yl,Ym,Yn,Tryz.ntmps86,Tryz.results86,gTT]
 rfl
def Zoq:List V→Zf→Zw→Name→Option Ent
 | [.c (.d (.int .i32 x))],[],[],_=>some ⟨True,vB (Zc2 x),[],[]⟩
 | _,_,_,_=>none
def Zjp:=And.intro (@Zoq.eq_1) (@Zoq.eq_1)
theorem Zx3:Snd Tryz.prog 86 Zoq:=by
 intro vs b k n e h hn hp
 unfold Zoq at h
 split at h
 ·cases h; exact (ZA2 _).lift rfl _
 ·cases h
theorem Zsj (c:Int) (l:List Int) (hl:l.length≤1000000):Spec Tryz.prog 0 62 [.agg [.d (.int .i64 c),.d (.list (LI .i32 l))]] [] [] (vB (ZaR c l)) [] []:=by
 refine sE (md:=fun _=>0) (L:=[(142,Zx5)]) [(1,[0,0,0,0,0,1166083620119,0,0,0,0,0,1166083563543,0,0,0,0,0,1166079426583,0,0,0,0,0,1165819379735,0,0])] 1165009879063 (Za ZBN Zb) Tryz.func62 rfl rfl rfl ?_
 simp (maxSteps:=1000000) only [↓Zo,Ze,Zd,Zn,gSt,gS0,Ya,Yb,↓reduceIte,reduceCtorEq,Yc,Yd,Ye,Yf,Yg,Yj,Yk,Yl,Ym,Yn,Zmw,Tryz.ntmps62,Tryz.results62,gTT]
 refine ⟨fun h=>?_,fun h=>?_,fun h=>?_,fun h=>?_⟩
 ·simp only [Bool.or_eq_false_iff,decide_eq_false_iff_not] at h; omega
 ·simp only [Bool.or_eq_false_iff,decide_eq_false_iff_not] at h; omega
 ·have hc:ZvM c l.length=true:=h
  simp [ZaR,hc]
 have hc:ZvM c l.length=false:=h
 refine Zl (fun n=>⟨[(34,vI .i64 (n:Nat))],[],[]⟩) (fun n=>n≤l.length∧(l.take n).all Zc2=true) (fun n=>l.length - n) (·+1) 0 ⟨Nat.zero_le _,rfl⟩ ?_ ?_
 ·simp (maxSteps:=1000000) only [↓Zo,Ze,Zd,Zn,gSt,gS0,Ya,Yb,↓reduceIte,reduceCtorEq,Yc,Yd,Ye,Yf,Yg,Yj,Yk,Yl,Ym,Yn,Zmw,Tryz.ntmps62,Tryz.results62,gTT]
  rfl
 rintro n ⟨hn,hok⟩
 simp (maxSteps:=1000000) only [↓Zo,Ze,Zd,Zn,gSt,gS0,Ya,Yb,↓reduceIte,reduceCtorEq,Yc,Yd,Ye,Yf,Yg,Yj,Yk,Yl,Ym,Yn,Zmw,Tryz.ntmps62,Tryz.results62,gTT]
 refine ⟨fun h1=>?_,fun h1=>?_⟩
 ·have hlt:n < l.length:=by have:=of_decide_eq_true h1; omega
  have hg:l[n]?.getD 0=l[n]:=by rw [List.getElem?_eq_getElem hlt]; rfl
  rw [hg]
  refine ⟨by omega,fun h2=>?_,fun h2=>?_⟩
  ·have hbad:l.all Zc2=false:=by
    rw [List.all_eq_false]
    exact ⟨l[n],List.getElem_mem hlt,by simp [h2]⟩
   simp [ZaR,hbad]
  ·refine ⟨(Zaz _ (by omega)).symm,⟨by omega,?_⟩,by omega⟩
   rw [List.take_add_one,List.getElem?_eq_getElem hlt,List.all_append,hok]
   simpa using h2
 ·have:n=l.length:=by have:=of_decide_eq_false h1; omega
  rw [this,List.take_length] at hok
  simp [ZaR,hc,hok]
def Za8:List V→Zf→Zw→Name→Option Ent
 | [.agg [.d (.int .i64 c),.d (.list q_l)]],[],[],_=>some ⟨(Zc q_l).length≤1000000∧q_l=LI .i32 (Zc q_l),vB (ZaR c (Zc q_l)),[],[]⟩
 | _,_,_,_=>none
def ZJ:=And.intro (@Za8.eq_1) (@Za8.eq_1)
theorem ZaF:Snd Tryz.prog 62 Za8:=by
 intro vs b k n e h hn hp
 unfold Za8 at h
 split at h
 ·cases h; obtain ⟨hp0,hq0⟩:=hp; obtain ⟨_,rfl⟩:=Zu hq0; simp only [Zi,Zp,Zj,Zq] at hp0 ⊢; exact (Zsj _ _ hp0).lift rfl _
 ·cases h
theorem Zqk (c:Int) (l:List Int) (hl:l.length≤1000000):Spec Tryz.prog 0 30 [.agg [.d (.int .i64 c),.d (.list (LI .i32 l))]] [] [] (vB (ZaR c l)) [] []:=by
 refine sE (md:=fun _=>0) (L:=[(86,Zoq)]) [(1,[0,0,0,0,0,1166083620119,0,0,0,0,0,1166083563543,0,0,0,0,0,1166079426583,0,0,0,0,0,1165819379735,0,0])] 1165009879063 (Za Zx3 Zb) Tryz.func30 rfl rfl rfl ?_
 simp (maxSteps:=1000000) only [↓Zo,Ze,Zd,Zn,gSt,gS0,Ya,Yb,↓reduceIte,reduceCtorEq,Yc,Yd,Ye,Yf,Yg,Yj,Yk,Yl,Ym,Yn,Zjp,Tryz.ntmps30,Tryz.results30,gTT]
 refine ⟨fun h=>?_,fun h=>?_,fun h=>?_,fun h=>?_⟩
 ·simp only [Bool.or_eq_false_iff,decide_eq_false_iff_not] at h; omega
 ·simp only [Bool.or_eq_false_iff,decide_eq_false_iff_not] at h; omega
 ·have hc:ZvM c l.length=true:=h
  simp [ZaR,hc]
 have hc:ZvM c l.length=false:=h
 refine Zl (fun n=>⟨[(34,vI .i64 (n:Nat))],[],[]⟩) (fun n=>n≤l.length∧(l.take n).all Zc2=true) (fun n=>l.length - n) (·+1) 0 ⟨Nat.zero_le _,rfl⟩ ?_ ?_
 ·simp (maxSteps:=1000000) only [↓Zo,Ze,Zd,Zn,gSt,gS0,Ya,Yb,↓reduceIte,reduceCtorEq,Yc,Yd,Ye,Yf,Yg,Yj,Yk,Yl,Ym,Yn,Zjp,Tryz.ntmps30,Tryz.results30,gTT]
  rfl
 rintro n ⟨hn,hok⟩
 simp (maxSteps:=1000000) only [↓Zo,Ze,Zd,Zn,gSt,gS0,Ya,Yb,↓reduceIte,reduceCtorEq,Yc,Yd,Ye,Yf,Yg,Yj,Yk,Yl,Ym,Yn,Zjp,Tryz.ntmps30,Tryz.results30,gTT]
 refine ⟨fun h1=>?_,fun h1=>?_⟩
 ·have hlt:n < l.length:=by have:=of_decide_eq_true h1; omega
  have hg:l[n]?.getD 0=l[n]:=by rw [List.getElem?_eq_getElem hlt]; rfl
  rw [hg]
  refine ⟨by omega,fun h2=>?_,fun h2=>?_⟩
  ·have hbad:l.all Zc2=false:=by
    rw [List.all_eq_false]
    exact ⟨l[n],List.getElem_mem hlt,by simp [h2]⟩
   simp [ZaR,hbad]
  ·refine ⟨(Zaz _ (by omega)).symm,⟨by omega,?_⟩,by omega⟩
   rw [List.take_add_one,List.getElem?_eq_getElem hlt,List.all_append,hok]
   simpa using h2
 ·have:n=l.length:=by have:=of_decide_eq_false h1; omega
  rw [this,List.take_length] at hok
  simp [ZaR,hc,hok]
def ZaW:List V→Zf→Zw→Name→Option Ent
 | [.agg [.d (.int .i64 c),.d (.list q_l)]],[],[],_=>some ⟨(Zc q_l).length≤1000000∧q_l=LI .i32 (Zc q_l),vB (ZaR c (Zc q_l)),[],[]⟩
 | _,_,_,_=>none
def ZaX:=And.intro (@ZaW.eq_1) (@ZaW.eq_1)
theorem ZaY:Snd Tryz.prog 30 ZaW:=by
 intro vs b k n e h hn hp
 unfold ZaW at h
 split at h
 ·cases h; obtain ⟨hp0,hq0⟩:=hp; obtain ⟨_,rfl⟩:=Zu hq0; simp only [Zi,Zp,Zj,Zq] at hp0 ⊢; exact (Zqk _ _ hp0).lift rfl _
 ·cases h
theorem Zsy (c:Int) (l:List Int) (hl:l.length≤1000000):Spec Tryz.prog 0 20 [.agg [.d (.int .i64 c),.d (.list (LI .i32 l))]] [] [] (vI .i64 (if ZaR c l=true then ((l.length / c.toNat:Nat):Int) else 0)) [] []:=by
 refine spec_of_E (X:=⟨Tryz.prog,tt,Tryz.f20.ntmps,1,fun _=>0,(tab [(30,ZaW)])⟩) (M:=[]) (m:=39) rfl rfl ⟨Zah,ZU (Za ZaY Zb) _ rfl rfl⟩ ZB Tryz.func20 rfl (by decide) (by show (1:Nat)≤_; exact Nat.le_of_ble_eq_true rfl) ⟨by simp [V.has,C.has],by simp [C.has],by simp⟩ ?_
 simp (maxSteps:=1000000) only [↓Zo,Ze,Zd,Zn,gSt,gS0,Ya,Yb,↓reduceIte,reduceCtorEq,Yc,Yd,Ye,Yf,Yg,Yj,Yk,Yl,Ym,Yn,ZaX,Tryz.ntmps20,Tryz.results20,gTT]
 refine ⟨hl,fun h=>?_,fun h=>?_⟩
 ·simp [h]
 have h1:ZaR c l=true:=by simpa using h
 have h2:ZvM c l.length=false:=by
  unfold ZaR at h1
  simp only [Bool.and_eq_true,Bool.not_eq_true'] at h1
  exact h1.1
 obtain ⟨c1,c2,_⟩:=ZfN h2
 rw [if_pos h1,Int.tdiv_eq_ediv_of_nonneg (by omega)]
 have e:(l.length:Int) / c=((l.length / c.toNat:Nat):Int):=by
  have:c=(c.toNat:Int):=by omega
  rw [this]
  exact (Int.natCast_ediv ..).symm
 have hle:l.length / c.toNat≤l.length:=Nat.div_le_self ..
 rw [e]
 have c0:¬ c=0:=by omega
 generalize l.length / c.toNat=z at *
 rw [IntWalk.i64_in (z:Int) (by omega)]
 exact ⟨c0,rfl⟩
def ZbY:List V→Zf→Zw→Name→Option Ent
 | [.agg [.d (.int .i64 c),.d (.list q_l)]],[],[],_=>some ⟨(Zc q_l).length≤1000000∧q_l=LI .i32 (Zc q_l),vI .i64 (if ZaR c (Zc q_l)=true then (((Zc q_l).length / c.toNat:Nat):Int) else 0),[],[]⟩
 | _,_,_,_=>none
def ZbM:=And.intro (@ZbY.eq_1) (@ZbY.eq_1)
theorem ZbN:Snd Tryz.prog 20 ZbY:=by
 intro vs b k n e h hn hp
 unfold ZbY at h
 split at h
 ·cases h; obtain ⟨hp0,hq0⟩:=hp; obtain ⟨_,rfl⟩:=Zu hq0; simp only [Zi,Zp,Zj,Zq] at hp0 ⊢; exact (Zsy _ _ hp0).lift rfl _
 ·cases h
theorem ZjV {k:Int} {l:List Int} (h:ZaR k l=true):ZvM k l.length=false∧l.all Zc2=true:=by
 unfold ZaR at h
 simpa using h
theorem ZjU {c:Int} {l:List Int} (h:ZaR c l=true) (hl:l.length≤1000000):l.length / c.toNat≤65536:=by
 have hc:=(ZjV h).1
 obtain ⟨h1,h2,h3⟩:=ZfN hc
 have hz:l.length / c.toNat≤l.length:=Nat.div_le_self ..
 unfold ZvM at hc
 simp only [Bool.or_eq_false_iff,decide_eq_false_iff_not] at hc
 have e:(l.length:Int).tdiv c=((l.length / c.toNat:Nat):Int):=ZFA _ (by omega)
 rw [e] at hc
 generalize l.length / c.toNat=z at *
 rw [IntWalk.i64_in (z:Int) (by omega)] at hc
 omega
theorem Zbg {c:Int} {l:List Int} {z:Nat} (hc:1≤c∧c≤8) (hd:l.length=z*c.toNat) (hz:z≤65536) (hs:l.all Zc2=true):ZaR c l=true:=by
 unfold ZaR
 have hch:ZvM c l.length=false:=by
  have e:c=(c.toNat:Int):=by omega
  unfold ZvM
  have e2:((l.length:Nat):Int)=(z:Int)*c:=by rw [hd,Int.natCast_mul,← e]
  rw [e2,Int.mul_tmod_left,Int.mul_tdiv_cancel _ (by omega),IntWalk.i64_in _ (by omega)]
  simp only [Bool.or_eq_false_iff,decide_eq_false_iff_not,bne_self_eq_false,and_true]
  omega
 rw [hch,hs]; rfl
end Go.Vam
end
section
set_option linter.unusedVariables false
set_option linter.defProp false
set_option linter.unusedSimpArgs false
set_option maxRecDepth 40000
set_option maxHeartbeats 4000000
namespace Go.Vam
open Go.Proofs Go.RowKit
open Nat renaming reduceShiftRight→Ya,reduceMod→Yb,reduceEqDiff→Yc,reduceLT→Yd,reduceLeDiff→Ye,reduceAdd→Yf,reduceMul→Yg
open Int renaming reduceLE→Yj,reduceLT→Yk,reduceNeg→Yl,reduceAdd→Ym,reduceToNat→Yn
theorem Zr4:(Tryz.prog.info? 21).map (fun i=>(i.zero,i.size,i.bytes))=some (some (.int .i32 0),1,4):=by kernel_rfl
theorem Zfy:Tryz.prog.underlying 45=some (.slice 21):=Tryz.underlying45
set_option maxRecDepth 100000 in
theorem ZyW (n c:Nat) (w:World):Calls Tryz.prog 131 #[.slice none n c] w fun e w'=>e=.returned (.slice none 0 0)∧w'=w:=by
 have q:∀ (w:World) (a:Option Addr) (n c n' c':Nat),(binOp .eql 45 (.slice a n c) (.slice none n' c')).run Tryz.prog w=.ok (.bool a.isNone) w:=fun w a n c n' c'=>Go.Lib.run_eql_slice_nil w _ _ a n c n' c' Zfy
 go_enter Tryz.func131,Tryz.ntmps131
 go_wp2
 go_ret
 exact ⟨rfl,rfl⟩
set_option maxRecDepth 100000 in
theorem ZvN (l:List Int) (hbig:l.length*4≤140737488355328) (b off c:Nat) (w:World) (hc:∀ j,j < l.length→w.cell? ⟨b,off+j,none⟩=some (.int .i32 (l.getD j 0))) :
  Calls Tryz.prog 131 #[.slice (some ⟨b,off,none⟩) l.length c] w fun e w'=>∃ v',e=.returned v'∧w'.ownsRow w.heap.size 21 1 v' l.length (l.map (Value.int .i32))∧Below w.heap.size w w':=by
 obtain ⟨i0,hi,hz0,hz1,hz2⟩:=info_parts Zr4
 have q:∀ (w:World) (a:Option Addr) (n c n' c':Nat),(binOp .eql 45 (.slice a n c) (.slice none n' c')).run Tryz.prog w=.ok (.bool a.isNone) w:=fun w a n c n' c'=>Go.Lib.run_eql_slice_nil w _ _ a n c n' c' Zfy
 have u:∀ w,Sem.run Tryz.prog (underlying 45) w=.ok (TypeDesc.slice 21) w:=run_underlying Zfy
 have X:Aside (∀ j,j < l.length→w.cell? ⟨b,off+j,none⟩=some (.int .i32 (l.getD j 0))):=hc
 have Y:Aside (l.length*4≤140737488355328):=hbig
 clear hc hbig
 generalize hn:l.length=n at *
 go_enter Tryz.func131,Tryz.ntmps131
 go_wp2_with (at_builtin; refine wpList_append_own _ rfl _ _ 45 rfl w.heap.size 21 i0 (.int .i32 0) 1 4 Zfy hi hz0 hz1 hz2 rfl (by decide) _ _ _ rfl (World.ownsRow_made w #[] 0 (Nat.le_refl _) (Nat.zero_le _) rfl) ⟨b,off,none⟩ n c (l.map (Value.int .i32)) rfl ?qc1 ?qc2 ?qc3 ?qc4 ?qc5 ?qc6 ?_)
 case qc1=>simp [hn]
 case qc2 =>
  intro j u hj
  have hjn:j < n:=by
   have:=(List.getElem?_eq_some_iff.1 hj).1
   simpa [hn] using this
  rw [Addr.add_lit]
  refine Go.Lib.cell?_alloc_some _ ?_
  rw [X.out j hjn]
  have e:(l.map (Value.int .i32))[j]?=some (Value.int .i32 (l.getD j 0)):=by simp [List.getD,hn,hjn,List.getElem?_eq_getElem (show j < l.length by omega)]
  rw [e] at hj
  exact hj
 case qc3=>intro u hu; obtain ⟨x,_,rfl⟩:=List.mem_map.1 hu; rfl
 case qc4=>have:=Y.out; unfold maxLen; omega
 case qc5=>have:=Y.out; omega
 case qc6=>simp
 intro v' w1 hown hgrow hnil
 go_wp2
 go_ret
 refine ⟨v',rfl,by simpa using hown,?_⟩
 exact ((Below.refl _ w).alloc (Nat.le_refl _) _).grown hgrow (by simp) (by intro k hk; simp [Value.ownBlock] at hk; omega)
set_option maxRecDepth 100000 in
theorem ZvO (a:Addr) (c:Nat) (w:World):Calls Tryz.prog 131 #[.slice (some a) 0 c] w fun e w'=>∃ v',e=.returned v'∧w'.ownsRow w.heap.size 21 1 v' 0 []∧Below w.heap.size w w':=by
 obtain ⟨i0,hi,hz0,hz1,hz2⟩:=info_parts Zr4
 have q:∀ (w:World) (a:Option Addr) (n c n' c':Nat),(binOp .eql 45 (.slice a n c) (.slice none n' c')).run Tryz.prog w=.ok (.bool a.isNone) w:=fun w a n c n' c'=>Go.Lib.run_eql_slice_nil w _ _ a n c n' c' Zfy
 have u:∀ w,Sem.run Tryz.prog (underlying 45) w=.ok (TypeDesc.slice 21) w:=run_underlying Zfy
 go_enter Tryz.func131,Tryz.ntmps131
 go_wp2_with (at_builtin; refine wpList_append_own _ rfl _ _ 45 rfl w.heap.size 21 i0 (.int .i32 0) 1 4 Zfy hi hz0 hz1 hz2 rfl (by decide) _ _ _ rfl (World.ownsRow_made w #[] 0 (Nat.le_refl _) (Nat.zero_le _) rfl) a 0 c [] rfl rfl (by intro j u hj; simp at hj) (by intro u hu; cases hu) (by unfold maxLen; omega) (by omega) (by simp) ?_)
 intro v' w1 hown hgrow hnil
 go_wp2
 go_ret
 refine ⟨v',rfl,by simpa using hown,?_⟩
 exact ((Below.refl _ w).alloc (Nat.le_refl _) _).grown hgrow (by simp) (by intro k hk; simp [Value.ownBlock] at hk; omega)
theorem Zwo (l:List Int) (hl:l.length*4≤140737488355328):Spec Tryz.prog 0 131 [vL (LI .i32 l)] [] [] (vL (LI .i32 l)) [] [] :=
 Zg1 Tryz.func131 rfl (by decide) l ZyW (ZvN l hl) ZvO
theorem ZCG (w:World) (ty:TypeId) (a:Option Addr) (n:Nat) (h0:0 < n) (hb:n*4≤140737488355328) :
  (Builtin.append_ #[45,3] ty #[.slice a 0 0,.int .i64 n]).run Tryz.prog w=.ok (.slice (some ⟨w.heap.size,0,none⟩) n (grownCap w n 0 21)) (w.drew.alloc (.cells (Builtin.zeroCells #[.int .i32 0] n++Builtin.zeroCells #[.int .i32 0] (grownCap w n 0 21 - n)) 21)):=by
 obtain ⟨i0,hi,hz0,hz1,hz2⟩:=info_parts Zr4
 have ut:Sem.run Tryz.prog (underlying 45) w=.ok (TypeDesc.slice 21) w:=run_underlying Zfy w
 have ui:∀ w,Sem.run Tryz.prog (underlying 3) w=.ok (TypeDesc.int .i64) w:=run_underlying Tryz.underlying3
 have hn0:n≠0:=by omega
 have hw:IntKind.i64.wrap (n:Int)=n:=IntWalk.i64_in _ (by omega)
 have c1:¬ (9223372036854775807 < (n:Int)):=by omega
 have c2:¬ (281474976710656 < Builtin.nextslicecap n 0*i0.bytes):=by rw [nextslicecap_zero h0,hz2]; omega
 have c3:¬ (281474976710656 < (n:Int)*(i0.bytes:Int)):=by rw [hz2]; omega
 have c4:¬ ((n:Int) < 0):=by omega
 have c5:¬ (n*i0.size=0):=by rw [hz1]; omega
 have c6:∀ w,(Builtin.firstCells i0.size 0 (.slice a 0 0)).run Tryz.prog w=.ok #[] w:=fun w=>by
  cases a <;> simp [Builtin.firstCells,loadCells,loadCellsFrom]
 have zc:(Value.cells (.int .i32 0))=#[.int .i32 0]:=rfl
 simp [Builtin.append_,run_underlying Zfy,run_underlying Tryz.underlying3,sizeOf,typeInfo,zeroValue,hi,hz0,asInt,asIntOf,hw,hn0,c4,c5,c1,c2,c3,Question.forced,c6,newRow,grownCap,zc]
set_option maxRecDepth 100000 in
theorem ZvX (n:Nat) (hb:n*4≤140737488355328) (a:Option Addr) (w:World):Calls Tryz.prog 203 #[.slice a 0 0,.int .i64 n] w (ZMu a w):=by
 have u:∀ w,Sem.run Tryz.prog (underlying 45) w=.ok (TypeDesc.slice 21) w:=run_underlying Zfy
 have h1:¬ ((n:Int) < 0):=by omega
 have h2:wrap64 ((0:Int) - (0:Int))=0:=by unfold wrap64; decide
 have h3:wrap64 ((n:Int) - 0)=(n:Int):=by unfold wrap64; omega
 by_cases h0:n=0
 ·subst h0
  go_enter Tryz.func203,Tryz.ntmps203
  go_wp2
  go_ret
  exact .inl ⟨rfl,rfl⟩
 ·have h4:((n:Int) > 0):=by omega
  have hr:=fun ty=>ZCG w ty a n (by omega) hb
  have hG:n≤grownCap w n 0 21:=grownCap_ge w _ _ _
  have hG2:grownCap w n 0 21≤9223372036854775807:=grownCap_le_maxLen w n 0 21 (by unfold maxLen; omega)
  generalize grownCap w n 0 21=G at *
  go_enter Tryz.func203,Tryz.ntmps203
  go_wp2_with (at_builtin; refine ZkR rfl rfl rfl rfl hr ?_)
  all_goals
   go_ret
   refine .inr ⟨G,Builtin.zeroCells #[.int .i32 0] n++Builtin.zeroCells #[.int .i32 0] (G - n),21,rfl,rfl,?_,rfl,rfl,rfl⟩
   simp [Builtin.zeroCells]
   omega
theorem Zwx (n:Nat) (hb:n*4≤140737488355328):Spec Tryz.prog 0 203 [.c .nil,vI .i64 n] [] [] (.c (.own ⟨0,9⟩ [])) [] [(⟨0,9⟩,⟨false,1,[]⟩)] :=
 Zp5 Tryz.func203 rfl (by decide) n (ZvX n hb)
theorem ZAK (n:Int) (h:0≤n∧n*4≤140737488355328):Spec Tryz.prog 0 203 [.c .nil,vI .i64 n] [] [] (.c (.own ⟨0,9⟩ [])) [] [(⟨0,9⟩,⟨false,1,[]⟩)]:=by
 have:=Zwx n.toNat (by omega)
 rw [show ((n.toNat:Nat):Int)=n by omega] at this
 exact this
def ZnS:List V→Zf→Zw→Name→Option Ent
 | [.c .nil,.c (.d (.int .i64 n))],[],[],nF=>some ⟨(0≤n∧n*4≤140737488355328),.c (.own nF []),[],[(nF,⟨false,1,[]⟩)]⟩
 | _,_,_,_=>none
def Zeo:=And.intro (@ZnS.eq_1) (@ZnS.eq_1)
theorem ZxG:Snd Tryz.prog 203 ZnS:=by
 intro vs b k n e h hn hp
 unfold ZnS at h
 split at h
 ·cases h; have hp0:=hp; exact Spec.ren1 (ZAK _ hp0) 9 (by simp [Zbi,V.names,C.names,ZS,ZT]) (Nat.le_of_eq hn)
 ·cases h
def Zeg:List V→Zf→Zw→Name→Option Ent
 | [.c (.d (.list q_l))],[],[],_=>some ⟨(Zc q_l).length*4≤140737488355328∧q_l=LI .i32 (Zc q_l),vL (LI .i32 (Zc q_l)),[],[]⟩
 | _,_,_,_=>none
def Zai:=And.intro (@Zeg.eq_1) (@Zeg.eq_1)
theorem Ze8:Snd Tryz.prog 131 Zeg:=by
 intro vs b k n e h hn hp
 unfold Zeg at h
 split at h
 ·cases h; obtain ⟨hp0,hq0⟩:=hp; obtain ⟨_,rfl⟩:=Zu hq0; simp only [Zi,Zp,Zj,Zq] at hp0 ⊢; exact (Zwo _ hp0).lift rfl _
 ·cases h
structure Rs where
 c:Int
 p:Ph
 l:List Int
def rs0:Rs:=⟨0,⟨0,0,0,0,0⟩,[]⟩
def rsV (x:Rs):Bool:=phV x.p && ZaR x.c x.l
theorem ZD {x:Rs} (h:rsV x=true):phV x.p=true∧ZaR x.c x.l=true:=by simpa [rsV] using h
theorem ZW {c:Int} {l:List Int} (h:ZaR c l=true) (hl:l.length≤1000000):(1≤c∧c≤8)∧l.length=l.length / c.toNat*c.toNat∧l.length / c.toNat≤65536∧l.all Zc2=true:=by
 obtain ⟨h1,h2⟩:=ZjV h
 obtain ⟨k1,k2,k3⟩:=ZfN h1
 exact ⟨⟨k1,k2⟩,k3,ZjU h hl,h2⟩
theorem Ze0 {l:List Int} (h:l.all Zc2=true) (i:Nat):-8388608≤l[i]?.getD 0∧l[i]?.getD 0≤8388607:=by
 cases hi:l[i]? with
 | none=>decide
 | some x=>exact Zse (List.all_eq_true.1 h x (List.mem_of_getElem? hi))
def waN (x:Rs):Int:=if rsV x=true then ((x.l.length / x.c.toNat:Nat):Int) else 0
def pnE (n d:Int):Int:=if phV ⟨n,d,0,0,0⟩=true then 0 else 1
def pnN (n d:Int):Int:=if pnE n d=0 then n else 0
def pnD (n d:Int):Int:=if pnE n d=0 then d else 0
def nwE (c n d:Int):Int:=if rsV ⟨c,⟨n,d,0,0,0⟩,[]⟩=true then 0 else 1
def nwR (c n d:Int):Rs:=if rsV ⟨c,⟨n,d,0,0,0⟩,[]⟩=true then ⟨c,⟨n,d,0,0,0⟩,[]⟩ else rs0
def feE (x:Rs) (k:Int) (y:List Int):Int:=if (!rsV x || !ZaR k y)=true then 1 else if k≠x.c then 11 else if 65536 < (x.l.length+y.length) / x.c.toNat then 3 else 0
def feR (x:Rs) (k:Int) (y:List Int):Rs:=if feE x k y=0 then { x with l:=x.l++y} else rs0
theorem ZBp {c:Int} {a b:Nat} (hc:1≤c) (h:a+b≤9000000):IntKind.i64.wrap ((IntKind.i64.wrap ((a:Int)+(b:Int))).tdiv c)=(((a+b) / c.toNat:Nat):Int):=by
 have hz:(a+b) / c.toNat≤a+b:=Nat.div_le_self ..
 have e:((a:Int)+(b:Int))=((a+b:Nat):Int):=by omega
 rw [e,IntWalk.i64_in ((a+b:Nat):Int) (by omega),ZFA _ (by omega)]
 generalize (a+b) / c.toNat=z at *
 exact IntWalk.i64_in _ (by omega)
theorem Zc3 {c:Int} {a:Nat} (hc:1≤c) (h:a≤9000000):IntKind.i64.wrap ((a:Int).tdiv c)=((a / c.toNat:Nat):Int):=by
 have hz:a / c.toNat≤a:=Nat.div_le_self ..
 rw [ZFA _ (by omega)]
 generalize a / c.toNat=z at *
 exact IntWalk.i64_in _ (by omega)
theorem ZGs {x y:List Int} {i:Nat}:(([D.list (LI .i32 x),D.list (LI .i32 y)])[i]?).getD (D.list [])=D.list (LI .i32 (([x,y])[i]?.getD [])):=by
 match i with
 | 0=>rfl
 | 1=>rfl
 | i+2=>rfl
def ZDy (x y:List Int) (i:Nat):Nat:=(([x,y].take i).map List.length).sum
def ZyI (x y:List Int) (i:Nat):List Int:=([x,y].take i).flatten
theorem ZGk {x:Rs} {k:Int} {y:List Int} (h:feE x k y=0):rsV x=true∧ZaR k y=true∧k=x.c∧(x.l.length+y.length) / x.c.toNat≤65536:=by
 unfold feE at h
 split at h
 ·cases h
 ·split at h
  ·cases h
  ·split at h
   ·cases h
   ·rename_i h1 h2 h3
    simp only [Bool.or_eq_true,Bool.not_eq_true',not_or,Bool.not_eq_false] at h1
    exact ⟨h1.1,h1.2,by simpa using h2,by omega⟩
theorem ZAY (c n d a p f:Int) (l:List Int):Spec Tryz.prog 0 196 [.agg [.d (.int .i64 c),.d (.int .i64 n),.d (.int .i64 d),.d (.int .i64 a),.d (.int .i64 p),.d (.int .i64 f),.d (.list (LI .i32 l))]] [] [] (.agg [.d (.int .i64 c),.d (.list (LI .i32 l))]) [] []:=by
 refine sE (md:=fun _=>0) (L:=[]) [] 7 Zb Tryz.func196 rfl rfl rfl ?_
 simp (maxSteps:=1000000) only [↓Zo,Ze,Zd,Zn,gSt,gS0,Ya,Yb,↓reduceIte,reduceCtorEq,Yc,Yd,Ye,Yf,Yg,Yj,Yk,Yl,Ym,Yn,Tryz.ntmps196,Tryz.results196,gTT]
def Zoh:List V→Zf→Zw→Name→Option Ent
 | [.agg [.d (.int .i64 c),.d (.int .i64 n),.d (.int .i64 d),.d (.int .i64 a),.d (.int .i64 p),.d (.int .i64 f),.d (.list q_l)]],[],[],_=>some ⟨q_l=LI .i32 (Zc q_l),.agg [.d (.int .i64 c),.d (.list (LI .i32 (Zc q_l)))],[],[]⟩
 | _,_,_,_=>none
def ZxY:=And.intro (@Zoh.eq_1) (@Zoh.eq_1)
theorem ZxZ:Snd Tryz.prog 196 Zoh:=by
 intro vs b k n e h hn hp
 unfold Zoh at h
 split at h
 ·cases h; have hq0:=hp; obtain ⟨_,rfl⟩:=Zu hq0; simp only [Zi,Zp,Zj,Zq]; exact (ZAY _ _ _ _ _ _ _).lift rfl _
 ·cases h
theorem ZwT (c n d a p f:Int) (l:List Int):Spec Tryz.prog 0 172 [.agg [.d (.int .i64 c),.d (.int .i64 n),.d (.int .i64 d),.d (.int .i64 a),.d (.int .i64 p),.d (.int .i64 f),.d (.list (LI .i32 l))]] [] [] (.agg [.d (.int .i64 c),.d (.list (LI .i32 l))]) [] []:=by
 refine sE (md:=fun _=>0) (L:=[]) [] 7 Zb Tryz.func172 rfl rfl rfl ?_
 simp (maxSteps:=1000000) only [↓Zo,Ze,Zd,Zn,gSt,gS0,Ya,Yb,↓reduceIte,reduceCtorEq,Yc,Yd,Ye,Yf,Yg,Yj,Yk,Yl,Ym,Yn,Tryz.ntmps172,Tryz.results172,gTT]
def Zjm:List V→Zf→Zw→Name→Option Ent
 | [.agg [.d (.int .i64 c),.d (.int .i64 n),.d (.int .i64 d),.d (.int .i64 a),.d (.int .i64 p),.d (.int .i64 f),.d (.list q_l)]],[],[],_=>some ⟨q_l=LI .i32 (Zc q_l),.agg [.d (.int .i64 c),.d (.list (LI .i32 (Zc q_l)))],[],[]⟩
 | _,_,_,_=>none
def Zvs:=And.intro (@Zjm.eq_1) (@Zjm.eq_1)
theorem Zvt:Snd Tryz.prog 172 Zjm:=by
 intro vs b k n e h hn hp
 unfold Zjm at h
 split at h
 ·cases h; have hq0:=hp; obtain ⟨_,rfl⟩:=Zu hq0; simp only [Zi,Zp,Zj,Zq]; exact (ZwT _ _ _ _ _ _ _).lift rfl _
 ·cases h
theorem Zqz (c n d a p f:Int) (l:List Int) (hl:l.length≤1000000):Spec Tryz.prog 0 123 [.agg [.d (.int .i64 c),.d (.int .i64 n),.d (.int .i64 d),.d (.int .i64 a),.d (.int .i64 p),.d (.int .i64 f),.d (.list (LI .i32 l))]] [] [] (vB (rsV ⟨c,⟨n,d,a,p,f⟩,l⟩)) [] []:=by
 refine sE (md:=fun _=>0) (L:=[(160,ZbB),(196,Zoh),(62,Za8)]) [] 7 (Za Zb7 (Za ZxZ (Za ZaF Zb))) Tryz.func123 rfl rfl rfl ?_
 simp (maxSteps:=1000000) only [↓Zo,Ze,Zd,Zn,gSt,gS0,Ya,Yb,↓reduceIte,reduceCtorEq,Yc,Yd,Ye,Yf,Yg,Yj,Yk,Yl,Ym,Yn,Zb6,ZxY,ZJ,Tryz.ntmps123,Tryz.results123,gTT]
 exact ⟨fun _=>hl,rfl⟩
def Zbk:List V→Zf→Zw→Name→Option Ent
 | [.agg [.d (.int .i64 c),.d (.int .i64 n),.d (.int .i64 d),.d (.int .i64 a),.d (.int .i64 p),.d (.int .i64 f),.d (.list q_l)]],[],[],_=>some ⟨(Zc q_l).length≤1000000∧q_l=LI .i32 (Zc q_l),vB (rsV ⟨c,⟨n,d,a,p,f⟩,(Zc q_l)⟩),[],[]⟩
 | _,_,_,_=>none
def Zbu:=And.intro (@Zbk.eq_1) (@Zbk.eq_1)
theorem Zbv:Snd Tryz.prog 123 Zbk:=by
 intro vs b k n e h hn hp
 unfold Zbk at h
 split at h
 ·cases h; obtain ⟨hp0,hq0⟩:=hp; obtain ⟨_,rfl⟩:=Zu hq0; simp only [Zi,Zp,Zj,Zq] at hp0 ⊢; exact (Zqz _ _ _ _ _ _ _ hp0).lift rfl _
 ·cases h
theorem Zni (c n d a p f:Int) (l:List Int) (hl:l.length≤1000000):Spec Tryz.prog 0 97 [.agg [.d (.int .i64 c),.d (.int .i64 n),.d (.int .i64 d),.d (.int .i64 a),.d (.int .i64 p),.d (.int .i64 f),.d (.list (LI .i32 l))]] [] [] (vB (rsV ⟨c,⟨n,d,a,p,f⟩,l⟩)) [] []:=by
 refine sE (md:=fun _=>0) (L:=[(171,ZbR),(172,Zjm),(30,ZaW)]) [] 7 (Za ZdM (Za Zvt (Za ZaY Zb))) Tryz.func97 rfl rfl rfl ?_
 simp (maxSteps:=1000000) only [↓Zo,Ze,Zd,Zn,gSt,gS0,Ya,Yb,↓reduceIte,reduceCtorEq,Yc,Yd,Ye,Yf,Yg,Yj,Yk,Yl,Ym,Yn,ZbD,Zvs,ZaX,Tryz.ntmps97,Tryz.results97,gTT]
 exact ⟨fun _=>hl,rfl⟩
def ZaO:List V→Zf→Zw→Name→Option Ent
 | [.agg [.d (.int .i64 c),.d (.int .i64 n),.d (.int .i64 d),.d (.int .i64 a),.d (.int .i64 p),.d (.int .i64 f),.d (.list q_l)]],[],[],_=>some ⟨(Zc q_l).length≤1000000∧q_l=LI .i32 (Zc q_l),vB (rsV ⟨c,⟨n,d,a,p,f⟩,(Zc q_l)⟩),[],[]⟩
 | _,_,_,_=>none
def Zaq:=And.intro (@ZaO.eq_1) (@ZaO.eq_1)
theorem Zbd:Snd Tryz.prog 97 ZaO:=by
 intro vs b k n e h hn hp
 unfold ZaO at h
 split at h
 ·cases h; obtain ⟨hp0,hq0⟩:=hp; obtain ⟨_,rfl⟩:=Zu hq0; simp only [Zi,Zp,Zj,Zq] at hp0 ⊢; exact (Zni _ _ _ _ _ _ _ hp0).lift rfl _
 ·cases h
theorem ZAU (n d:Int):Spec Tryz.prog 0 122 [.agg [.d (.int .i64 n),.d (.int .i64 d)]] [] [] (.tup [.agg [.int .i64 (pnN n d),.int .i64 (pnD n d),.int .i64 0,.int .i64 0,.int .i64 0],.int .i64 (pnE n d)]) [] []:=by
 refine spec_of_E (X:=⟨Tryz.prog,tt,Tryz.f122.ntmps,1,fun _=>0,(tab [(160,ZbB)])⟩) (M:=[]) (m:=543) rfl rfl ⟨Zah,ZU (Za Zb7 Zb) _ rfl rfl⟩ ZB Tryz.func122 rfl (by decide) (by show (1:Nat)≤_; exact Nat.le_of_ble_eq_true rfl) ⟨by simp [V.has,C.has],by simp [C.has],by simp⟩ ?_
 simp (maxSteps:=1000000) only [↓Zo,Ze,Zd,Zn,gSt,gS0,Ya,Yb,↓reduceIte,reduceCtorEq,Yc,Yd,Ye,Yf,Yg,Yj,Yk,Yl,Ym,Yn,Zb6,Tryz.ntmps122,Tryz.results122,gTT]
 refine ⟨fun h=>?_,fun h=>?_⟩
 ·simp [pnN,pnD,pnE,h]
 ·have h':phV ⟨n,d,0,0,0⟩=true:=by simpa using h
  simp [pnN,pnD,pnE,h']
def Zn9:List V→Zf→Zw→Name→Option Ent
 | [.agg [.d (.int .i64 n),.d (.int .i64 d)]],[],[],_=>some ⟨True,.tup [.agg [.int .i64 (pnN n d),.int .i64 (pnD n d),.int .i64 0,.int .i64 0,.int .i64 0],.int .i64 (pnE n d)],[],[]⟩
 | _,_,_,_=>none
def ZxQ:=And.intro (@Zn9.eq_1) (@Zn9.eq_1)
theorem ZxR:Snd Tryz.prog 122 Zn9:=by
 intro vs b k n e h hn hp
 unfold Zn9 at h
 split at h
 ·cases h; exact (ZAU _ _).lift rfl _
 ·cases h
theorem Zw3 (c n d:Int):Spec Tryz.prog 0 47 [vI .i64 c,.agg [.d (.int .i64 n),.d (.int .i64 d)]] [] [] (.tup [.agg [.int .i64 (nwR c n d).c,.int .i64 (nwR c n d).p.n,.int .i64 (nwR c n d).p.d,.int .i64 (nwR c n d).p.a,.int .i64 (nwR c n d).p.p,.int .i64 (nwR c n d).p.f,.list (LI .i32 (nwR c n d).l)],.int .i64 (nwE c n d)]) [] []:=by
 refine sE (md:=fun _=>0) (L:=[(122,Zn9),(123,Zbk)]) [] 8389115 (Za ZxR (Za Zbv Zb)) Tryz.func47 rfl rfl rfl ?_
 simp (maxSteps:=1000000) only [↓Zo,Ze,Zd,Zn,gSt,gS0,Ya,Yb,↓reduceIte,reduceCtorEq,Yc,Yd,Ye,Yf,Yg,Yj,Yk,Yl,Ym,Yn,ZxQ,Zbu,Tryz.ntmps47,Tryz.results47,gTT]
 refine ⟨fun h=>?_,fun h=>?_⟩
 ·have e:rsV ⟨c,⟨n,d,0,0,0⟩,[]⟩=false:=by
   by_cases hp:phV ⟨n,d,0,0,0⟩=true
   ·have e1:pnE n d=0:=by simp [pnE,hp]
    simp [pnN,pnD,e1] at h; exact h
   ·simp [rsV,hp]
  simp [nwR,nwE,e,rs0,Zy]
 ·have hp:pnE n d=0:=by simp at h; exact h.1
  simp [pnN,pnD,hp] at h ⊢
  simp [nwR,nwE,h,Zy]
def ZfG:List V→Zf→Zw→Name→Option Ent
 | [.c (.d (.int .i64 c)),.agg [.d (.int .i64 n),.d (.int .i64 d)]],[],[],_=>some ⟨True,.tup [.agg [.int .i64 (nwR c n d).c,.int .i64 (nwR c n d).p.n,.int .i64 (nwR c n d).p.d,.int .i64 (nwR c n d).p.a,.int .i64 (nwR c n d).p.p,.int .i64 (nwR c n d).p.f,.list (LI .i32 (nwR c n d).l)],.int .i64 (nwE c n d)],[],[]⟩
 | _,_,_,_=>none
def Zhp:=And.intro (@ZfG.eq_1) (@ZfG.eq_1)
theorem Zhq:Snd Tryz.prog 47 ZfG:=by
 intro vs b k n e h hn hp
 unfold ZfG at h
 split at h
 ·cases h; exact (Zw3 _ _ _).lift rfl _
 ·cases h
theorem ZsX (c n d:Int):Spec Tryz.prog 0 38 [vI .i64 c,.agg [.d (.int .i64 n),.d (.int .i64 d)]] [] [] (.tup [.agg [.int .i64 (nwR c n d).c,.int .i64 (nwR c n d).p.n,.int .i64 (nwR c n d).p.d,.int .i64 (nwR c n d).p.a,.int .i64 (nwR c n d).p.p,.int .i64 (nwR c n d).p.f,.list (LI .i32 (nwR c n d).l)],.int .i64 (nwE c n d)]) [] []:=by
 refine sE (md:=fun _=>0) (L:=[(97,ZaO)]) [] 8315 (Za Zbd Zb) Tryz.func38 rfl rfl rfl ?_
 simp (maxSteps:=1000000) only [↓Zo,Ze,Zd,Zn,gSt,gS0,Ya,Yb,↓reduceIte,reduceCtorEq,Yc,Yd,Ye,Yf,Yg,Yj,Yk,Yl,Ym,Yn,Zaq,Tryz.ntmps38,Tryz.results38,gTT]
 refine ⟨fun h=>?_,fun h=>?_⟩
 ·simp [nwR,nwE,h,rs0,Zy]
 ·simp at h
  simp [nwR,nwE,h,Zy]
def Zfg:List V→Zf→Zw→Name→Option Ent
 | [.c (.d (.int .i64 c)),.agg [.d (.int .i64 n),.d (.int .i64 d)]],[],[],_=>some ⟨True,.tup [.agg [.int .i64 (nwR c n d).c,.int .i64 (nwR c n d).p.n,.int .i64 (nwR c n d).p.d,.int .i64 (nwR c n d).p.a,.int .i64 (nwR c n d).p.p,.int .i64 (nwR c n d).p.f,.list (LI .i32 (nwR c n d).l)],.int .i64 (nwE c n d)],[],[]⟩
 | _,_,_,_=>none
def Zjn:=And.intro (@Zfg.eq_1) (@Zfg.eq_1)
theorem Zjo:Snd Tryz.prog 38 Zfg:=by
 intro vs b k n e h hn hp
 unfold Zfg at h
 split at h
 ·cases h; exact (ZsX _ _ _).lift rfl _
 ·cases h
theorem ZqE (c n d a p f:Int) (l:List Int) (hl:l.length≤1000000):Spec Tryz.prog 0 55 [.agg [.d (.int .i64 c),.d (.int .i64 n),.d (.int .i64 d),.d (.int .i64 a),.d (.int .i64 p),.d (.int .i64 f),.d (.list (LI .i32 l))]] [] [] (vI .i64 (waN ⟨c,⟨n,d,a,p,f⟩,l⟩)) [] []:=by
 refine spec_of_E (X:=⟨Tryz.prog,tt,Tryz.f55.ntmps,1,fun _=>0,(tab [(123,Zbk)])⟩) (M:=[]) (m:=39) rfl rfl ⟨Zah,ZU (Za Zbv Zb) _ rfl rfl⟩ ZB Tryz.func55 rfl (by decide) (by show (1:Nat)≤_; exact Nat.le_of_ble_eq_true rfl) ⟨by simp [V.has,C.has],by simp [C.has],by simp⟩ ?_
 simp (maxSteps:=1000000) only [↓Zo,Ze,Zd,Zn,gSt,gS0,Ya,Yb,↓reduceIte,reduceCtorEq,Yc,Yd,Ye,Yf,Yg,Yj,Yk,Yl,Ym,Yn,Zbu,Tryz.ntmps55,Tryz.results55,gTT]
 refine ⟨hl,fun h=>by simp [waN,h],fun h=>?_⟩
 have hv:rsV ⟨c,⟨n,d,a,p,f⟩,l⟩=true:=by simpa using h
 obtain ⟨⟨k1,k2⟩,k3,k4,k5⟩:=ZW (ZD hv).2 hl
 simp only at k1 k2
 refine ⟨by omega,?_⟩
 rw [Zc3 k1 (by omega)]
 simp [waN,hv]
def ZaZ:List V→Zf→Zw→Name→Option Ent
 | [.agg [.d (.int .i64 c),.d (.int .i64 n),.d (.int .i64 d),.d (.int .i64 a),.d (.int .i64 p),.d (.int .i64 f),.d (.list q_l)]],[],[],_=>some ⟨(Zc q_l).length≤1000000∧q_l=LI .i32 (Zc q_l),vI .i64 (waN ⟨c,⟨n,d,a,p,f⟩,(Zc q_l)⟩),[],[]⟩
 | _,_,_,_=>none
def Za0:=And.intro (@ZaZ.eq_1) (@ZaZ.eq_1)
theorem Za1:Snd Tryz.prog 55 ZaZ:=by
 intro vs b k n e h hn hp
 unfold ZaZ at h
 split at h
 ·cases h; obtain ⟨hp0,hq0⟩:=hp; obtain ⟨_,rfl⟩:=Zu hq0; simp only [Zi,Zp,Zj,Zq] at hp0 ⊢; exact (ZqE _ _ _ _ _ _ _ hp0).lift rfl _
 ·cases h
theorem Znl (c n d a p f:Int) (l:List Int) (hl:l.length≤1000000):Spec Tryz.prog 0 100 [.agg [.d (.int .i64 c),.d (.int .i64 n),.d (.int .i64 d),.d (.int .i64 a),.d (.int .i64 p),.d (.int .i64 f),.d (.list (LI .i32 l))]] [] [] (vI .i64 (waN ⟨c,⟨n,d,a,p,f⟩,l⟩)) [] []:=by
 refine spec_of_E (X:=⟨Tryz.prog,tt,Tryz.f100.ntmps,1,fun _=>0,(tab [(97,ZaO)])⟩) (M:=[]) (m:=39) rfl rfl ⟨Zah,ZU (Za Zbd Zb) _ rfl rfl⟩ ZB Tryz.func100 rfl (by decide) (by show (1:Nat)≤_; exact Nat.le_of_ble_eq_true rfl) ⟨by simp [V.has,C.has],by simp [C.has],by simp⟩ ?_
 simp (maxSteps:=1000000) only [↓Zo,Ze,Zd,Zn,gSt,gS0,Ya,Yb,↓reduceIte,reduceCtorEq,Yc,Yd,Ye,Yf,Yg,Yj,Yk,Yl,Ym,Yn,Zaq,Tryz.ntmps100,Tryz.results100,gTT]
 refine ⟨hl,fun h=>by simp [waN,h],fun h=>?_⟩
 have hv:rsV ⟨c,⟨n,d,a,p,f⟩,l⟩=true:=by simpa using h
 obtain ⟨⟨k1,k2⟩,k3,k4,k5⟩:=ZW (ZD hv).2 hl
 simp only at k1 k2
 refine ⟨by omega,?_⟩
 rw [Zc3 k1 (by omega)]
 simp [waN,hv]
def ZaB:List V→Zf→Zw→Name→Option Ent
 | [.agg [.d (.int .i64 c),.d (.int .i64 n),.d (.int .i64 d),.d (.int .i64 a),.d (.int .i64 p),.d (.int .i64 f),.d (.list q_l)]],[],[],_=>some ⟨(Zc q_l).length≤1000000∧q_l=LI .i32 (Zc q_l),vI .i64 (waN ⟨c,⟨n,d,a,p,f⟩,(Zc q_l)⟩),[],[]⟩
 | _,_,_,_=>none
def ZV:=And.intro (@ZaB.eq_1) (@ZaB.eq_1)
theorem ZaH:Snd Tryz.prog 100 ZaB:=by
 intro vs b k n e h hn hp
 unfold ZaB at h
 split at h
 ·cases h; obtain ⟨hp0,hq0⟩:=hp; obtain ⟨_,rfl⟩:=Zu hq0; simp only [Zi,Zp,Zj,Zq] at hp0 ⊢; exact (Znl _ _ _ _ _ _ _ hp0).lift rfl _
 ·cases h
theorem Zsq (x y:List Int) (hx:x.length≤1000000) (hy:y.length≤1000000):Spec Tryz.prog 0 143 [.c (.d (.list [.list (LI .i32 x),.list (LI .i32 y)]))] [] [] (vL (LI .i32 (x++y))) [] []:=by
 refine sE (md:=fun s=>if s=24 then 3 else 0) (L:=[(203,ZnS)]) [] 504373101 (Za ZxG Zb) Tryz.func143 rfl rfl rfl ?_
 simp (maxSteps:=1000000) only [↓Zo,Ze,Zd,Zn,gSt,gS0,Ya,Yb,↓reduceIte,reduceCtorEq,Yc,Yd,Ye,Yf,Yg,Yj,Yk,Yl,Ym,Yn,Zeo,ZGs,Tryz.ntmps143,Tryz.results143,gTT]
 have hb:∀ i:Nat,i≤2→(ZDy x y i≤2000000):=fun i hi=>by
  have:i=0∨i=1∨i=2:=by omega
  rcases this with rfl | rfl | rfl <;> simp [ZDy,ZyI] <;> omega
 have hs:∀ i:Nat,i < 2→ZDy x y (i+1)=ZDy x y i+(([x,y])[i]?.getD []).length:=fun i hi=>by
  have:i=0∨i=1:=by omega
  rcases this with rfl | rfl <;> simp [ZDy,ZyI]
 have hf:∀ i:Nat,i < 2→ZyI x y (i+1)=ZyI x y i++(([x,y])[i]?.getD []):=fun i hi=>by
  have:i=0∨i=1:=by omega
  rcases this with rfl | rfl <;> simp [ZDy,ZyI]
 have hl:∀ i:Nat,i≤2→(ZyI x y i).length≤2000000:=fun i hi=>by
  have:i=0∨i=1∨i=2:=by omega
  rcases this with rfl | rfl | rfl <;> simp [ZDy,ZyI] <;> omega
 have hg:∀ i:Nat,(([x,y])[i]?.getD []).length≤1000000:=fun i=>by
  match i with
  | 0=>exact hx
  | 1=>exact hy
  | i+2=>exact Nat.zero_le _
 refine Zl (fun i=>⟨[(11,vI .i64 (i:Nat)),(3,vI .i64 ((ZDy x y i:Nat):Int))],[],[]⟩) (fun i=>i≤2) (fun i=>2 - i) (·+1) 0 (by decide) ?_ ?_
 ·simp (maxSteps:=1000000) only [↓Zo,Ze,Zd,Zn,gSt,gS0,Ya,Yb,↓reduceIte,reduceCtorEq,Yc,Yd,Ye,Yf,Yg,Yj,Yk,Yl,Ym,Yn,Zeo,ZGs,Tryz.ntmps143,Tryz.results143,gTT]
  exact ⟨rfl,rfl⟩
 intro i hi
 simp (maxSteps:=1000000) only [↓Zo,Ze,Zd,Zn,gSt,gS0,Ya,Yb,↓reduceIte,reduceCtorEq,Yc,Yd,Ye,Yf,Yg,Yj,Yk,Yl,Ym,Yn,Zeo,ZGs,Tryz.ntmps143,Tryz.results143,gTT]
 have b1:=hb i hi
 have b2:=hg i
 refine ⟨fun h=>?_,fun h=>?_⟩
 ·have h2:i < 2:=by have:=of_decide_eq_true h; omega
  have b3:=hs i h2
  rw [IntWalk.i64_in (_+_) (by omega),b3]
  refine ⟨by omega,fun h=>?_,fun h=>?_⟩
  ·have:=of_decide_eq_true h; omega
  ·exact ⟨⟨(Zaz _ (by omega)).symm,by omega⟩,by omega,by omega⟩
 ·refine ⟨⟨by omega,by omega⟩,?_⟩
  refine Zl (fun i=>⟨[(27,vI .i64 (i:Nat)),(6,.c (.own ⟨1,24⟩ (LI .i32 (ZyI x y i))))],[],[(⟨1,24⟩,⟨false,1,LI .i32 (ZyI x y i)⟩)]⟩) (fun i=>i≤2) (fun i=>2 - i) (·+1) 0 (by decide) ?_ ?_
  ·simp (maxSteps:=1000000) only [↓Zo,Ze,Zd,Zn,gSt,gS0,Ya,Yb,↓reduceIte,reduceCtorEq,Yc,Yd,Ye,Yf,Yg,Yj,Yk,Yl,Ym,Yn,Zeo,ZGs,Tryz.ntmps143,Tryz.results143,gTT]
   simp [Zy,ZyI]
  intro j hj
  simp (maxSteps:=1000000) only [↓Zo,Ze,Zd,Zn,gSt,gS0,Ya,Yb,↓reduceIte,reduceCtorEq,Yc,Yd,Ye,Yf,Yg,Yj,Yk,Yl,Ym,Yn,Zeo,ZGs,Tryz.ntmps143,Tryz.results143,gTT]
  have b1:=hl j hj
  have b2:=hg j
  refine ⟨fun h=>?_,fun h=>?_⟩
  ·have h2:j < 2:=by have:=of_decide_eq_true h; omega
   rw [hf j h2]
   exact ⟨by omega,by unfold Zag; omega,⟨⟨(Zaz _ (by omega)).symm,rfl⟩,rfl⟩,by omega,by omega⟩
  ·have:j=2:=by have:=of_decide_eq_false h; omega
   subst this
   simp [ZyI]
def Zgb:List V→Zf→Zw→Name→Option Ent
 | [.c (.d (.list [.list q_x,.list q_y]))],[],[],_=>some ⟨(Zc q_x).length≤1000000∧(Zc q_y).length≤1000000∧q_x=LI .i32 (Zc q_x)∧q_y=LI .i32 (Zc q_y),vL (LI .i32 ((Zc q_x)++(Zc q_y))),[],[]⟩
 | _,_,_,_=>none
def Zq2:=And.intro (@Zgb.eq_1) (@Zgb.eq_1)
theorem Zq3:Snd Tryz.prog 143 Zgb:=by
 intro vs b k n e h hn hp
 unfold Zgb at h
 split at h
 ·cases h; obtain ⟨hp0,hp1,hq0,hq1⟩:=hp; obtain ⟨_,rfl⟩:=Zu hq0; obtain ⟨_,rfl⟩:=Zu hq1; simp only [Zi,Zp,Zj,Zq] at hp0 hp1 ⊢; exact (Zsq _ _ hp0 hp1).lift rfl _
 ·cases h
theorem ZAG (c n d a p f:Int) (l:List Int) (k:Int) (y:List Int) (hl:l.length≤1000000) (hy:y.length≤1000000):Spec Tryz.prog 0 88 [.agg [.d (.int .i64 c),.d (.int .i64 n),.d (.int .i64 d),.d (.int .i64 a),.d (.int .i64 p),.d (.int .i64 f),.d (.list (LI .i32 l))],.agg [.d (.int .i64 k),.d (.list (LI .i32 y))]] [] [] (.tup [.agg [.int .i64 (feR ⟨c,⟨n,d,a,p,f⟩,l⟩ k y).c,.int .i64 (feR ⟨c,⟨n,d,a,p,f⟩,l⟩ k y).p.n,.int .i64 (feR ⟨c,⟨n,d,a,p,f⟩,l⟩ k y).p.d,.int .i64 (feR ⟨c,⟨n,d,a,p,f⟩,l⟩ k y).p.a,.int .i64 (feR ⟨c,⟨n,d,a,p,f⟩,l⟩ k y).p.p,.int .i64 (feR ⟨c,⟨n,d,a,p,f⟩,l⟩ k y).p.f,.list (LI .i32 (feR ⟨c,⟨n,d,a,p,f⟩,l⟩ k y).l)],.int .i64 (feE ⟨c,⟨n,d,a,p,f⟩,l⟩ k y)]) [] []:=by
 refine sE (md:=fun _=>0) (L:=[(123,Zbk),(62,Za8),(143,Zgb)]) [(5,[0,0,0,0,0,33898430591,0,0,0,0,0,0])] 8454271 (Za Zbv (Za ZaF (Za Zq3 Zb))) Tryz.func88 rfl rfl rfl ?_
 simp (maxSteps:=1000000) only [↓Zo,Ze,Zd,Zn,gSt,gS0,Ya,Yb,↓reduceIte,reduceCtorEq,Yc,Yd,Ye,Yf,Yg,Yj,Yk,Yl,Ym,Yn,Zbu,ZJ,Zq2,Tryz.ntmps88,Tryz.results88,gTT]
 refine ⟨hl,fun _=>hy,fun h=>?_,fun h=>⟨fun h2=>?_,fun h2=>?_⟩⟩
 ·have e:feE ⟨c,⟨n,d,a,p,f⟩,l⟩ k y=1:=by unfold feE; rw [if_pos h]
  simp [feR,e,rs0,Zy]
 ·have hk:k≠c:=by simpa using h2
  have e:feE ⟨c,⟨n,d,a,p,f⟩,l⟩ k y=11:=by unfold feE; rw [if_neg (by rw [h]; decide),if_pos hk]
  simp [feR,e,rs0,Zy]
 have hk:k=c:=by simpa using h2
 have hv:rsV ⟨c,⟨n,d,a,p,f⟩,l⟩=true:=by simp at h; exact h.1
 obtain ⟨⟨k1,k2⟩,k3,k4,k5⟩:=ZW (ZD hv).2 hl
 simp only at k1 k2
 rw [ZBp k1 (by omega)]
 refine ⟨by omega,fun h3=>?_,fun h3=>?_⟩
 ·have h4:65536 < (l.length+y.length) / c.toNat:=by have:=of_decide_eq_true h3; omega
  have e:feE ⟨c,⟨n,d,a,p,f⟩,l⟩ k y=3:=by unfold feE; rw [if_neg (by rw [h]; decide),if_neg (by simpa using hk),if_pos h4]
  simp [feR,e,rs0,Zy]
 have h4:¬ 65536 < (l.length+y.length) / c.toNat:=by have:=of_decide_eq_false h3; omega
 have e:feE ⟨c,⟨n,d,a,p,f⟩,l⟩ k y=0:=by unfold feE; rw [if_neg (by rw [h]; decide),if_neg (by simpa using hk),if_neg h4]
 refine ⟨⟨hl,hy⟩,?_⟩
 simp [feR,e]
def Zle:List V→Zf→Zw→Name→Option Ent
 | [.agg [.d (.int .i64 c),.d (.int .i64 n),.d (.int .i64 d),.d (.int .i64 a),.d (.int .i64 p),.d (.int .i64 f),.d (.list q_l)],.agg [.d (.int .i64 k),.d (.list q_y)]],[],[],_=>some ⟨(Zc q_l).length≤1000000∧(Zc q_y).length≤1000000∧q_l=LI .i32 (Zc q_l)∧q_y=LI .i32 (Zc q_y),.tup [.agg [.int .i64 (feR ⟨c,⟨n,d,a,p,f⟩,(Zc q_l)⟩ k (Zc q_y)).c,.int .i64 (feR ⟨c,⟨n,d,a,p,f⟩,(Zc q_l)⟩ k (Zc q_y)).p.n,.int .i64 (feR ⟨c,⟨n,d,a,p,f⟩,(Zc q_l)⟩ k (Zc q_y)).p.d,.int .i64 (feR ⟨c,⟨n,d,a,p,f⟩,(Zc q_l)⟩ k (Zc q_y)).p.a,.int .i64 (feR ⟨c,⟨n,d,a,p,f⟩,(Zc q_l)⟩ k (Zc q_y)).p.p,.int .i64 (feR ⟨c,⟨n,d,a,p,f⟩,(Zc q_l)⟩ k (Zc q_y)).p.f,.list (LI .i32 (feR ⟨c,⟨n,d,a,p,f⟩,(Zc q_l)⟩ k (Zc q_y)).l)],.int .i64 (feE ⟨c,⟨n,d,a,p,f⟩,(Zc q_l)⟩ k (Zc q_y))],[],[]⟩
 | _,_,_,_=>none
def ZnL:=And.intro (@Zle.eq_1) (@Zle.eq_1)
theorem ZnM:Snd Tryz.prog 88 Zle:=by
 intro vs b k n e h hn hp
 unfold Zle at h
 split at h
 ·cases h; obtain ⟨hp0,hp1,hq0,hq1⟩:=hp; obtain ⟨_,rfl⟩:=Zu hq0; obtain ⟨_,rfl⟩:=Zu hq1; simp only [Zi,Zp,Zj,Zq] at hp0 hp1 ⊢; exact (ZAG _ _ _ _ _ _ _ _ _ hp0 hp1).lift rfl _
 ·cases h
theorem ZwN (c n d a p f:Int) (l:List Int) (k:Int) (y:List Int) (hl:l.length≤1000000) (hy:y.length≤1000000):Spec Tryz.prog 0 98 [.agg [.d (.int .i64 c),.d (.int .i64 n),.d (.int .i64 d),.d (.int .i64 a),.d (.int .i64 p),.d (.int .i64 f),.d (.list (LI .i32 l))],.agg [.d (.int .i64 k),.d (.list (LI .i32 y))]] [] [] (.tup [.agg [.int .i64 (feR ⟨c,⟨n,d,a,p,f⟩,l⟩ k y).c,.int .i64 (feR ⟨c,⟨n,d,a,p,f⟩,l⟩ k y).p.n,.int .i64 (feR ⟨c,⟨n,d,a,p,f⟩,l⟩ k y).p.d,.int .i64 (feR ⟨c,⟨n,d,a,p,f⟩,l⟩ k y).p.a,.int .i64 (feR ⟨c,⟨n,d,a,p,f⟩,l⟩ k y).p.p,.int .i64 (feR ⟨c,⟨n,d,a,p,f⟩,l⟩ k y).p.f,.list (LI .i32 (feR ⟨c,⟨n,d,a,p,f⟩,l⟩ k y).l)],.int .i64 (feE ⟨c,⟨n,d,a,p,f⟩,l⟩ k y)]) [] []:=by
 refine sE (md:=fun _=>0) (L:=[(97,ZaO),(30,ZaW)]) [(5,[0,0,0,0,0,33898430591,0,0,0,0,0,0])] 8454271 (Za Zbd (Za ZaY Zb)) Tryz.func98 rfl rfl rfl ?_
 simp (maxSteps:=1000000) only [↓Zo,Ze,Zd,Zn,gSt,gS0,Ya,Yb,↓reduceIte,reduceCtorEq,Yc,Yd,Ye,Yf,Yg,Yj,Yk,Yl,Ym,Yn,Zaq,ZaX,Tryz.ntmps98,Tryz.results98,gTT]
 refine ⟨hl,fun _=>hy,fun h=>?_,fun h=>⟨fun h2=>?_,fun h2=>?_⟩⟩
 ·have e:feE ⟨c,⟨n,d,a,p,f⟩,l⟩ k y=1:=by unfold feE; rw [if_pos h]
  simp [feR,e,rs0,Zy]
 ·have hk:k≠c:=by simpa using h2
  have e:feE ⟨c,⟨n,d,a,p,f⟩,l⟩ k y=11:=by unfold feE; rw [if_neg (by rw [h]; decide),if_pos hk]
  simp [feR,e,rs0,Zy]
 have hk:k=c:=by simpa using h2
 have hv:rsV ⟨c,⟨n,d,a,p,f⟩,l⟩=true:=by simp at h; exact h.1
 obtain ⟨⟨k1,k2⟩,k3,k4,k5⟩:=ZW (ZD hv).2 hl
 simp only at k1 k2
 rw [ZBp k1 (by omega)]
 refine ⟨by omega,fun h3=>?_,fun h3=>?_⟩
 ·have h4:65536 < (l.length+y.length) / c.toNat:=by have:=of_decide_eq_true h3; omega
  have e:feE ⟨c,⟨n,d,a,p,f⟩,l⟩ k y=3:=by unfold feE; rw [if_neg (by rw [h]; decide),if_neg (by simpa using hk),if_pos h4]
  simp [feR,e,rs0,Zy]
 have h4:¬ 65536 < (l.length+y.length) / c.toNat:=by have:=of_decide_eq_false h3; omega
 have e:feE ⟨c,⟨n,d,a,p,f⟩,l⟩ k y=0:=by unfold feE; rw [if_neg (by rw [h]; decide),if_neg (by simpa using hk),if_neg h4]
 refine ⟨by kernel_rfl,by unfold Zag; omega,by unfold Zag; omega,?_⟩
 simp [feR,e]
def Zho:List V→Zf→Zw→Name→Option Ent
 | [.agg [.d (.int .i64 c),.d (.int .i64 n),.d (.int .i64 d),.d (.int .i64 a),.d (.int .i64 p),.d (.int .i64 f),.d (.list q_l)],.agg [.d (.int .i64 k),.d (.list q_y)]],[],[],_=>some ⟨(Zc q_l).length≤1000000∧(Zc q_y).length≤1000000∧q_l=LI .i32 (Zc q_l)∧q_y=LI .i32 (Zc q_y),.tup [.agg [.int .i64 (feR ⟨c,⟨n,d,a,p,f⟩,(Zc q_l)⟩ k (Zc q_y)).c,.int .i64 (feR ⟨c,⟨n,d,a,p,f⟩,(Zc q_l)⟩ k (Zc q_y)).p.n,.int .i64 (feR ⟨c,⟨n,d,a,p,f⟩,(Zc q_l)⟩ k (Zc q_y)).p.d,.int .i64 (feR ⟨c,⟨n,d,a,p,f⟩,(Zc q_l)⟩ k (Zc q_y)).p.a,.int .i64 (feR ⟨c,⟨n,d,a,p,f⟩,(Zc q_l)⟩ k (Zc q_y)).p.p,.int .i64 (feR ⟨c,⟨n,d,a,p,f⟩,(Zc q_l)⟩ k (Zc q_y)).p.f,.list (LI .i32 (feR ⟨c,⟨n,d,a,p,f⟩,(Zc q_l)⟩ k (Zc q_y)).l)],.int .i64 (feE ⟨c,⟨n,d,a,p,f⟩,(Zc q_l)⟩ k (Zc q_y))],[],[]⟩
 | _,_,_,_=>none
def Zlo:=And.intro (@Zho.eq_1) (@Zho.eq_1)
theorem Zlp:Snd Tryz.prog 98 Zho:=by
 intro vs b k n e h hn hp
 unfold Zho at h
 split at h
 ·cases h; obtain ⟨hp0,hp1,hq0,hq1⟩:=hp; obtain ⟨_,rfl⟩:=Zu hq0; obtain ⟨_,rfl⟩:=Zu hq1; simp only [Zi,Zp,Zj,Zq] at hp0 hp1 ⊢; exact (ZwN _ _ _ _ _ _ _ _ _ hp0 hp1).lift rfl _
 ·cases h
end Go.Vam
end
