/- A part of the proof. Conditions: none. -/
import Derived.Test.YtmpbpijnbmpbhaaGreatSXk
set_option linter.unusedVariables false
set_option linter.defProp false
set_option linter.unusedSimpArgs false
set_option maxRecDepth 40000
set_option maxHeartbeats 4000000
namespace Go.Vam
open Go.Proofs
open Nat renaming reduceShiftRight→Ya,reduceMod→Yb,reduceEqDiff→Yc,reduceLT→Yd,reduceLeDiff→Ye,reduceAdd→Yf,reduceMul→Yg
open Int renaming reduceLE→Yj,reduceLT→Yk,reduceNeg→Yl,reduceAdd→Ym,reduceToNat→Yn,reduceSub→Yo
abbrev Lss:=List (List Int)
theorem Zw7 (q:List D) (z:Int) (hq:q=spanL) (hz:z=48000):Spec Tryz.prog 0 254 [vL q,.c (.fn 236 [(⟨0,0⟩,0)])] [(⟨0,0⟩,[.d (.int .i64 z)])] [] (vI .i64 0) [(⟨0,0⟩,[.d (.int .i64 z)])] []:=by
 refine spec_of_E (X:=⟨Tryz.prog,tt,Tryz.f254.ntmps,1,fun _=>0,(tab [(236,Zgj)])⟩) (M:=[]) (m:=66483) rfl rfl ⟨Zah,ZU (Za Zrf Zb) _ rfl rfl⟩ ZB Tryz.func254 rfl (by decide) (by show (2:Nat)≤_; exact Nat.le_of_ble_eq_true rfl) ⟨by simp [V.has,C.has,ZH],by simp [C.has],by simp⟩ ?_
 subst hq hz
 unfold spanL
 simp (maxSteps:=1000000) only [↓Zo,Ze,Zd,Zn,gSt,gS0,Ya,Yb,↓reduceIte,reduceCtorEq,Yc,Yd,Ye,Yf,Yg,Yj,Yk,Yl,Ym,Yn,ZfC,gE1,gE2,Int.natCast_zero,Int.natCast_one,Int.cast_ofNat_Int,Yo,Tryz.ntmps254,Tryz.results254,gTT]
 refine Zl (fun g:Nat=>⟨[(8,vI .i64 (g:Nat))],[],[]⟩) (fun g=>g≤0) (fun g=>1 - g) (·+1) 0 (by decide) ?_ ?_
 ·simp (maxSteps:=1000000) only [↓Zo,Ze,Zd,Zn,gSt,gS0,Ya,Yb,↓reduceIte,reduceCtorEq,Yc,Yd,Ye,Yf,Yg,Yj,Yk,Yl,Ym,Yn,ZfC,gE1,gE2,Int.natCast_zero,Int.natCast_one,Int.cast_ofNat_Int,Yo,Tryz.ntmps254,Tryz.results254,gTT]
  all_goals rfl
 intro g hg
 obtain rfl:g=0:=by omega
 simp (maxSteps:=1000000) only [↓Zo,Ze,Zd,Zn,gSt,gS0,Ya,Yb,↓reduceIte,reduceCtorEq,Yc,Yd,Ye,Yf,Yg,Yj,Yk,Yl,Ym,Yn,ZfC,gE1,gE2,Int.natCast_zero,Int.natCast_one,Int.cast_ofNat_Int,Yo,Tryz.ntmps254,Tryz.results254,gTT]
 skip
def ZjE:List V→Zf→Zw→Name→Option Ent
 | [.c (.d (.list q)),.c (.fn 236 [(n0,0)])],[(m0,[.d (.int .i64 z)])],[],_=>some ⟨q=spanL∧z=48000∧n0.lv≤1∧m0=n0,vI .i64 0,[(n0,[.d (.int .i64 z)])],[]⟩
 | _,_,_,_=>none
def Zvx:=And.intro (@ZjE.eq_1) (@ZjE.eq_1)
theorem Zvy:Snd Tryz.prog 254 ZjE:=by
 intro vs b k n e h hn hp
 unfold ZjE at h
 split at h
 ·cases h; obtain ⟨hp0,hp1,hl0,rfl⟩:=hp; exact Spec.ren1 (Zw7 _ _ hp0 hp1) 0 (by simp [Zbi,V.names,C.names,ZS,ZT,ZH]) hl0
 ·cases h
theorem Zs3 (q:List D) (z:Int) (hq:q=spanL) (hz:z=48000):Spec Tryz.prog 0 234 [vL q,.c (.fn 236 [(⟨0,0⟩,0)])] [(⟨0,0⟩,[.d (.int .i64 z)])] [] (vB true) [(⟨0,0⟩,[.d (.int .i64 z)])] []:=by
 refine spec_of_E (X:=⟨Tryz.prog,tt,Tryz.f234.ntmps,1,fun _=>0,(tab [(254,ZjE)])⟩) (M:=[]) (m:=19) rfl rfl ⟨Zah,ZU (Za Zvy Zb) _ rfl rfl⟩ ZB Tryz.func234 rfl (by decide) (by show (2:Nat)≤_; exact Nat.le_of_ble_eq_true rfl) ⟨by simp [V.has,C.has,ZH],by simp [C.has],by simp⟩ ?_
 simp (maxSteps:=1000000) only [↓Zo,Ze,Zd,Zn,gSt,gS0,Ya,Yb,↓reduceIte,reduceCtorEq,Yc,Yd,Ye,Yf,Yg,Yj,Yk,Yl,Ym,Yn,Zvx,gE1,gE2,Tryz.ntmps234,Tryz.results234,gTT]
 exact ⟨hq,hz⟩
def ZgK:List V→Zf→Zw→Name→Option Ent
 | [.c (.d (.list q)),.c (.fn 236 [(n0,0)])],[(m0,[.d (.int .i64 z)])],[],_=>some ⟨q=spanL∧z=48000∧n0.lv≤1∧m0=n0,vB true,[(n0,[.d (.int .i64 z)])],[]⟩
 | _,_,_,_=>none
def ZrK:=And.intro (@ZgK.eq_1) (@ZgK.eq_1)
theorem ZrL:Snd Tryz.prog 234 ZgK:=by
 intro vs b k n e h hn hp
 unfold ZgK at h
 split at h
 ·cases h; obtain ⟨hp0,hp1,hl0,rfl⟩:=hp; exact Spec.ren1 (Zs3 _ _ hp0 hp1) 0 (by simp [Zbi,V.names,C.names,ZS,ZT,ZH]) hl0
 ·cases h
theorem ZwA (q:List D) (z:Int) (hq:q=spanL) (hz:z=48000):Spec Tryz.prog 0 185 [.agg [.d (.list q)],vI .i64 z] [] [] (vB true) [] []:=by
 refine sE (md:=fun _=>0) (L:=[(235,Zep),(234,ZgK)]) [] 31 (Za ZnV (Za ZrL Zb)) Tryz.func185 rfl rfl rfl ?_
 simp (maxSteps:=1000000) only [↓Zo,Ze,Zd,Zn,gSt,gS0,Ya,Yb,↓reduceIte,reduceCtorEq,Yc,Yd,Ye,Yf,Yg,Yj,Yk,Yl,Ym,Yn,ZnU,ZrK,gE1,gE2,Tryz.ntmps185,Tryz.results185,gTT]
 exact ⟨hq,hq,hz⟩
def Zi4:List V→Zf→Zw→Name→Option Ent
 | [.agg [.d (.list q)],.c (.d (.int .i64 z))],[],[],_=>some ⟨q=spanL∧z=48000,vB true,[],[]⟩
 | _,_,_,_=>none
def Zu9:=And.intro (@Zi4.eq_1) (@Zi4.eq_1)
theorem Zva:Snd Tryz.prog 185 Zi4:=by
 intro vs b k n e h hn hp
 unfold Zi4 at h
 split at h
 ·cases h; obtain ⟨hp0,hp1⟩:=hp; exact (ZwA _ _ hp0 hp1).lift rfl _
 ·cases h
theorem Ztb (q:List D) (x y:Int) (hq:q=spanL) (hx:x≤48000) (hy:48000≤y):Spec Tryz.prog 0 253 [.agg [.d (.list q)],vI .i64 x,vI .i64 y] [] [] (vB true) [] []:=by
 refine sE (md:=fun _=>0) (L:=[(255,Zdf)]) [(2,[0,0,0,0,0,137438888143,0,0,0,0,0,137434890447,0,0,0,0,0,137237627087,0,0,0,0,0,128916127951,0,0,0])] 207 (Za ZhS Zb) Tryz.func253 rfl rfl rfl ?_
 subst hq
 unfold spanL
 have wz:IntKind.i64.wrap 0=0:=by decide
 simp (maxSteps:=1000000) only [↓Zo,Ze,Zd,Zn,gSt,gS0,Ya,Yb,↓reduceIte,reduceCtorEq,Yc,Yd,Ye,Yf,Yg,Yj,Yk,Yl,Ym,Yn,ZhR,gE1,gE2,Int.natCast_zero,Int.natCast_one,Int.cast_ofNat_Int,Yo,wz,Int.toNat_zero,List.getElem?_nil,Tryz.ntmps253,Tryz.results253,gTT]
 exact ⟨rfl,by rw [decide_eq_true hx,decide_eq_true hy]; rfl⟩
def ZgM:List V→Zf→Zw→Name→Option Ent
 | [.agg [.d (.list q)],.c (.d (.int .i64 x)),.c (.d (.int .i64 y))],[],[],_=>some ⟨q=spanL∧x≤48000∧48000≤y,vB true,[],[]⟩
 | _,_,_,_=>none
def ZdW:=And.intro (@ZgM.eq_1) (@ZgM.eq_1)
theorem ZrO:Snd Tryz.prog 253 ZgM:=by
 intro vs b k n e h hn hp
 unfold ZgM at h
 split at h
 ·cases h; obtain ⟨hp0,hp1,hp2⟩:=hp; exact (Ztb _ _ _ hp0 hp1 hp2).lift rfl _
 ·cases h
theorem Zwr (a b:List Int) (ha:a.length≤1000000) (hb:b.length≤1000000):Spec Tryz.prog 0 239 [vL (LI .i64 a),vL (LI .i64 b)] [] [] (vB (decide (a=b))) [] []:=by
 refine sE (md:=fun _=>0) (L:=[(257,ZgI)]) [] 19 (Za ZrJ Zb) Tryz.func239 rfl rfl rfl ?_
 simp (maxSteps:=1000000) only [↓Zo,Ze,Zd,Zn,gSt,gS0,Ya,Yb,↓reduceIte,reduceCtorEq,Yc,Yd,Ye,Yf,Yg,Yj,Yk,Yl,Ym,Yn,ZrI,gE1,gE2,Tryz.ntmps239,Tryz.results239,gTT]
 exact ⟨by omega,by by_cases h:a=b <;> simp [h]⟩
def ZiR:List V→Zf→Zw→Name→Option Ent
 | [.c (.d (.list q_a)),.c (.d (.list q_b))],[],[],_=>some ⟨(Zc q_a).length≤1000000∧(Zc q_b).length≤1000000∧q_a=LI .i64 (Zc q_a)∧q_b=LI .i64 (Zc q_b),vB (decide ((Zc q_a)=(Zc q_b))),[],[]⟩
 | _,_,_,_=>none
def ZuZ:=And.intro (@ZiR.eq_1) (@ZiR.eq_1)
theorem Zu0:Snd Tryz.prog 239 ZiR:=by
 intro vs b k n e h hn hp
 unfold ZiR at h
 split at h
 ·cases h; obtain ⟨hp0,hp1,hq0,hq1⟩:=hp; obtain ⟨_,rfl⟩:=Zu hq0; obtain ⟨_,rfl⟩:=Zu hq1; simp only [Zi,Zp,Zj,Zq] at hp0 hp1 ⊢; exact (Zwr _ _ hp0 hp1).lift rfl _
 ·cases h
theorem ZwF (a m:List Int) (ha:a.length≤1000000) (hb:m.length≤1000000):Spec Tryz.prog 0 238 [vL (LI .i64 a),.c (.lp ⟨0,0⟩ 0)] [(⟨0,0⟩,[.d (.list (LI .i64 m))])] [] (vB (decide (a=m))) [(⟨0,0⟩,[.d (.list (LI .i64 m))])] []:=by
 refine spec_of_E (X:=⟨Tryz.prog,tt,Tryz.f238.ntmps,1,fun _=>0,(tab [(239,ZiR)])⟩) (M:=[]) (m:=11) rfl rfl ⟨Zah,ZU (Za Zu0 Zb) _ rfl rfl⟩ ZB Tryz.func238 rfl (by decide) (by show (2:Nat)≤_; exact Nat.le_of_ble_eq_true rfl) ⟨by simp [V.has,C.has,ZH],by simp [C.has],by simp⟩ ?_
 simp (maxSteps:=1000000) only [↓Zo,Ze,Zd,Zn,gSt,gS0,Ya,Yb,↓reduceIte,reduceCtorEq,Yc,Yd,Ye,Yf,Yg,Yj,Yk,Yl,Ym,Yn,ZuZ,gE1,gE2,Tryz.ntmps238,Tryz.results238,gTT]
 exact ⟨ha,hb⟩
def Zi8:List V→Zf→Zw→Name→Option Ent
 | [.c (.d (.list q_a)),.c (.lp n0 0)],[(m0,[.d (.list q_m)])],[],_=>some ⟨(Zc q_a).length≤1000000∧(Zc q_m).length≤1000000∧n0.lv≤1∧m0=n0∧q_a=LI .i64 (Zc q_a)∧q_m=LI .i64 (Zc q_m),vB (decide ((Zc q_a)=(Zc q_m))),[(n0,[.d (.list (LI .i64 (Zc q_m)))])],[]⟩
 | _,_,_,_=>none
def Zcq:=And.intro (@Zi8.eq_1) (@Zi8.eq_1)
theorem Zvg:Snd Tryz.prog 238 Zi8:=by
 intro vs b k n e h hn hp
 unfold Zi8 at h
 split at h
 ·cases h; obtain ⟨hp0,hp1,hl0,rfl,hq0,hq1⟩:=hp; obtain ⟨_,rfl⟩:=Zu hq0; obtain ⟨_,rfl⟩:=Zu hq1; simp only [Zi,Zp,Zj,Zq] at hp0 hp1 ⊢; exact Spec.ren1 (ZwF _ _ hp0 hp1) 0 (by simp [Zbi,V.names,C.names,ZS,ZT,ZH]) hl0
 ·cases h
theorem ZwC (mm:Lss) (m:List Int) (hm:mm=[]∨mm=[m]) (hb:m.length≤1000000):Spec Tryz.prog 0 256 [vL (LL .i64 mm),.c (.fn 238 [(⟨0,0⟩,0)])] [(⟨0,0⟩,[.d (.list (LI .i64 m))])] [] (vI .i64 (if mm.isEmpty then -1 else 0)) [(⟨0,0⟩,[.d (.list (LI .i64 m))])] []:=by
 refine spec_of_E (X:=⟨Tryz.prog,tt,Tryz.f256.ntmps,1,fun _=>0,(tab [(238,Zi8)])⟩) (M:=[]) (m:=66483) rfl rfl ⟨Zah,ZU (Za Zvg Zb) _ rfl rfl⟩ ZB Tryz.func256 rfl (by decide) (by show (2:Nat)≤_; exact Nat.le_of_ble_eq_true rfl) ⟨by simp [V.has,C.has,ZH],by simp [C.has],by simp⟩ ?_
 rcases hm with rfl | rfl
 ·simp (maxSteps:=1000000) only [↓Zo,Ze,Zd,Zn,gSt,gS0,Ya,Yb,↓reduceIte,reduceCtorEq,Yc,Yd,Ye,Yf,Yg,Yj,Yk,Yl,Ym,Yn,Zcq,gE1,gE2,Int.natCast_zero,Int.natCast_one,Int.cast_ofNat_Int,Yo,Tryz.ntmps256,Tryz.results256,gTT]
  refine Zl (fun g:Nat=>⟨[(8,vI .i64 (g:Nat))],[],[]⟩) (fun g=>g≤0) (fun g=>1 - g) (·+1) 0 (by decide) ?_ ?_
  ·simp (maxSteps:=1000000) only [↓Zo,Ze,Zd,Zn,gSt,gS0,Ya,Yb,↓reduceIte,reduceCtorEq,Yc,Yd,Ye,Yf,Yg,Yj,Yk,Yl,Ym,Yn,Zcq,gE1,gE2,Int.natCast_zero,Int.natCast_one,Int.cast_ofNat_Int,Yo,Tryz.ntmps256,Tryz.results256,gTT]
   all_goals rfl
  intro g hg
  obtain rfl:g=0:=by omega
  simp (maxSteps:=1000000) only [↓Zo,Ze,Zd,Zn,gSt,gS0,Ya,Yb,↓reduceIte,reduceCtorEq,Yc,Yd,Ye,Yf,Yg,Yj,Yk,Yl,Ym,Yn,Zcq,gE1,gE2,Int.natCast_zero,Int.natCast_one,Int.cast_ofNat_Int,Yo,Tryz.ntmps256,Tryz.results256,gTT]
  simp
 ·simp (maxSteps:=1000000) only [↓Zo,Ze,Zd,Zn,gSt,gS0,Ya,Yb,↓reduceIte,reduceCtorEq,Yc,Yd,Ye,Yf,Yg,Yj,Yk,Yl,Ym,Yn,Zcq,gE1,gE2,Int.natCast_zero,Int.natCast_one,Int.cast_ofNat_Int,Yo,Tryz.ntmps256,Tryz.results256,gTT]
  refine Zl (fun g:Nat=>⟨[(8,vI .i64 (g:Nat))],[],[]⟩) (fun g=>g≤0) (fun g=>1 - g) (·+1) 0 (by decide) ?_ ?_
  ·simp (maxSteps:=1000000) only [↓Zo,Ze,Zd,Zn,gSt,gS0,Ya,Yb,↓reduceIte,reduceCtorEq,Yc,Yd,Ye,Yf,Yg,Yj,Yk,Yl,Ym,Yn,Zcq,gE1,gE2,Int.natCast_zero,Int.natCast_one,Int.cast_ofNat_Int,Yo,Tryz.ntmps256,Tryz.results256,gTT]
   all_goals rfl
  intro g hg
  obtain rfl:g=0:=by omega
  simp (maxSteps:=1000000) only [↓Zo,Ze,Zd,Zn,gSt,gS0,Ya,Yb,↓reduceIte,reduceCtorEq,Yc,Yd,Ye,Yf,Yg,Yj,Yk,Yl,Ym,Yn,Zcq,gE1,gE2,Int.natCast_zero,Int.natCast_one,Int.cast_ofNat_Int,Yo,Tryz.ntmps256,Tryz.results256,gTT]
  exact ⟨hb,by simp⟩
def Zi5:List V→Zf→Zw→Name→Option Ent
 | [.c (.d (.list q_mm)),.c (.fn 238 [(n0,0)])],[(m0,[.d (.list q_m)])],[],_=>some ⟨((lls q_mm)=[]∨(lls q_mm)=[(Zc q_m)])∧(Zc q_m).length≤1000000∧n0.lv≤1∧m0=n0∧q_mm=LL .i64 (lls q_mm)∧q_m=LI .i64 (Zc q_m),vI .i64 (if (lls q_mm).isEmpty then -1 else 0),[(n0,[.d (.list (LI .i64 (Zc q_m)))])],[]⟩
 | _,_,_,_=>none
def Zvc:=And.intro (@Zi5.eq_1) (@Zi5.eq_1)
theorem Zvd:Snd Tryz.prog 256 Zi5:=by
 intro vs b k n e h hn hp
 unfold Zi5 at h
 split at h
 ·cases h; obtain ⟨hp0,hp1,hl0,rfl,hq0,hq1⟩:=hp; obtain ⟨_,rfl⟩:=ZrQ hq0; obtain ⟨_,rfl⟩:=Zu hq1; simp only [Zi,Zp,Zj,Zq] at hp0 hp1 ⊢; exact Spec.ren1 (ZwC _ _ hp0 hp1) 0 (by simp [Zbi,V.names,C.names,ZS,ZT,ZH]) hl0
 ·cases h
theorem ZsI (mm:Lss) (m:List Int) (hm:mm=[]∨mm=[m]) (hb:m.length≤1000000):Spec Tryz.prog 0 237 [vL (LL .i64 mm),.c (.fn 238 [(⟨0,0⟩,0)])] [(⟨0,0⟩,[.d (.list (LI .i64 m))])] [] (vB (!mm.isEmpty)) [(⟨0,0⟩,[.d (.list (LI .i64 m))])] []:=by
 refine spec_of_E (X:=⟨Tryz.prog,tt,Tryz.f237.ntmps,1,fun _=>0,(tab [(256,Zi5)])⟩) (M:=[]) (m:=19) rfl rfl ⟨Zah,ZU (Za Zvd Zb) _ rfl rfl⟩ ZB Tryz.func237 rfl (by decide) (by show (2:Nat)≤_; exact Nat.le_of_ble_eq_true rfl) ⟨by simp [V.has,C.has,ZH],by simp [C.has],by simp⟩ ?_
 simp (maxSteps:=1000000) only [↓Zo,Ze,Zd,Zn,gSt,gS0,Ya,Yb,↓reduceIte,reduceCtorEq,Yc,Yd,Ye,Yf,Yg,Yj,Yk,Yl,Ym,Yn,Zvc,gE1,gE2,Tryz.ntmps237,Tryz.results237,gTT]
 refine ⟨⟨hm,hb⟩,?_⟩
 cases mm <;> simp
def Zgo:List V→Zf→Zw→Name→Option Ent
 | [.c (.d (.list q_mm)),.c (.fn 238 [(n0,0)])],[(m0,[.d (.list q_m)])],[],_=>some ⟨((lls q_mm)=[]∨(lls q_mm)=[(Zc q_m)])∧(Zc q_m).length≤1000000∧n0.lv≤1∧m0=n0∧q_mm=LL .i64 (lls q_mm)∧q_m=LI .i64 (Zc q_m),vB (!(lls q_mm).isEmpty),[(n0,[.d (.list (LI .i64 (Zc q_m)))])],[]⟩
 | _,_,_,_=>none
def Zrk:=And.intro (@Zgo.eq_1) (@Zgo.eq_1)
theorem Zrl:Snd Tryz.prog 237 Zgo:=by
 intro vs b k n e h hn hp
 unfold Zgo at h
 split at h
 ·cases h; obtain ⟨hp0,hp1,hl0,rfl,hq0,hq1⟩:=hp; obtain ⟨_,rfl⟩:=ZrQ hq0; obtain ⟨_,rfl⟩:=Zu hq1; simp only [Zi,Zp,Zj,Zq] at hp0 hp1 ⊢; exact Spec.ren1 (ZsI _ _ hp0 hp1) 0 (by simp [Zbi,V.names,C.names,ZS,ZT,ZH]) hl0
 ·cases h
theorem ZAQ (mm:Lss) (m:List Int) (hm:mm=[]∨mm=[m]) (hb:m.length≤1000000):Spec Tryz.prog 0 186 [vL (LL .i64 mm),vL (LI .i64 m)] [] [] (vB (!mm.isEmpty)) [] []:=by
 refine sE (md:=fun _=>0) (L:=[(237,Zgo)]) [] 27 (Za Zrl Zb) Tryz.func186 rfl rfl rfl ?_
 simp (maxSteps:=1000000) only [↓Zo,Ze,Zd,Zn,gSt,gS0,Ya,Yb,↓reduceIte,reduceCtorEq,Yc,Yd,Ye,Yf,Yg,Yj,Yk,Yl,Ym,Yn,Zrk,gE1,gE2,Tryz.ntmps186,Tryz.results186,gTT]
 exact ⟨hm,hb⟩
def Zlk:List V→Zf→Zw→Name→Option Ent
 | [.c (.d (.list q_mm)),.c (.d (.list q_m))],[],[],_=>some ⟨((lls q_mm)=[]∨(lls q_mm)=[(Zc q_m)])∧(Zc q_m).length≤1000000∧q_mm=LL .i64 (lls q_mm)∧q_m=LI .i64 (Zc q_m),vB (!(lls q_mm).isEmpty),[],[]⟩
 | _,_,_,_=>none
def Zeu:=And.intro (@Zlk.eq_1) (@Zlk.eq_1)
theorem Zn3:Snd Tryz.prog 186 Zlk:=by
 intro vs b k n e h hn hp
 unfold Zlk at h
 split at h
 ·cases h; obtain ⟨hp0,hp1,hq0,hq1⟩:=hp; obtain ⟨_,rfl⟩:=ZrQ hq0; obtain ⟨_,rfl⟩:=Zu hq1; simp only [Zi,Zp,Zj,Zq] at hp0 hp1 ⊢; exact (ZAQ _ _ hp0 hp1).lift rfl _
 ·cases h
theorem ZsK (bk:Int) (q1:List D) (mm:Lss) (q2:List D) (hk:bk=4) (h1:q1=spanL) (h2:q2=spanL) (hm:mm=[mm.headD []]) (hc:chV (mm.headD [])=true):Spec Tryz.prog 0 232 [.agg [.d (.int .i64 bk),.d (.list q1),.d (.list (LL .i64 mm)),.d (.list q2)]] [] [] (vB true) [] []:=by
 refine sE (md:=fun _=>0) (L:=[(253,ZgM),(80,ZdG),(186,Zlk)]) [(1,[0,0,0,0,0,17594266418463,0,0,0,0,0,17594266370079,0,0,0,0,0,17594263273503,0,0,0])] 17594232864799 (Za ZrO (Za Zfz (Za Zn3 Zb))) Tryz.func232 rfl rfl rfl ?_
 have kk:((4:Int)==0 || IntKind.i64.wrap ((BitVec.ofInt IntKind.i64.bits 4 &&& ~~~BitVec.ofInt IntKind.i64.bits 254).toNat:Int) != 0)=false:=by decide +kernel
 obtain ⟨m,rfl⟩:∃ m,mm=[m]:=⟨_,hm⟩
 replace hc:chV m=true:=hc
 subst hk
 simp (maxSteps:=1000000) only [↓Zo,Ze,Zd,Zn,gSt,gS0,Ya,Yb,↓reduceIte,reduceCtorEq,Yc,Yd,Ye,Yf,Yg,Yj,Yk,Yl,Ym,Yn,ZdW,Zaj,Zeu,gE1,gE2,Int.natCast_zero,Int.natCast_one,Int.cast_ofNat_Int,Yo,kk,Tryz.ntmps232,Tryz.results232,gTT]
 refine ⟨h1,h2,?_⟩
 refine Zl (fun g:Nat=>⟨[(29,vI .i64 (g:Nat))],[],[]⟩) (fun g=>g≤1) (fun g=>1 - g) (·+1) 0 (by decide) ?_ ?_
 ·simp (maxSteps:=1000000) only [↓Zo,Ze,Zd,Zn,gSt,gS0,Ya,Yb,↓reduceIte,reduceCtorEq,Yc,Yd,Ye,Yf,Yg,Yj,Yk,Yl,Ym,Yn,ZdW,Zaj,Zeu,gE1,gE2,Int.natCast_zero,Int.natCast_one,Int.cast_ofNat_Int,Yo,kk,Tryz.ntmps232,Tryz.results232,gTT]
  all_goals rfl
 intro g hg
 rcases (by omega:g=0∨g=1) with rfl | rfl
 ·simp (maxSteps:=1000000) only [↓Zo,Ze,Zd,Zn,gSt,gS0,Ya,Yb,↓reduceIte,reduceCtorEq,Yc,Yd,Ye,Yf,Yg,Yj,Yk,Yl,Ym,Yn,ZdW,Zaj,Zeu,gE1,gE2,Int.natCast_zero,Int.natCast_one,Int.cast_ofNat_Int,Yo,kk,Tryz.ntmps232,Tryz.results232,gTT]
  have hch:=hc
  simp only [chV,Bool.and_eq_true,decide_eq_true_eq] at hch
  refine ⟨by omega,fun _=>⟨.inl rfl,by omega⟩,fun h=>?_,fun _=>⟨rfl,by decide⟩⟩
  rw [hc] at h
  simp at h
 ·simp (maxSteps:=1000000) only [↓Zo,Ze,Zd,Zn,gSt,gS0,Ya,Yb,↓reduceIte,reduceCtorEq,Yc,Yd,Ye,Yf,Yg,Yj,Yk,Yl,Ym,Yn,ZdW,Zaj,Zeu,gE1,gE2,Int.natCast_zero,Int.natCast_one,Int.cast_ofNat_Int,Yo,kk,Tryz.ntmps232,Tryz.results232,gTT]
  all_goals skip
def Zgq:List V→Zf→Zw→Name→Option Ent
 | [.agg [.d (.int .i64 bk),.d (.list q1),.d (.list q_mm),.d (.list q2)]],[],[],_=>some ⟨bk=4∧q1=spanL∧q2=spanL∧(lls q_mm)=[(lls q_mm).headD []]∧chV ((lls q_mm).headD [])=true∧q_mm=LL .i64 (lls q_mm),vB true,[],[]⟩
 | _,_,_,_=>none
def Zrm:=And.intro (@Zgq.eq_1) (@Zgq.eq_1)
theorem Zrn:Snd Tryz.prog 232 Zgq:=by
 intro vs b k n e h hn hp
 unfold Zgq at h
 split at h
 ·cases h; obtain ⟨hp0,hp1,hp2,hp3,hp4,hq0⟩:=hp; obtain ⟨_,rfl⟩:=ZrQ hq0; simp only [Zi,Zp,Zj,Zq] at hp0 hp1 hp2 hp3 hp4 ⊢; exact (ZsK _ _ _ _ hp0 hp1 hp2 hp3 hp4).lift rfl _
 ·cases h
end Go.Vam
