/- A part of the proof. Conditions: none. -/
import Derived.Test.YtmpbpijnbmpbhaaGreatBXk
set_option linter.unusedVariables false
set_option linter.defProp false
set_option linter.unusedSimpArgs false
set_option maxRecDepth 40000
set_option maxHeartbeats 4000000
namespace Go.Vam
open Go.Proofs
open Nat renaming reduceShiftRight→Ya,reduceMod→Yb,reduceEqDiff→Yc,reduceLT→Yd,reduceLeDiff→Ye,reduceAdd→Yf,reduceMul→Yg
open Int renaming reduceLE→Yj,reduceLT→Yk,reduceNeg→Yl,reduceAdd→Ym,reduceToNat→Yn,reduceSub→Yo
abbrev Lss:=List (List Int)
theorem Zya (q:List D) (z:Int) (hq:q=spanL) (hz:z=48000):Spec Tryz.prog 0 254 [vL q,.c (.fn 236 [(⟨0,0⟩,0)])] [(⟨0,0⟩,[.d (.int .i64 z)])] [] (vI .i64 0) [(⟨0,0⟩,[.d (.int .i64 z)])] []:=by
 refine spec_of_E (X:=⟨Tryz.prog,tt,Tryz.f254.ntmps,1,fun _=>0,(tab [(236,Zgm)])⟩) (M:=[]) (m:=66483) rfl rfl ⟨Z7,ZI (Za ZrT Zb) _ rfl rfl⟩ Zs Tryz.func254 rfl (by decide) (by show (2:Nat)≤_; exact Nat.le_of_ble_eq_true rfl) ⟨by simp [V.has,C.has,Zz],by simp [C.has],by simp⟩ ?_
 subst hq hz
 unfold spanL
 simp (maxSteps:=1000000) only [↓Zn,Ze,Zd,Zm,gSt,gS0,Ya,Yb,↓reduceIte,reduceCtorEq,Yc,Yd,Ye,Yf,Yg,Yj,Yk,Yl,Ym,Yn,ZfG,gE1,gE2,Int.natCast_zero,Int.natCast_one,Int.cast_ofNat_Int,Yo,Tryz.ntmps254,Tryz.results254,gTT]
 refine Zk (fun g:Nat=>⟨[(8,vI .i64 (g:Nat))],[],[]⟩) (fun g=>g≤0) (fun g=>1 - g) (·+1) 0 (by decide) ?_ ?_
 ·simp (maxSteps:=1000000) only [↓Zn,Ze,Zd,Zm,gSt,gS0,Ya,Yb,↓reduceIte,reduceCtorEq,Yc,Yd,Ye,Yf,Yg,Yj,Yk,Yl,Ym,Yn,ZfG,gE1,gE2,Int.natCast_zero,Int.natCast_one,Int.cast_ofNat_Int,Yo,Tryz.ntmps254,Tryz.results254,gTT]
  all_goals rfl
 intro g hg
 obtain rfl:g=0:=by omega
 simp (maxSteps:=1000000) only [↓Zn,Ze,Zd,Zm,gSt,gS0,Ya,Yb,↓reduceIte,reduceCtorEq,Yc,Yd,Ye,Yf,Yg,Yj,Yk,Yl,Ym,Yn,ZfG,gE1,gE2,Int.natCast_zero,Int.natCast_one,Int.cast_ofNat_Int,Yo,Tryz.ntmps254,Tryz.results254,gTT]
 skip
def ZjV:List V→Zf→Zr→Name→Option Ent
 | [.c (.d (.list q)),.c (.fn 236 [(n0,0)])],[(m0,[.d (.int .i64 z)])],[],_=>some ⟨q=spanL∧z=48000∧n0.lv≤1∧m0=n0,vI .i64 0,[(n0,[.d (.int .i64 z)])],[]⟩
 | _,_,_,_=>none
def ZwC:=And.intro (@ZjV.eq_1) (@ZjV.eq_1)
theorem ZwD:Snd Tryz.prog 254 ZjV:=by
 intro vs b k n e h hn hp
 unfold ZjV at h
 split at h
 ·cases h; obtain ⟨hp0,hp1,hl0,rfl⟩:=hp; exact Spec.ren1 (Zya _ _ hp0 hp1) 0 (by simp [Za9,V.names,C.names,ZJ,ZK,Zz]) hl0
 ·cases h
theorem ZtL (q:List D) (z:Int) (hq:q=spanL) (hz:z=48000):Spec Tryz.prog 0 234 [vL q,.c (.fn 236 [(⟨0,0⟩,0)])] [(⟨0,0⟩,[.d (.int .i64 z)])] [] (vB true) [(⟨0,0⟩,[.d (.int .i64 z)])] []:=by
 refine spec_of_E (X:=⟨Tryz.prog,tt,Tryz.f234.ntmps,1,fun _=>0,(tab [(254,ZjV)])⟩) (M:=[]) (m:=19) rfl rfl ⟨Z7,ZI (Za ZwD Zb) _ rfl rfl⟩ Zs Tryz.func234 rfl (by decide) (by show (2:Nat)≤_; exact Nat.le_of_ble_eq_true rfl) ⟨by simp [V.has,C.has,Zz],by simp [C.has],by simp⟩ ?_
 simp (maxSteps:=1000000) only [↓Zn,Ze,Zd,Zm,gSt,gS0,Ya,Yb,↓reduceIte,reduceCtorEq,Yc,Yd,Ye,Yf,Yg,Yj,Yk,Yl,Ym,Yn,ZwC,gE1,gE2,Tryz.ntmps234,Tryz.results234,gTT]
 exact ⟨hq,hz⟩
def ZgI:List V→Zf→Zr→Name→Option Ent
 | [.c (.d (.list q)),.c (.fn 236 [(n0,0)])],[(m0,[.d (.int .i64 z)])],[],_=>some ⟨q=spanL∧z=48000∧n0.lv≤1∧m0=n0,vB true,[(n0,[.d (.int .i64 z)])],[]⟩
 | _,_,_,_=>none
def Zsg:=And.intro (@ZgI.eq_1) (@ZgI.eq_1)
theorem Zsh:Snd Tryz.prog 234 ZgI:=by
 intro vs b k n e h hn hp
 unfold ZgI at h
 split at h
 ·cases h; obtain ⟨hp0,hp1,hl0,rfl⟩:=hp; exact Spec.ren1 (ZtL _ _ hp0 hp1) 0 (by simp [Za9,V.names,C.names,ZJ,ZK,Zz]) hl0
 ·cases h
theorem ZxF (q:List D) (z:Int) (hq:q=spanL) (hz:z=48000):Spec Tryz.prog 0 185 [.agg [.d (.list q)],vI .i64 z] [] [] (vB true) [] []:=by
 refine sE (md:=fun _=>0) (L:=[(235,ZeB),(234,ZgI)]) [] 31 (Za Zoh (Za Zsh Zb)) Tryz.func185 rfl rfl rfl ?_
 simp (maxSteps:=1000000) only [↓Zn,Ze,Zd,Zm,gSt,gS0,Ya,Yb,↓reduceIte,reduceCtorEq,Yc,Yd,Ye,Yf,Yg,Yj,Yk,Yl,Ym,Yn,Zog,Zsg,gE1,gE2,Tryz.ntmps185,Tryz.results185,gTT]
 exact ⟨hq,hq,hz⟩
def Zje:List V→Zf→Zr→Name→Option Ent
 | [.agg [.d (.list q)],.c (.d (.int .i64 z))],[],[],_=>some ⟨q=spanL∧z=48000,vB true,[],[]⟩
 | _,_,_,_=>none
def Zv4:=And.intro (@Zje.eq_1) (@Zje.eq_1)
theorem Zv5:Snd Tryz.prog 185 Zje:=by
 intro vs b k n e h hn hp
 unfold Zje at h
 split at h
 ·cases h; obtain ⟨hp0,hp1⟩:=hp; exact (ZxF _ _ hp0 hp1).lift rfl _
 ·cases h
theorem ZtV (q:List D) (x y:Int) (hq:q=spanL) (hx:x≤48000) (hy:48000≤y):Spec Tryz.prog 0 253 [.agg [.d (.list q)],vI .i64 x,vI .i64 y] [] [] (vB true) [] []:=by
 refine sE (md:=fun _=>0) (L:=[(255,Zds)]) [(2,[0,0,0,0,0,137438888143,0,0,0,0,0,137434890447,0,0,0,0,0,137237627087,0,0,0,0,0,128916127951,0,0,0])] 207 (Za ZhX Zb) Tryz.func253 rfl rfl rfl ?_
 subst hq
 unfold spanL
 have wz:IntKind.i64.wrap 0=0:=by decide
 simp (maxSteps:=1000000) only [↓Zn,Ze,Zd,Zm,gSt,gS0,Ya,Yb,↓reduceIte,reduceCtorEq,Yc,Yd,Ye,Yf,Yg,Yj,Yk,Yl,Ym,Yn,ZhW,gE1,gE2,Int.natCast_zero,Int.natCast_one,Int.cast_ofNat_Int,Yo,wz,Int.toNat_zero,List.getElem?_nil,Tryz.ntmps253,Tryz.results253,gTT]
 exact ⟨rfl,by rw [decide_eq_true hx,decide_eq_true hy]; rfl⟩
def ZgL:List V→Zf→Zr→Name→Option Ent
 | [.agg [.d (.list q)],.c (.d (.int .i64 x)),.c (.d (.int .i64 y))],[],[],_=>some ⟨q=spanL∧x≤48000∧48000≤y,vB true,[],[]⟩
 | _,_,_,_=>none
def Zd0:=And.intro (@ZgL.eq_1) (@ZgL.eq_1)
theorem Zsm:Snd Tryz.prog 253 ZgL:=by
 intro vs b k n e h hn hp
 unfold ZgL at h
 split at h
 ·cases h; obtain ⟨hp0,hp1,hp2⟩:=hp; exact (ZtV _ _ _ hp0 hp1 hp2).lift rfl _
 ·cases h
theorem Zxw (a b:List Int) (ha:a.length≤1000000) (hb:b.length≤1000000):Spec Tryz.prog 0 239 [vL (LI .i64 a),vL (LI .i64 b)] [] [] (vB (decide (a=b))) [] []:=by
 refine sE (md:=fun _=>0) (L:=[(257,ZgD)]) [] 19 (Za Zsd Zb) Tryz.func239 rfl rfl rfl ?_
 simp (maxSteps:=1000000) only [↓Zn,Ze,Zd,Zm,gSt,gS0,Ya,Yb,↓reduceIte,reduceCtorEq,Yc,Yd,Ye,Yf,Yg,Yj,Yk,Yl,Ym,Yn,Zsc,gE1,gE2,Tryz.ntmps239,Tryz.results239,gTT]
 exact ⟨by omega,by by_cases h:a=b <;> simp [h]⟩
def ZiX:List V→Zf→Zr→Name→Option Ent
 | [.c (.d (.list q_a)),.c (.d (.list q_b))],[],[],_=>some ⟨(Zc q_a).length≤1000000∧(Zc q_b).length≤1000000∧q_a=LI .i64 (Zc q_a)∧q_b=LI .i64 (Zc q_b),vB (decide ((Zc q_a)=(Zc q_b))),[],[]⟩
 | _,_,_,_=>none
def ZvT:=And.intro (@ZiX.eq_1) (@ZiX.eq_1)
theorem ZvU:Snd Tryz.prog 239 ZiX:=by
 intro vs b k n e h hn hp
 unfold ZiX at h
 split at h
 ·cases h; obtain ⟨hp0,hp1,hq0,hq1⟩:=hp; obtain ⟨_,rfl⟩:=Zq hq0; obtain ⟨_,rfl⟩:=Zq hq1; simp only [Zi,Zo,Zj,Zp] at hp0 hp1 ⊢; exact (Zxw _ _ hp0 hp1).lift rfl _
 ·cases h
theorem ZxL (a m:List Int) (ha:a.length≤1000000) (hb:m.length≤1000000):Spec Tryz.prog 0 238 [vL (LI .i64 a),.c (.lp ⟨0,0⟩ 0)] [(⟨0,0⟩,[.d (.list (LI .i64 m))])] [] (vB (decide (a=m))) [(⟨0,0⟩,[.d (.list (LI .i64 m))])] []:=by
 refine spec_of_E (X:=⟨Tryz.prog,tt,Tryz.f238.ntmps,1,fun _=>0,(tab [(239,ZiX)])⟩) (M:=[]) (m:=11) rfl rfl ⟨Z7,ZI (Za ZvU Zb) _ rfl rfl⟩ Zs Tryz.func238 rfl (by decide) (by show (2:Nat)≤_; exact Nat.le_of_ble_eq_true rfl) ⟨by simp [V.has,C.has,Zz],by simp [C.has],by simp⟩ ?_
 simp (maxSteps:=1000000) only [↓Zn,Ze,Zd,Zm,gSt,gS0,Ya,Yb,↓reduceIte,reduceCtorEq,Yc,Yd,Ye,Yf,Yg,Yj,Yk,Yl,Ym,Yn,ZvT,gE1,gE2,Tryz.ntmps238,Tryz.results238,gTT]
 exact ⟨ha,hb⟩
def Zjm:List V→Zf→Zr→Name→Option Ent
 | [.c (.d (.list q_a)),.c (.lp n0 0)],[(m0,[.d (.list q_m)])],[],_=>some ⟨(Zc q_a).length≤1000000∧(Zc q_m).length≤1000000∧n0.lv≤1∧m0=n0∧q_a=LI .i64 (Zc q_a)∧q_m=LI .i64 (Zc q_m),vB (decide ((Zc q_a)=(Zc q_m))),[(n0,[.d (.list (LI .i64 (Zc q_m)))])],[]⟩
 | _,_,_,_=>none
def ZcB:=And.intro (@Zjm.eq_1) (@Zjm.eq_1)
theorem Zwc:Snd Tryz.prog 238 Zjm:=by
 intro vs b k n e h hn hp
 unfold Zjm at h
 split at h
 ·cases h; obtain ⟨hp0,hp1,hl0,rfl,hq0,hq1⟩:=hp; obtain ⟨_,rfl⟩:=Zq hq0; obtain ⟨_,rfl⟩:=Zq hq1; simp only [Zi,Zo,Zj,Zp] at hp0 hp1 ⊢; exact Spec.ren1 (ZxL _ _ hp0 hp1) 0 (by simp [Za9,V.names,C.names,ZJ,ZK,Zz]) hl0
 ·cases h
theorem ZxI (mm:Lss) (m:List Int) (hm:mm=[]∨mm=[m]) (hb:m.length≤1000000):Spec Tryz.prog 0 256 [vL (LL .i64 mm),.c (.fn 238 [(⟨0,0⟩,0)])] [(⟨0,0⟩,[.d (.list (LI .i64 m))])] [] (vI .i64 (if mm.isEmpty then -1 else 0)) [(⟨0,0⟩,[.d (.list (LI .i64 m))])] []:=by
 refine spec_of_E (X:=⟨Tryz.prog,tt,Tryz.f256.ntmps,1,fun _=>0,(tab [(238,Zjm)])⟩) (M:=[]) (m:=66483) rfl rfl ⟨Z7,ZI (Za Zwc Zb) _ rfl rfl⟩ Zs Tryz.func256 rfl (by decide) (by show (2:Nat)≤_; exact Nat.le_of_ble_eq_true rfl) ⟨by simp [V.has,C.has,Zz],by simp [C.has],by simp⟩ ?_
 rcases hm with rfl | rfl
 ·simp (maxSteps:=1000000) only [↓Zn,Ze,Zd,Zm,gSt,gS0,Ya,Yb,↓reduceIte,reduceCtorEq,Yc,Yd,Ye,Yf,Yg,Yj,Yk,Yl,Ym,Yn,ZcB,gE1,gE2,Int.natCast_zero,Int.natCast_one,Int.cast_ofNat_Int,Yo,Tryz.ntmps256,Tryz.results256,gTT]
  refine Zk (fun g:Nat=>⟨[(8,vI .i64 (g:Nat))],[],[]⟩) (fun g=>g≤0) (fun g=>1 - g) (·+1) 0 (by decide) ?_ ?_
  ·simp (maxSteps:=1000000) only [↓Zn,Ze,Zd,Zm,gSt,gS0,Ya,Yb,↓reduceIte,reduceCtorEq,Yc,Yd,Ye,Yf,Yg,Yj,Yk,Yl,Ym,Yn,ZcB,gE1,gE2,Int.natCast_zero,Int.natCast_one,Int.cast_ofNat_Int,Yo,Tryz.ntmps256,Tryz.results256,gTT]
   all_goals rfl
  intro g hg
  obtain rfl:g=0:=by omega
  simp (maxSteps:=1000000) only [↓Zn,Ze,Zd,Zm,gSt,gS0,Ya,Yb,↓reduceIte,reduceCtorEq,Yc,Yd,Ye,Yf,Yg,Yj,Yk,Yl,Ym,Yn,ZcB,gE1,gE2,Int.natCast_zero,Int.natCast_one,Int.cast_ofNat_Int,Yo,Tryz.ntmps256,Tryz.results256,gTT]
  simp
 ·simp (maxSteps:=1000000) only [↓Zn,Ze,Zd,Zm,gSt,gS0,Ya,Yb,↓reduceIte,reduceCtorEq,Yc,Yd,Ye,Yf,Yg,Yj,Yk,Yl,Ym,Yn,ZcB,gE1,gE2,Int.natCast_zero,Int.natCast_one,Int.cast_ofNat_Int,Yo,Tryz.ntmps256,Tryz.results256,gTT]
  refine Zk (fun g:Nat=>⟨[(8,vI .i64 (g:Nat))],[],[]⟩) (fun g=>g≤0) (fun g=>1 - g) (·+1) 0 (by decide) ?_ ?_
  ·simp (maxSteps:=1000000) only [↓Zn,Ze,Zd,Zm,gSt,gS0,Ya,Yb,↓reduceIte,reduceCtorEq,Yc,Yd,Ye,Yf,Yg,Yj,Yk,Yl,Ym,Yn,ZcB,gE1,gE2,Int.natCast_zero,Int.natCast_one,Int.cast_ofNat_Int,Yo,Tryz.ntmps256,Tryz.results256,gTT]
   all_goals rfl
  intro g hg
  obtain rfl:g=0:=by omega
  simp (maxSteps:=1000000) only [↓Zn,Ze,Zd,Zm,gSt,gS0,Ya,Yb,↓reduceIte,reduceCtorEq,Yc,Yd,Ye,Yf,Yg,Yj,Yk,Yl,Ym,Yn,ZcB,gE1,gE2,Int.natCast_zero,Int.natCast_one,Int.cast_ofNat_Int,Yo,Tryz.ntmps256,Tryz.results256,gTT]
  exact ⟨hb,by simp⟩
def Zjh:List V→Zf→Zr→Name→Option Ent
 | [.c (.d (.list q_mm)),.c (.fn 238 [(n0,0)])],[(m0,[.d (.list q_m)])],[],_=>some ⟨((lls q_mm)=[]∨(lls q_mm)=[(Zc q_m)])∧(Zc q_m).length≤1000000∧n0.lv≤1∧m0=n0∧q_mm=LL .i64 (lls q_mm)∧q_m=LI .i64 (Zc q_m),vI .i64 (if (lls q_mm).isEmpty then -1 else 0),[(n0,[.d (.list (LI .i64 (Zc q_m)))])],[]⟩
 | _,_,_,_=>none
def Zv8:=And.intro (@Zjh.eq_1) (@Zjh.eq_1)
theorem Zv9:Snd Tryz.prog 256 Zjh:=by
 intro vs b k n e h hn hp
 unfold Zjh at h
 split at h
 ·cases h; obtain ⟨hp0,hp1,hl0,rfl,hq0,hq1⟩:=hp; obtain ⟨_,rfl⟩:=Zso hq0; obtain ⟨_,rfl⟩:=Zq hq1; simp only [Zi,Zo,Zj,Zp] at hp0 hp1 ⊢; exact Spec.ren1 (ZxI _ _ hp0 hp1) 0 (by simp [Za9,V.names,C.names,ZJ,ZK,Zz]) hl0
 ·cases h
theorem Ztu (mm:Lss) (m:List Int) (hm:mm=[]∨mm=[m]) (hb:m.length≤1000000):Spec Tryz.prog 0 237 [vL (LL .i64 mm),.c (.fn 238 [(⟨0,0⟩,0)])] [(⟨0,0⟩,[.d (.list (LI .i64 m))])] [] (vB (!mm.isEmpty)) [(⟨0,0⟩,[.d (.list (LI .i64 m))])] []:=by
 refine spec_of_E (X:=⟨Tryz.prog,tt,Tryz.f237.ntmps,1,fun _=>0,(tab [(256,Zjh)])⟩) (M:=[]) (m:=19) rfl rfl ⟨Z7,ZI (Za Zv9 Zb) _ rfl rfl⟩ Zs Tryz.func237 rfl (by decide) (by show (2:Nat)≤_; exact Nat.le_of_ble_eq_true rfl) ⟨by simp [V.has,C.has,Zz],by simp [C.has],by simp⟩ ?_
 simp (maxSteps:=1000000) only [↓Zn,Ze,Zd,Zm,gSt,gS0,Ya,Yb,↓reduceIte,reduceCtorEq,Yc,Yd,Ye,Yf,Yg,Yj,Yk,Yl,Ym,Yn,Zv8,gE1,gE2,Tryz.ntmps237,Tryz.results237,gTT]
 refine ⟨⟨hm,hb⟩,?_⟩
 cases mm <;> simp
def Zgq:List V→Zf→Zr→Name→Option Ent
 | [.c (.d (.list q_mm)),.c (.fn 238 [(n0,0)])],[(m0,[.d (.list q_m)])],[],_=>some ⟨((lls q_mm)=[]∨(lls q_mm)=[(Zc q_m)])∧(Zc q_m).length≤1000000∧n0.lv≤1∧m0=n0∧q_mm=LL .i64 (lls q_mm)∧q_m=LI .i64 (Zc q_m),vB (!(lls q_mm).isEmpty),[(n0,[.d (.list (LI .i64 (Zc q_m)))])],[]⟩
 | _,_,_,_=>none
def ZrY:=And.intro (@Zgq.eq_1) (@Zgq.eq_1)
theorem ZrZ:Snd Tryz.prog 237 Zgq:=by
 intro vs b k n e h hn hp
 unfold Zgq at h
 split at h
 ·cases h; obtain ⟨hp0,hp1,hl0,rfl,hq0,hq1⟩:=hp; obtain ⟨_,rfl⟩:=Zso hq0; obtain ⟨_,rfl⟩:=Zq hq1; simp only [Zi,Zo,Zj,Zp] at hp0 hp1 ⊢; exact Spec.ren1 (Ztu _ _ hp0 hp1) 0 (by simp [Za9,V.names,C.names,ZJ,ZK,Zz]) hl0
 ·cases h
theorem ZBZ (mm:Lss) (m:List Int) (hm:mm=[]∨mm=[m]) (hb:m.length≤1000000):Spec Tryz.prog 0 186 [vL (LL .i64 mm),vL (LI .i64 m)] [] [] (vB (!mm.isEmpty)) [] []:=by
 refine sE (md:=fun _=>0) (L:=[(237,Zgq)]) [] 27 (Za ZrZ Zb) Tryz.func186 rfl rfl rfl ?_
 simp (maxSteps:=1000000) only [↓Zn,Ze,Zd,Zm,gSt,gS0,Ya,Yb,↓reduceIte,reduceCtorEq,Yc,Yd,Ye,Yf,Yg,Yj,Yk,Yl,Ym,Yn,ZrY,gE1,gE2,Tryz.ntmps186,Tryz.results186,gTT]
 exact ⟨hm,hb⟩
def Zlz:List V→Zf→Zr→Name→Option Ent
 | [.c (.d (.list q_mm)),.c (.d (.list q_m))],[],[],_=>some ⟨((lls q_mm)=[]∨(lls q_mm)=[(Zc q_m)])∧(Zc q_m).length≤1000000∧q_mm=LL .i64 (lls q_mm)∧q_m=LI .i64 (Zc q_m),vB (!(lls q_mm).isEmpty),[],[]⟩
 | _,_,_,_=>none
def ZeE:=And.intro (@Zlz.eq_1) (@Zlz.eq_1)
theorem Zor:Snd Tryz.prog 186 Zlz:=by
 intro vs b k n e h hn hp
 unfold Zlz at h
 split at h
 ·cases h; obtain ⟨hp0,hp1,hq0,hq1⟩:=hp; obtain ⟨_,rfl⟩:=Zso hq0; obtain ⟨_,rfl⟩:=Zq hq1; simp only [Zi,Zo,Zj,Zp] at hp0 hp1 ⊢; exact (ZBZ _ _ hp0 hp1).lift rfl _
 ·cases h
theorem Ztw (bk:Int) (q1:List D) (mm:Lss) (q2:List D) (hk:bk=4) (h1:q1=spanL) (h2:q2=spanL) (hm:mm=[mm.headD []]) (hc:chV (mm.headD [])=true):Spec Tryz.prog 0 232 [.agg [.d (.int .i64 bk),.d (.list q1),.d (.list (LL .i64 mm)),.d (.list q2)]] [] [] (vB true) [] []:=by
 refine sE (md:=fun _=>0) (L:=[(253,ZgL),(80,ZdS),(186,Zlz)]) [(1,[0,0,0,0,0,17594266418463,0,0,0,0,0,17594266370079,0,0,0,0,0,17594263273503,0,0,0])] 17594232864799 (Za Zsm (Za ZfD (Za Zor Zb))) Tryz.func232 rfl rfl rfl ?_
 have kk:((4:Int)==0 || IntKind.i64.wrap ((BitVec.ofInt IntKind.i64.bits 4 &&& ~~~BitVec.ofInt IntKind.i64.bits 254).toNat:Int) != 0)=false:=by decide +kernel
 obtain ⟨m,rfl⟩:∃ m,mm=[m]:=⟨_,hm⟩
 replace hc:chV m=true:=hc
 subst hk
 simp (maxSteps:=1000000) only [↓Zn,Ze,Zd,Zm,gSt,gS0,Ya,Yb,↓reduceIte,reduceCtorEq,Yc,Yd,Ye,Yf,Yg,Yj,Yk,Yl,Ym,Yn,Zd0,Zad,ZeE,gE1,gE2,Int.natCast_zero,Int.natCast_one,Int.cast_ofNat_Int,Yo,kk,Tryz.ntmps232,Tryz.results232,gTT]
 refine ⟨h1,h2,?_⟩
 refine Zk (fun g:Nat=>⟨[(29,vI .i64 (g:Nat))],[],[]⟩) (fun g=>g≤1) (fun g=>1 - g) (·+1) 0 (by decide) ?_ ?_
 ·simp (maxSteps:=1000000) only [↓Zn,Ze,Zd,Zm,gSt,gS0,Ya,Yb,↓reduceIte,reduceCtorEq,Yc,Yd,Ye,Yf,Yg,Yj,Yk,Yl,Ym,Yn,Zd0,Zad,ZeE,gE1,gE2,Int.natCast_zero,Int.natCast_one,Int.cast_ofNat_Int,Yo,kk,Tryz.ntmps232,Tryz.results232,gTT]
  all_goals rfl
 intro g hg
 rcases (by omega:g=0∨g=1) with rfl | rfl
 ·simp (maxSteps:=1000000) only [↓Zn,Ze,Zd,Zm,gSt,gS0,Ya,Yb,↓reduceIte,reduceCtorEq,Yc,Yd,Ye,Yf,Yg,Yj,Yk,Yl,Ym,Yn,Zd0,Zad,ZeE,gE1,gE2,Int.natCast_zero,Int.natCast_one,Int.cast_ofNat_Int,Yo,kk,Tryz.ntmps232,Tryz.results232,gTT]
  have hch:=hc
  simp only [chV,Bool.and_eq_true,decide_eq_true_eq] at hch
  refine ⟨by omega,fun _=>⟨.inl rfl,by omega⟩,fun h=>?_,fun _=>⟨rfl,by decide⟩⟩
  rw [hc] at h
  simp at h
 ·simp (maxSteps:=1000000) only [↓Zn,Ze,Zd,Zm,gSt,gS0,Ya,Yb,↓reduceIte,reduceCtorEq,Yc,Yd,Ye,Yf,Yg,Yj,Yk,Yl,Ym,Yn,Zd0,Zad,ZeE,gE1,gE2,Int.natCast_zero,Int.natCast_one,Int.cast_ofNat_Int,Yo,kk,Tryz.ntmps232,Tryz.results232,gTT]
  all_goals skip
def Zgr:List V→Zf→Zr→Name→Option Ent
 | [.agg [.d (.int .i64 bk),.d (.list q1),.d (.list q_mm),.d (.list q2)]],[],[],_=>some ⟨bk=4∧q1=spanL∧q2=spanL∧(lls q_mm)=[(lls q_mm).headD []]∧chV ((lls q_mm).headD [])=true∧q_mm=LL .i64 (lls q_mm),vB true,[],[]⟩
 | _,_,_,_=>none
def Zr0:=And.intro (@Zgr.eq_1) (@Zgr.eq_1)
theorem Zr1:Snd Tryz.prog 232 Zgr:=by
 intro vs b k n e h hn hp
 unfold Zgr at h
 split at h
 ·cases h; obtain ⟨hp0,hp1,hp2,hp3,hp4,hq0⟩:=hp; obtain ⟨_,rfl⟩:=Zso hq0; simp only [Zi,Zo,Zj,Zp] at hp0 hp1 hp2 hp3 hp4 ⊢; exact (Ztw _ _ _ _ hp0 hp1 hp2 hp3 hp4).lift rfl _
 ·cases h
end Go.Vam
