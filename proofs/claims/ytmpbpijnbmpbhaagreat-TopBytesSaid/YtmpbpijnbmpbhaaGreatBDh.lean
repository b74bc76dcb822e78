/- A part of the proof. Conditions: none. -/
import Derived.Test.YtmpbpijnbmpbhaaGreatBDg
section
set_option linter.unusedVariables false
set_option linter.defProp false
set_option linter.unusedSimpArgs false
set_option maxRecDepth 40000
set_option maxHeartbeats 4000000
namespace Go.Vam
open Go.Proofs
open Nat renaming reduceShiftRight→Ya,reduceMod→Yb,reduceEqDiff→Yc,reduceLT→Yd,reduceLeDiff→Ye,reduceAdd→Yf,reduceMul→Yg
open Int renaming reduceLE→Yj,reduceLT→Yk,reduceNeg→Yl,reduceAdd→Ym,reduceToNat→Yn,reduceSub→Yo
theorem Znz (bk:Int) (q1:List D) (mm:Lss) (q2:List D) (hk:bk=4) (h1:q1=spanL) (h2:q2=spanL) (hm:mm=[mm.headD []]) (hc:chV (mm.headD [])=true):Spec Tryz.prog 0 231 [.agg [.d (.int .i64 bk),.d (.list q1),.d (.list (LL .i64 mm)),.d (.list q2)]] [] [] (vB false) [] []:=by
 refine sE (md:=fun _=>0) (L:=[(232,Zgr)]) [] 7 (Za Zr1 Zb) Tryz.func231 rfl rfl rfl ?_
 simp (maxSteps:=1000000) only [↓Zn,Ze,Zd,Zm,gSt,gS0,Ya,Yb,↓reduceIte,reduceCtorEq,Yc,Yd,Ye,Yf,Yg,Yj,Yk,Yl,Ym,Yn,Zr0,gE1,gE2,Tryz.ntmps231,Tryz.results231,gTT]
 exact ⟨hk,h1,h2,hm,hc⟩
def Zdw:List V→Zf→Zr→Name→Option Ent
 | [.agg [.d (.int .i64 bk),.d (.list q1),.d (.list q_mm),.d (.list q2)]],[],[],_=>some ⟨bk=4∧q1=spanL∧q2=spanL∧(lls q_mm)=[(lls q_mm).headD []]∧chV ((lls q_mm).headD [])=true∧q_mm=LL .i64 (lls q_mm),vB false,[],[]⟩
 | _,_,_,_=>none
def Zcu:=And.intro (@Zdw.eq_1) (@Zdw.eq_1)
theorem ZmA:Snd Tryz.prog 231 Zdw:=by
 intro vs b k n e h hn hp
 unfold Zdw at h
 split at h
 ·cases h; obtain ⟨hp0,hp1,hp2,hp3,hp4,hq0⟩:=hp; obtain ⟨_,rfl⟩:=Zso hq0; simp only [Zi,Zo,Zj,Zp] at hp0 hp1 hp2 hp3 hp4 ⊢; exact (Znz _ _ _ _ hp0 hp1 hp2 hp3 hp4).lift rfl _
 ·cases h
theorem Zs8 (bx:List D) (hx:Zke bx):Spec Tryz.prog 0 233 [vL bx,.c (.fn 231 [])] [] [] (vI .i64 (-1)) [] []:=by
 refine sE (md:=fun _=>0) (L:=[(231,Zdw)]) [] 66483 (Za ZmA Zb) Tryz.func233 rfl rfl rfl ?_
 obtain ⟨m,rfl,hc⟩:=hx
 unfold Zsr ZLA
 simp (maxSteps:=1000000) only [↓Zn,Ze,Zd,Zm,gSt,gS0,Ya,Yb,↓reduceIte,reduceCtorEq,Yc,Yd,Ye,Yf,Yg,Yj,Yk,Yl,Ym,Yn,Zcu,gE1,gE2,Int.natCast_zero,Int.natCast_one,Int.cast_ofNat_Int,Yo,Tryz.ntmps233,Tryz.results233,gTT]
 refine Zk (fun g:Nat=>⟨[(8,vI .i64 (g:Nat))],[],[]⟩) (fun g=>g≤1) (fun g=>1 - g) (·+1) 0 (by decide) ?_ ?_
 ·simp (maxSteps:=1000000) only [↓Zn,Ze,Zd,Zm,gSt,gS0,Ya,Yb,↓reduceIte,reduceCtorEq,Yc,Yd,Ye,Yf,Yg,Yj,Yk,Yl,Ym,Yn,Zcu,gE1,gE2,Int.natCast_zero,Int.natCast_one,Int.cast_ofNat_Int,Yo,Tryz.ntmps233,Tryz.results233,gTT]
  all_goals rfl
 intro g hg
 rcases (by omega:g=0∨g=1) with rfl | rfl
 ·simp (maxSteps:=1000000) only [↓Zn,Ze,Zd,Zm,gSt,gS0,Ya,Yb,↓reduceIte,reduceCtorEq,Yc,Yd,Ye,Yf,Yg,Yj,Yk,Yl,Ym,Yn,Zcu,gE1,gE2,Int.natCast_zero,Int.natCast_one,Int.cast_ofNat_Int,Yo,Tryz.ntmps233,Tryz.results233,gTT]
  exact ⟨⟨rfl,hc⟩,rfl,by decide⟩
 ·simp (maxSteps:=1000000) only [↓Zn,Ze,Zd,Zm,gSt,gS0,Ya,Yb,↓reduceIte,reduceCtorEq,Yc,Yd,Ye,Yf,Yg,Yj,Yk,Yl,Ym,Yn,Zcu,gE1,gE2,Int.natCast_zero,Int.natCast_one,Int.cast_ofNat_Int,Yo,Tryz.ntmps233,Tryz.results233,gTT]
  all_goals skip
def Zf7:List V→Zf→Zr→Name→Option Ent
 | [.c (.d (.list bx)),.c (.fn 231 [])],[],[],_=>some ⟨Zke bx,vI .i64 (-1),[],[]⟩
 | _,_,_,_=>none
def Zry:=And.intro (@Zf7.eq_1) (@Zf7.eq_1)
theorem Zrz:Snd Tryz.prog 233 Zf7:=by
 intro vs b k n e h hn hp
 unfold Zf7 at h
 split at h
 ·cases h; have hp0:=hp; exact (Zs8 _ hp0).lift rfl _
 ·cases h
theorem Zqy (bx:List D) (hx:Zke bx):Spec Tryz.prog 0 181 [vL bx,.c (.fn 231 [])] [] [] (vB false) [] []:=by
 refine sE (md:=fun _=>0) (L:=[(233,Zf7)]) [] 19 (Za Zrz Zb) Tryz.func181 rfl rfl rfl ?_
 simp (maxSteps:=1000000) only [↓Zn,Ze,Zd,Zm,gSt,gS0,Ya,Yb,↓reduceIte,reduceCtorEq,Yc,Yd,Ye,Yf,Yg,Yj,Yk,Yl,Ym,Yn,Zry,gE1,gE2,Tryz.ntmps181,Tryz.results181,gTT]
 exact hx
def Zep:List V→Zf→Zr→Name→Option Ent
 | [.c (.d (.list bx)),.c (.fn 231 [])],[],[],_=>some ⟨Zke bx,vB false,[],[]⟩
 | _,_,_,_=>none
def ZnT:=And.intro (@Zep.eq_1) (@Zep.eq_1)
theorem ZnU:Snd Tryz.prog 181 Zep:=by
 intro vs b k n e h hn hp
 unfold Zep at h
 split at h
 ·cases h; have hp0:=hp; exact (Zqy _ hp0).lift rfl _
 ·cases h
theorem ZqQ (bx:List D) (hx:Zke bx):Spec Tryz.prog 0 179 [vL bx] [] [] (vB true) [] []:=by
 refine sE (md:=fun _=>0) (L:=[(181,Zep)]) [] 5 (Za ZnU Zb) Tryz.func179 rfl rfl rfl ?_
 simp (maxSteps:=1000000) only [↓Zn,Ze,Zd,Zm,gSt,gS0,Ya,Yb,↓reduceIte,reduceCtorEq,Yc,Yd,Ye,Yf,Yg,Yj,Yk,Yl,Ym,Yn,ZnT,gE1,gE2,Tryz.ntmps179,Tryz.results179,gTT]
 obtain ⟨m,rfl,hc⟩:=hx
 exact ⟨fun _=>⟨m,rfl,hc⟩,rfl⟩
def Zdv:List V→Zf→Zr→Name→Option Ent
 | [.c (.d (.list bx))],[],[],_=>some ⟨Zke bx,vB true,[],[]⟩
 | _,_,_,_=>none
def ZhZ:=And.intro (@Zdv.eq_1) (@Zdv.eq_1)
theorem Zh0:Snd Tryz.prog 179 Zdv:=by
 intro vs b k n e h hn hp
 unfold Zdv at h
 split at h
 ·cases h; have hp0:=hp; exact (ZqQ _ hp0).lift rfl _
 ·cases h
theorem Ztx (bx:List D) (hx:Zke bx):Spec Tryz.prog 0 182 [vL bx] [] [] (vL bx) [] []:=by
 refine sE (md:=fun _=>0) (L:=[(179,Zdv)]) [] 37 (Za Zh0 Zb) Tryz.func182 rfl rfl rfl ?_
 simp (maxSteps:=1000000) only [↓Zn,Ze,Zd,Zm,gSt,gS0,Ya,Yb,↓reduceIte,reduceCtorEq,Yc,Yd,Ye,Yf,Yg,Yj,Yk,Yl,Ym,Yn,ZhZ,gE1,gE2,Tryz.ntmps182,Tryz.results182,gTT]
 exact hx
def Zgs:List V→Zf→Zr→Name→Option Ent
 | [.c (.d (.list bx))],[],[],_=>some ⟨Zke bx,vL bx,[],[]⟩
 | _,_,_,_=>none
def Zr2:=And.intro (@Zgs.eq_1) (@Zgs.eq_1)
theorem Zr3:Snd Tryz.prog 182 Zgs:=by
 intro vs b k n e h hn hp
 unfold Zgs at h
 split at h
 ·cases h; have hp0:=hp; exact (Ztx _ hp0).lift rfl _
 ·cases h
theorem ZxM (bk:Int) (q1:List D) (mm:Lss) (q2:List D) (x:Int) (hk:bk=4) (hx:x=2):Spec Tryz.prog 0 184 [.agg [.d (.int .i64 bk),.d (.list q1),.d (.list (LL .i64 mm)),.d (.list q2)],vI .i64 x] [] [] (vB true) [] []:=by
 refine sE (md:=fun _=>0) (L:=[]) [(1,[0,0,0,0,0,523287,0,0,0,0,0,460823,0,0,0])] 23 Zb Tryz.func184 rfl rfl rfl ?_
 subst hk hx
 simp (maxSteps:=1000000) only [↓Zn,Ze,Zd,Zm,gSt,gS0,Ya,Yb,↓reduceIte,reduceCtorEq,Yc,Yd,Ye,Yf,Yg,Yj,Yk,Yl,Ym,Yn,gE1,gE2,Tryz.ntmps184,Tryz.results184,gTT]
 decide +kernel
def Zjo:List V→Zf→Zr→Name→Option Ent
 | [.agg [.d (.int .i64 bk),.d (.list q1),.d (.list q_mm),.d (.list q2)],.c (.d (.int .i64 x))],[],[],_=>some ⟨bk=4∧x=2∧q_mm=LL .i64 (lls q_mm),vB true,[],[]⟩
 | _,_,_,_=>none
def Zwd:=And.intro (@Zjo.eq_1) (@Zjo.eq_1)
theorem Zwe:Snd Tryz.prog 184 Zjo:=by
 intro vs b k n e h hn hp
 unfold Zjo at h
 split at h
 ·cases h; obtain ⟨hp0,hp1,hq0⟩:=hp; obtain ⟨_,rfl⟩:=Zso hq0; simp only [Zi,Zo,Zj,Zp] at hp0 hp1 ⊢; exact (ZxM _ _ _ _ _ hp0 hp1).lift rfl _
 ·cases h
theorem ZB0 (bk:Int) (q1:List D) (mm:Lss) (q2:List D) (ck cr:Int) (mp:List Int) (cz:Int) (hk:bk=4) (h1:q1=spanL) (h2:q2=spanL) (hck:ck=2) (hcr:cr=48000) (hcz:cz=48000) (hmp:mm=[mp]) (hl:mp.length≤1000000):Spec Tryz.prog 0 183 [.agg [.d (.int .i64 bk),.d (.list q1),.d (.list (LL .i64 mm)),.d (.list q2)],.c (.lp ⟨0,0⟩ 0)] [(⟨0,0⟩,[.d (.int .i64 ck),.d (.int .i64 cr),.d (.list (LI .i64 mp)),.d (.int .i64 cz)])] [] (vB true) [(⟨0,0⟩,[.d (.int .i64 ck),.d (.int .i64 cr),.d (.list (LI .i64 mp)),.d (.int .i64 cz)])] []:=by
 refine spec_of_E (X:=⟨Tryz.prog,tt,Tryz.f183.ntmps,1,fun _=>0,(tab [(184,Zjo),(185,Zje),(186,Zlz)])⟩) (M:=[(1,[0,0,0,0,0,4294966799,0,0,0,0,0,4294935055,0,0,0,0,0,4293525519,0,0,0,0,0,4194304015,0,0,0,0,0])]) (m:=15) rfl rfl ⟨Z7,ZI (Za Zwe (Za Zv5 (Za Zor Zb))) _ rfl rfl⟩ Zs Tryz.func183 rfl (by decide) (by show (2:Nat)≤_; exact Nat.le_of_ble_eq_true rfl) ⟨by simp [V.has,C.has,Zz],by simp [C.has],by simp⟩ ?_
 simp (maxSteps:=1000000) only [↓Zn,Ze,Zd,Zm,gSt,gS0,Ya,Yb,↓reduceIte,reduceCtorEq,Yc,Yd,Ye,Yf,Yg,Yj,Yk,Yl,Ym,Yn,Zwd,Zv4,ZeE,gE1,gE2,Tryz.ntmps183,Tryz.results183,gTT]
 exact ⟨⟨hk,hck⟩,⟨h1,hcr⟩,⟨.inr hmp,hl⟩,fun _=>⟨h2,hcz⟩,by rw [hmp]; rfl⟩
def Zos:List V→Zf→Zr→Name→Option Ent
 | [.agg [.d (.int .i64 bk),.d (.list q1),.d (.list q_mm),.d (.list q2)],.c (.lp n0 0)],[(m0,[.d (.int .i64 ck),.d (.int .i64 cr),.d (.list q_mp),.d (.int .i64 cz)])],[],_=>some ⟨bk=4∧q1=spanL∧q2=spanL∧ck=2∧cr=48000∧cz=48000∧(lls q_mm)=[(Zc q_mp)]∧(Zc q_mp).length≤1000000∧n0.lv≤1∧m0=n0∧q_mm=LL .i64 (lls q_mm)∧q_mp=LI .i64 (Zc q_mp),vB true,[(n0,[.d (.int .i64 ck),.d (.int .i64 cr),.d (.list (LI .i64 (Zc q_mp))),.d (.int .i64 cz)])],[]⟩
 | _,_,_,_=>none
def Zjn:=And.intro (@Zos.eq_1) (@Zos.eq_1)
theorem ZyQ:Snd Tryz.prog 183 Zos:=by
 intro vs b k n e h hn hp
 unfold Zos at h
 split at h
 ·cases h; obtain ⟨hp0,hp1,hp2,hp3,hp4,hp5,hp6,hp7,hl0,rfl,hq0,hq1⟩:=hp; obtain ⟨_,rfl⟩:=Zso hq0; obtain ⟨_,rfl⟩:=Zq hq1; simp only [Zi,Zo,Zj,Zp] at hp0 hp1 hp2 hp3 hp4 hp5 hp6 hp7 ⊢; exact Spec.ren1 (ZB0 _ _ _ _ _ _ _ _ hp0 hp1 hp2 hp3 hp4 hp5 hp6 hp7) 0 (by simp [Za9,V.names,C.names,ZJ,ZK,Zz]) hl0
 ·cases h
theorem Zs7 (bx:List D) (ck cr:Int) (mp:List Int) (cz:Int) (hx:bx=Zsr mp) (hl:mp.length≤1000000) (hck:ck=2) (hcr:cr=48000) (hcz:cz=48000):Spec Tryz.prog 0 233 [vL bx,.c (.fn 183 [(⟨0,0⟩,0)])] [(⟨0,0⟩,[.d (.int .i64 ck),.d (.int .i64 cr),.d (.list (LI .i64 mp)),.d (.int .i64 cz)])] [] (vI .i64 0) [(⟨0,0⟩,[.d (.int .i64 ck),.d (.int .i64 cr),.d (.list (LI .i64 mp)),.d (.int .i64 cz)])] []:=by
 refine spec_of_E (X:=⟨Tryz.prog,tt,Tryz.f233.ntmps,1,fun _=>0,(tab [(183,Zos)])⟩) (M:=[]) (m:=66483) rfl rfl ⟨Z7,ZI (Za ZyQ Zb) _ rfl rfl⟩ Zs Tryz.func233 rfl (by decide) (by show (2:Nat)≤_; exact Nat.le_of_ble_eq_true rfl) ⟨by simp [V.has,C.has,Zz],by simp [C.has],by simp⟩ ?_
 subst hx
 unfold Zsr ZLA
 simp (maxSteps:=1000000) only [↓Zn,Ze,Zd,Zm,gSt,gS0,Ya,Yb,↓reduceIte,reduceCtorEq,Yc,Yd,Ye,Yf,Yg,Yj,Yk,Yl,Ym,Yn,Zjn,gE1,gE2,Int.natCast_zero,Int.natCast_one,Int.cast_ofNat_Int,Yo,Tryz.ntmps233,Tryz.results233,gTT]
 refine Zk (fun g:Nat=>⟨[(8,vI .i64 (g:Nat))],[],[]⟩) (fun g=>g≤0) (fun g=>1 - g) (·+1) 0 (by decide) ?_ ?_
 ·simp (maxSteps:=1000000) only [↓Zn,Ze,Zd,Zm,gSt,gS0,Ya,Yb,↓reduceIte,reduceCtorEq,Yc,Yd,Ye,Yf,Yg,Yj,Yk,Yl,Ym,Yn,Zjn,gE1,gE2,Int.natCast_zero,Int.natCast_one,Int.cast_ofNat_Int,Yo,Tryz.ntmps233,Tryz.results233,gTT]
  all_goals rfl
 intro g hg
 obtain rfl:g=0:=by omega
 simp (maxSteps:=1000000) only [↓Zn,Ze,Zd,Zm,gSt,gS0,Ya,Yb,↓reduceIte,reduceCtorEq,Yc,Yd,Ye,Yf,Yg,Yj,Yk,Yl,Ym,Yn,Zjn,gE1,gE2,Int.natCast_zero,Int.natCast_one,Int.cast_ofNat_Int,Yo,Tryz.ntmps233,Tryz.results233,gTT]
 exact ⟨hck,hcr,hcz,hl⟩
def Zf6:List V→Zf→Zr→Name→Option Ent
 | [.c (.d (.list bx)),.c (.fn 183 [(n0,0)])],[(m0,[.d (.int .i64 ck),.d (.int .i64 cr),.d (.list q_mp),.d (.int .i64 cz)])],[],_=>some ⟨bx=Zsr (Zc q_mp)∧(Zc q_mp).length≤1000000∧ck=2∧cr=48000∧cz=48000∧n0.lv≤1∧m0=n0∧q_mp=LI .i64 (Zc q_mp),vI .i64 0,[(n0,[.d (.int .i64 ck),.d (.int .i64 cr),.d (.list (LI .i64 (Zc q_mp))),.d (.int .i64 cz)])],[]⟩
 | _,_,_,_=>none
def Zrw:=And.intro (@Zf6.eq_1) (@Zf6.eq_1)
theorem Zrx:Snd Tryz.prog 233 Zf6:=by
 intro vs b k n e h hn hp
 unfold Zf6 at h
 split at h
 ·cases h; obtain ⟨hp0,hp1,hp2,hp3,hp4,hl0,rfl,hq0⟩:=hp; obtain ⟨_,rfl⟩:=Zq hq0; simp only [Zi,Zo,Zj,Zp] at hp0 hp1 hp2 hp3 hp4 ⊢; exact Spec.ren1 (Zs7 _ _ _ _ _ hp0 hp1 hp2 hp3 hp4) 0 (by simp [Za9,V.names,C.names,ZJ,ZK,Zz]) hl0
 ·cases h
theorem Zqx (bx:List D) (ck cr:Int) (mp:List Int) (cz:Int) (hx:bx=Zsr mp) (hl:mp.length≤1000000) (hck:ck=2) (hcr:cr=48000) (hcz:cz=48000):Spec Tryz.prog 0 181 [vL bx,.c (.fn 183 [(⟨0,0⟩,0)])] [(⟨0,0⟩,[.d (.int .i64 ck),.d (.int .i64 cr),.d (.list (LI .i64 mp)),.d (.int .i64 cz)])] [] (vB true) [(⟨0,0⟩,[.d (.int .i64 ck),.d (.int .i64 cr),.d (.list (LI .i64 mp)),.d (.int .i64 cz)])] []:=by
 refine spec_of_E (X:=⟨Tryz.prog,tt,Tryz.f181.ntmps,1,fun _=>0,(tab [(233,Zf6)])⟩) (M:=[]) (m:=19) rfl rfl ⟨Z7,ZI (Za Zrx Zb) _ rfl rfl⟩ Zs Tryz.func181 rfl (by decide) (by show (2:Nat)≤_; exact Nat.le_of_ble_eq_true rfl) ⟨by simp [V.has,C.has,Zz],by simp [C.has],by simp⟩ ?_
 simp (maxSteps:=1000000) only [↓Zn,Ze,Zd,Zm,gSt,gS0,Ya,Yb,↓reduceIte,reduceCtorEq,Yc,Yd,Ye,Yf,Yg,Yj,Yk,Yl,Ym,Yn,Zrw,gE1,gE2,Tryz.ntmps181,Tryz.results181,gTT]
 exact ⟨hx,hl,hck,hcr,hcz⟩
def Zeo:List V→Zf→Zr→Name→Option Ent
 | [.c (.d (.list bx)),.c (.fn 183 [(n0,0)])],[(m0,[.d (.int .i64 ck),.d (.int .i64 cr),.d (.list q_mp),.d (.int .i64 cz)])],[],_=>some ⟨bx=Zsr (Zc q_mp)∧(Zc q_mp).length≤1000000∧ck=2∧cr=48000∧cz=48000∧n0.lv≤1∧m0=n0∧q_mp=LI .i64 (Zc q_mp),vB true,[(n0,[.d (.int .i64 ck),.d (.int .i64 cr),.d (.list (LI .i64 (Zc q_mp))),.d (.int .i64 cz)])],[]⟩
 | _,_,_,_=>none
def ZnR:=And.intro (@Zeo.eq_1) (@Zeo.eq_1)
theorem ZnS:Snd Tryz.prog 181 Zeo:=by
 intro vs b k n e h hn hp
 unfold Zeo at h
 split at h
 ·cases h; obtain ⟨hp0,hp1,hp2,hp3,hp4,hl0,rfl,hq0⟩:=hp; obtain ⟨_,rfl⟩:=Zq hq0; simp only [Zi,Zo,Zj,Zp] at hp0 hp1 hp2 hp3 hp4 ⊢; exact Spec.ren1 (Zqx _ _ _ _ _ hp0 hp1 hp2 hp3 hp4) 0 (by simp [Za9,V.names,C.names,ZJ,ZK,Zz]) hl0
 ·cases h
theorem ZxK (bx:List D) (ck cr:Int) (mp:List Int) (cz:Int) (hx:bx=Zsr mp) (hc:chV mp=true) (hck:ck=2) (hcr:cr=48000) (hcz:cz=48000):Spec Tryz.prog 0 112 [vL bx,.agg [.d (.int .i64 ck),.d (.int .i64 cr),.d (.list (LI .i64 mp)),.d (.int .i64 cz)]] [] [] (vB true) [] []:=by
 refine sE (md:=fun _=>0) (L:=[(182,Zgs),(181,Zeo)]) [] 27 (Za Zr3 (Za ZnS Zb)) Tryz.func112 rfl rfl rfl ?_
 simp (maxSteps:=1000000) only [↓Zn,Ze,Zd,Zm,gSt,gS0,Ya,Yb,↓reduceIte,reduceCtorEq,Yc,Yd,Ye,Yf,Yg,Yj,Yk,Yl,Ym,Yn,Zr2,ZnR,gE1,gE2,Tryz.ntmps112,Tryz.results112,gTT]
 refine ⟨⟨mp,hx,hc⟩,hx,?_,hck,hcr,hcz⟩
 simp only [chV,Bool.and_eq_true,decide_eq_true_eq] at hc
 omega
def Zhi:List V→Zf→Zr→Name→Option Ent
 | [.c (.d (.list bx)),.agg [.d (.int .i64 ck),.d (.int .i64 cr),.d (.list q_mp),.d (.int .i64 cz)]],[],[],_=>some ⟨bx=Zsr (Zc q_mp)∧chV (Zc q_mp)=true∧ck=2∧cr=48000∧cz=48000∧q_mp=LI .i64 (Zc q_mp),vB true,[],[]⟩
 | _,_,_,_=>none
def Zlx:=And.intro (@Zhi.eq_1) (@Zhi.eq_1)
theorem Zly:Snd Tryz.prog 112 Zhi:=by
 intro vs b k n e h hn hp
 unfold Zhi at h
 split at h
 ·cases h; obtain ⟨hp0,hp1,hp2,hp3,hp4,hq0⟩:=hp; obtain ⟨_,rfl⟩:=Zq hq0; simp only [Zi,Zo,Zj,Zp] at hp0 hp1 hp2 hp3 hp4 ⊢; exact (ZxK _ _ _ _ _ hp0 hp1 hp2 hp3 hp4).lift rfl _
 ·cases h
end Go.Vam
end
section
set_option linter.unusedVariables false
set_option linter.defProp false
set_option linter.unusedSimpArgs false
set_option maxRecDepth 40000
set_option maxHeartbeats 4000000
namespace Go.Vam
open Go.Proofs
open Nat renaming reduceShiftRight→Ya,reduceMod→Yb,reduceEqDiff→Yc,reduceLT→Yd,reduceLeDiff→Ye,reduceAdd→Yf,reduceMul→Yg
open Int renaming reduceLE→Yj,reduceLT→Yk,reduceNeg→Yl,reduceAdd→Ym,reduceToNat→Yn,reduceSub→Yo
def ZhD (s:ByteArray) (dd dm dl dt dj:Int):Prop:=s=dacS∧(dd=1∨dd=2)∧dm=0∧dl=0∧dt=0∧dj=0
def ZgR (bx:List D) (ck cr:Int) (mp:List Int) (cz ra pe:Int) (sg:List D):Prop:=bx=Zsr mp∧chV mp=true∧ck=2∧cr=48000∧cz=48000∧ra=48000∧pe=16∧sg=Zru
theorem ZhC {m:List Int} (h:chV m=true):1≤m.length∧m.length≤8:=by
 simp only [chV,Bool.and_eq_true,decide_eq_true_eq] at h
 exact h.1
theorem ZqF (di:Int) (s:ByteArray) (dd dm dl dt dj:Int) (bx:List D) (hs:ZhD s dd dm dl dt dj) (hx:Zke bx):Spec Tryz.prog 0 109 [.agg [.d (.int .u64 di),.d (.str s),.d (.int .i64 dd),.d (.int .i64 dm),.d (.int .i64 dl),.d (.int .i64 dt),.d (.int .i64 dj),.d (.list bx)]] [] [] (vB true) [] []:=by
 refine sE (md:=fun _=>0) (L:=[(178,Zj4),(179,Zdv)]) [(12,[0,0,0,0,0,36011204832919567,0,0,0,0,0,34902897112121359,0,0,0,0])] 15 (Za ZwI (Za Zh0 Zb)) Tryz.func109 rfl rfl rfl ?_
 obtain ⟨rfl,hd,rfl,rfl,rfl,rfl⟩:=hs
 obtain ⟨m,rfl,hc⟩:=hx
 simp (maxSteps:=1000000) only [↓Zn,Ze,Zd,Zm,gSt,gS0,Ya,Yb,↓reduceIte,reduceCtorEq,Yc,Yd,Ye,Yf,Yg,Yj,Yk,Yl,Ym,Yn,ZwH,ZhZ,gE1,gE2,Tryz.ntmps109,Tryz.results109,gTT]
 rcases hd with rfl | rfl
 ·exact ⟨fun h=>absurd h (by decide),fun _=>⟨fun _=>⟨m,rfl,hc⟩,rfl⟩⟩
 ·exact ⟨fun _=>⟨fun h=>absurd h (by decide),fun _=>⟨fun _=>⟨m,rfl,hc⟩,rfl⟩⟩,fun _=>⟨fun _=>⟨m,rfl,hc⟩,rfl⟩⟩
def Zdp:List V→Zf→Zr→Name→Option Ent
 | [.agg [.d (.int .u64 di),.d (.str s),.d (.int .i64 dd),.d (.int .i64 dm),.d (.int .i64 dl),.d (.int .i64 dt),.d (.int .i64 dj),.d (.list bx)]],[],[],_=>some ⟨ZhD s dd dm dl dt dj∧Zke bx,vB true,[],[]⟩
 | _,_,_,_=>none
def ZhR:=And.intro (@Zdp.eq_1) (@Zdp.eq_1)
theorem ZhS:Snd Tryz.prog 109 Zdp:=by
 intro vs b k n e h hn hp
 unfold Zdp at h
 split at h
 ·cases h; obtain ⟨hp0,hp1⟩:=hp; exact (ZqF _ _ _ _ _ _ _ _ hp0 hp1).lift rfl _
 ·cases h
theorem Znt (rn rd:Int) (hr:rn=1∧rd=1):Spec Tryz.prog 0 180 [.agg [.d (.int .i64 rn),.d (.int .i64 rd)]] [] [] (vB true) [] []:=by
 refine sE (md:=fun _=>0) (L:=[(216,ZbS)]) [(1,[0,0,0,0,0,2096935,0,0,0,0,0,2088967,0,0,0,0,0,1048583,0])] 7 (Za Zcl Zb) Tryz.func180 rfl rfl rfl ?_
 obtain ⟨rfl,rfl⟩:=hr
 simp (maxSteps:=1000000) only [↓Zn,Ze,Zd,Zm,gSt,gS0,Ya,Yb,↓reduceIte,reduceCtorEq,Yc,Yd,Ye,Yf,Yg,Yj,Yk,Yl,Ym,Yn,Zck,gE1,gE2,Tryz.ntmps180,Tryz.results180,gTT]
 decide +kernel
def Zdl:List V→Zf→Zr→Name→Option Ent
 | [.agg [.d (.int .i64 rn),.d (.int .i64 rd)]],[],[],_=>some ⟨(rn=1∧rd=1),vB true,[],[]⟩
 | _,_,_,_=>none
def Zct:=And.intro (@Zdl.eq_1) (@Zdl.eq_1)
theorem Zmt:Snd Tryz.prog 180 Zdl:=by
 intro vs b k n e h hn hp
 unfold Zdl at h
 split at h
 ·cases h; have hp0:=hp; exact (Znt _ _ hp0).lift rfl _
 ·cases h
theorem Znu (sg:List D) (hq:sg=Zru):Spec Tryz.prog 0 110 [.agg [.d (.list sg)]] [] [] (vB true) [] []:=by
 refine sE (md:=fun _=>0) (L:=[(180,Zdl)]) [(4,[0,0,0,0,0,140737488225247,0,0,0,0,0,140737475773407,0,0,0,0,0,140736414614495,0,0,0,0,0,140688096232415,0,0,0,0,0,136427488674783,0,0,0,0])] 70368744178655 (Za Zmt Zb) Tryz.func110 rfl rfl rfl ?_
 subst hq
 unfold Zru
 have wm:(IntKind.i64.wrap (-1)).toNat=0:=by decide
 simp (maxSteps:=1000000) only [↓Zn,Ze,Zd,Zm,gSt,gS0,Ya,Yb,↓reduceIte,reduceCtorEq,Yc,Yd,Ye,Yf,Yg,Yj,Yk,Yl,Ym,Yn,Zct,gE1,gE2,Int.natCast_zero,Int.natCast_one,Int.cast_ofNat_Int,Yo,wm,List.getElem?_nil,Tryz.ntmps110,Tryz.results110,gTT]
 refine Zk (fun g:Nat=>⟨[(8,vI .i64 (g:Nat))],[],[]⟩) (fun g=>g≤1) (fun g=>1 - g) (·+1) 0 (by decide) ?_ ?_
 ·simp (maxSteps:=1000000) only [↓Zn,Ze,Zd,Zm,gSt,gS0,Ya,Yb,↓reduceIte,reduceCtorEq,Yc,Yd,Ye,Yf,Yg,Yj,Yk,Yl,Ym,Yn,Zct,gE1,gE2,Int.natCast_zero,Int.natCast_one,Int.cast_ofNat_Int,Yo,wm,List.getElem?_nil,Tryz.ntmps110,Tryz.results110,gTT]
  all_goals rfl
 intro g hg
 rcases (by omega:g=0∨g=1) with rfl | rfl
 ·simp (maxSteps:=1000000) only [↓Zn,Ze,Zd,Zm,gSt,gS0,Ya,Yb,↓reduceIte,reduceCtorEq,Yc,Yd,Ye,Yf,Yg,Yj,Yk,Yl,Ym,Yn,Zct,gE1,gE2,Int.natCast_zero,Int.natCast_one,Int.cast_ofNat_Int,Yo,wm,List.getElem?_nil,Tryz.ntmps110,Tryz.results110,gTT]
  all_goals exact ⟨by kernel_rfl,by decide,by decide⟩
 ·simp (maxSteps:=1000000) only [↓Zn,Ze,Zd,Zm,gSt,gS0,Ya,Yb,↓reduceIte,reduceCtorEq,Yc,Yd,Ye,Yf,Yg,Yj,Yk,Yl,Ym,Yn,Zct,gE1,gE2,Int.natCast_zero,Int.natCast_one,Int.cast_ofNat_Int,Yo,wm,List.getElem?_nil,Tryz.ntmps110,Tryz.results110,gTT]
  all_goals skip
def ZbY:List V→Zf→Zr→Name→Option Ent
 | [.agg [.d (.list sg)]],[],[],_=>some ⟨sg=Zru,vB true,[],[]⟩
 | _,_,_,_=>none
def ZdO:=And.intro (@ZbY.eq_1) (@ZbY.eq_1)
theorem ZdP:Snd Tryz.prog 110 ZbY:=by
 intro vs b k n e h hn hp
 unfold ZbY at h
 split at h
 ·cases h; have hp0:=hp; exact (Znu _ hp0).lift rfl _
 ·cases h
theorem Zta (sg:List D) (x y:Int) (hq:sg=Zru) (hx:0≤x∧x≤y∧y≤1099511627776):Spec Tryz.prog 0 200 [.agg [.d (.list sg)],vI .i64 x,vI .i64 y] [] [] (.tup [.int .i64 (y - x),.int .i64 0]) [] []:=by
 refine sE (md:=fun _=>0) (L:=[(110,ZbY),(244,Zf9)]) [(3,[0,0,0,0,0,16519631,0,0,0,0,0,0])] 4559 (Za ZdP (Za ZrD Zb)) Tryz.func200 rfl rfl rfl ?_
 simp (maxSteps:=1000000) only [↓Zn,Ze,Zd,Zm,gSt,gS0,Ya,Yb,↓reduceIte,reduceCtorEq,Yc,Yd,Ye,Yf,Yg,Yj,Yk,Yl,Ym,Yn,ZdO,ZrC,gE1,gE2,Tryz.ntmps200,Tryz.results200,gTT]
 refine ⟨hq,fun h=>?_,fun _=>⟨by kernel_rfl,⟨hq,by omega,by omega⟩,⟨hq,by omega,by omega⟩,?_⟩⟩
 ·simp only [Bool.or_eq_true,decide_eq_true_eq] at h
  omega
 rw [IntWalk.i64_in (y - x) (by omega)]
def Zf8:List V→Zf→Zr→Name→Option Ent
 | [.agg [.d (.list sg)],.c (.d (.int .i64 x)),.c (.d (.int .i64 y))],[],[],_=>some ⟨sg=Zru∧(0≤x∧x≤y∧y≤1099511627776),.tup [.int .i64 (y - x),.int .i64 0],[],[]⟩
 | _,_,_,_=>none
def ZrA:=And.intro (@Zf8.eq_1) (@Zf8.eq_1)
theorem ZrB:Snd Tryz.prog 200 Zf8:=by
 intro vs b k n e h hn hp
 unfold Zf8 at h
 split at h
 ·cases h; obtain ⟨hp0,hp1⟩:=hp; exact (Zta _ _ _ hp0 hp1).lift rfl _
 ·cases h
theorem ZtT (di:Int) (s:ByteArray) (dd dm dl dt dj:Int) (bx:List D) (ck cr:Int) (mp:List Int) (cz:Int) (ra pe:Int) (sg:List D) (ru:Bool) (si:Int) (q ct cd cg cm c n d a p f:Int) (l:List Int) (lo mi:Int):Spec Tryz.prog 0 119 [.agg [.d (.int .u64 di),.d (.str s),.d (.int .i64 dd),.d (.int .i64 dm),.d (.int .i64 dl),.d (.int .i64 dt),.d (.int .i64 dj),.d (.list bx),.d (.int .i64 ck),.d (.int .i64 cr),.d (.list (LI .i64 mp)),.d (.int .i64 cz),.d (.int .i64 ra),.d (.int .i64 pe),.d (.list sg),.d (.bool ru),.d (.int .i64 si),.d (.int .i64 q),.d (.int .i64 ct),.d (.int .i64 cd),.d (.int .i64 cg),.d (.int .i64 cm),.d (.int .i64 c),.d (.int .i64 n),.d (.int .i64 d),.d (.int .i64 a),.d (.int .i64 p),.d (.int .i64 f),.d (.list (LI .i32 l)),.d (.int .i64 lo),.d (.int .i64 mi)]] [] [] (vI .i64 (mp.length:Nat)) [] []:=by
 refine spec_of_E (X:=⟨Tryz.prog,tt,Tryz.f119.ntmps,1,fun _=>0,(tab [])⟩) (M:=[]) (m:=7) rfl rfl ⟨Z7,ZI Zb _ rfl rfl⟩ Zs Tryz.func119 rfl (by decide) (by show (1:Nat)≤_; exact Nat.le_of_ble_eq_true rfl) ⟨by simp [V.has,C.has,Zz],by simp [C.has],by simp⟩ ?_
 simp (maxSteps:=1000000) only [↓Zn,Ze,Zd,Zm,gSt,gS0,Ya,Yb,↓reduceIte,reduceCtorEq,Yc,Yd,Ye,Yf,Yg,Yj,Yk,Yl,Ym,Yn,gE1,gE2,Tryz.ntmps119,Tryz.results119,gTT]
def ZdZ:List V→Zf→Zr→Name→Option Ent
 | [.agg [.d (.int .u64 di),.d (.str s),.d (.int .i64 dd),.d (.int .i64 dm),.d (.int .i64 dl),.d (.int .i64 dt),.d (.int .i64 dj),.d (.list bx),.d (.int .i64 ck),.d (.int .i64 cr),.d (.list q_mp),.d (.int .i64 cz),.d (.int .i64 ra),.d (.int .i64 pe),.d (.list sg),.d (.bool ru),.d (.int .i64 si),.d (.int .i64 q),.d (.int .i64 ct),.d (.int .i64 cd),.d (.int .i64 cg),.d (.int .i64 cm),.d (.int .i64 c),.d (.int .i64 n),.d (.int .i64 d),.d (.int .i64 a),.d (.int .i64 p),.d (.int .i64 f),.d (.list q_l),.d (.int .i64 lo),.d (.int .i64 mi)]],[],[],_=>some ⟨q_mp=LI .i64 (Zc q_mp)∧q_l=LI .i32 (Zc q_l),vI .i64 ((Zc q_mp).length:Nat),[],[]⟩
 | _,_,_,_=>none
def ZfN:=And.intro (@ZdZ.eq_1) (@ZdZ.eq_1)
theorem ZfO:Snd Tryz.prog 119 ZdZ:=by
 intro vs b k n e h hn hp
 unfold ZdZ at h
 split at h
 ·cases h; obtain ⟨hq0,hq1⟩:=hp; obtain ⟨_,rfl⟩:=Zq hq0; obtain ⟨_,rfl⟩:=Zq hq1; simp only [Zi,Zo,Zj,Zp]; exact (ZtT _ _ _ _ _ _ _ _ _ _ _ _ _ _ _ _ _ _ _ _ _ _ _ _ _ _ _ _ _ _ _).lift rfl _
 ·cases h
theorem Zyg (di:Int) (s:ByteArray) (dd dm dl dt dj:Int) (bx:List D) (ck cr:Int) (mp:List Int) (cz:Int) (ra pe:Int) (sg:List D) (ru:Bool) (si:Int) (q ct cd cg cm c n d a p f:Int) (l:List Int) (lo mi:Int):Spec Tryz.prog 0 187 [.agg [.d (.int .u64 di),.d (.str s),.d (.int .i64 dd),.d (.int .i64 dm),.d (.int .i64 dl),.d (.int .i64 dt),.d (.int .i64 dj),.d (.list bx),.d (.int .i64 ck),.d (.int .i64 cr),.d (.list (LI .i64 mp)),.d (.int .i64 cz),.d (.int .i64 ra),.d (.int .i64 pe),.d (.list sg),.d (.bool ru),.d (.int .i64 si),.d (.int .i64 q),.d (.int .i64 ct),.d (.int .i64 cd),.d (.int .i64 cg),.d (.int .i64 cm),.d (.int .i64 c),.d (.int .i64 n),.d (.int .i64 d),.d (.int .i64 a),.d (.int .i64 p),.d (.int .i64 f),.d (.list (LI .i32 l)),.d (.int .i64 lo),.d (.int .i64 mi)]] [] [] (vB (dd==1)) [] []:=by
 refine sE (md:=fun _=>0) (L:=[]) [] 7 Zb Tryz.func187 rfl rfl rfl ?_
 simp (maxSteps:=1000000) only [↓Zn,Ze,Zd,Zm,gSt,gS0,Ya,Yb,↓reduceIte,reduceCtorEq,Yc,Yd,Ye,Yf,Yg,Yj,Yk,Yl,Ym,Yn,gE1,gE2,Tryz.ntmps187,Tryz.results187,gTT]
def ZfM:List V→Zf→Zr→Name→Option Ent
 | [.agg [.d (.int .u64 di),.d (.str s),.d (.int .i64 dd),.d (.int .i64 dm),.d (.int .i64 dl),.d (.int .i64 dt),.d (.int .i64 dj),.d (.list bx),.d (.int .i64 ck),.d (.int .i64 cr),.d (.list q_mp),.d (.int .i64 cz),.d (.int .i64 ra),.d (.int .i64 pe),.d (.list sg),.d (.bool ru),.d (.int .i64 si),.d (.int .i64 q),.d (.int .i64 ct),.d (.int .i64 cd),.d (.int .i64 cg),.d (.int .i64 cm),.d (.int .i64 c),.d (.int .i64 n),.d (.int .i64 d),.d (.int .i64 a),.d (.int .i64 p),.d (.int .i64 f),.d (.list q_l),.d (.int .i64 lo),.d (.int .i64 mi)]],[],[],_=>some ⟨q_mp=LI .i64 (Zc q_mp)∧q_l=LI .i32 (Zc q_l),vB (dd==1),[],[]⟩
 | _,_,_,_=>none
def Zhu:=And.intro (@ZfM.eq_1) (@ZfM.eq_1)
theorem Zhv:Snd Tryz.prog 187 ZfM:=by
 intro vs b k n e h hn hp
 unfold ZfM at h
 split at h
 ·cases h; obtain ⟨hq0,hq1⟩:=hp; obtain ⟨_,rfl⟩:=Zq hq0; obtain ⟨_,rfl⟩:=Zq hq1; simp only [Zi,Zo,Zj,Zp]; exact (Zyg _ _ _ _ _ _ _ _ _ _ _ _ _ _ _ _ _ _ _ _ _ _ _ _ _ _ _ _ _ _ _).lift rfl _
 ·cases h
theorem ZCq (di:Int) (s:ByteArray) (dd dm dl dt dj:Int) (bx:List D) (ck cr:Int) (mp:List Int) (cz:Int) (ra pe:Int) (sg:List D) (ru:Bool) (si:Int) (q ct cd cg cm c n d a p f:Int) (l:List Int) (lo mi:Int) (hs:ZhD s dd dm dl dt dj) (hv:ZgR bx ck cr mp cz ra pe sg):Spec Tryz.prog 0 113 [.agg [.d (.int .u64 di),.d (.str s),.d (.int .i64 dd),.d (.int .i64 dm),.d (.int .i64 dl),.d (.int .i64 dt),.d (.int .i64 dj),.d (.list bx),.d (.int .i64 ck),.d (.int .i64 cr),.d (.list (LI .i64 mp)),.d (.int .i64 cz),.d (.int .i64 ra),.d (.int .i64 pe),.d (.list sg),.d (.bool ru),.d (.int .i64 si),.d (.int .i64 q),.d (.int .i64 ct),.d (.int .i64 cd),.d (.int .i64 cg),.d (.int .i64 cm),.d (.int .i64 c),.d (.int .i64 n),.d (.int .i64 d),.d (.int .i64 a),.d (.int .i64 p),.d (.int .i64 f),.d (.list (LI .i32 l)),.d (.int .i64 lo),.d (.int .i64 mi)]] [] [] (.agg [.d (.int .i64 1),.d (.int .i64 1)]) [] []:=by
 refine sE (md:=fun _=>0) (L:=[(108,ZdC)]) [(1,[0,0,0,0,0,130095,0,0,0,0,0,98319,0,0,0])] 15 (Za Zh6 Zb) Tryz.func113 rfl rfl rfl ?_
 obtain ⟨rfl,hch,rfl,rfl,rfl,rfl,rfl,rfl⟩:=hv
 simp (maxSteps:=1000000) only [↓Zn,Ze,Zd,Zm,gSt,gS0,Ya,Yb,↓reduceIte,reduceCtorEq,Yc,Yd,Ye,Yf,Yg,Yj,Yk,Yl,Ym,Yn,Zh5,gE1,gE2,Tryz.ntmps113,Tryz.results113,gTT]
 decide
def ZlM:List V→Zf→Zr→Name→Option Ent
 | [.agg [.d (.int .u64 di),.d (.str s),.d (.int .i64 dd),.d (.int .i64 dm),.d (.int .i64 dl),.d (.int .i64 dt),.d (.int .i64 dj),.d (.list bx),.d (.int .i64 ck),.d (.int .i64 cr),.d (.list q_mp),.d (.int .i64 cz),.d (.int .i64 ra),.d (.int .i64 pe),.d (.list sg),.d (.bool ru),.d (.int .i64 si),.d (.int .i64 q),.d (.int .i64 ct),.d (.int .i64 cd),.d (.int .i64 cg),.d (.int .i64 cm),.d (.int .i64 c),.d (.int .i64 n),.d (.int .i64 d),.d (.int .i64 a),.d (.int .i64 p),.d (.int .i64 f),.d (.list q_l),.d (.int .i64 lo),.d (.int .i64 mi)]],[],[],_=>some ⟨ZhD s dd dm dl dt dj∧ZgR bx ck cr (Zc q_mp) cz ra pe sg∧q_mp=LI .i64 (Zc q_mp)∧q_l=LI .i32 (Zc q_l),.agg [.d (.int .i64 1),.d (.int .i64 1)],[],[]⟩
 | _,_,_,_=>none
def Zo7:=And.intro (@ZlM.eq_1) (@ZlM.eq_1)
theorem Zo8:Snd Tryz.prog 113 ZlM:=by
 intro vs b k n e h hn hp
 unfold ZlM at h
 split at h
 ·cases h; obtain ⟨hp0,hp1,hq0,hq1⟩:=hp; obtain ⟨_,rfl⟩:=Zq hq0; obtain ⟨_,rfl⟩:=Zq hq1; simp only [Zi,Zo,Zj,Zp] at hp0 hp1 ⊢; exact (ZCq _ _ _ _ _ _ _ _ _ _ _ _ _ _ _ _ _ _ _ _ _ _ _ _ _ _ _ _ _ _ _ hp0 hp1).lift rfl _
 ·cases h
theorem Zyf (di:Int) (s:ByteArray) (dd dm dl dt dj:Int) (bx:List D) (ck cr:Int) (mp:List Int) (cz:Int) (ra pe:Int) (sg:List D) (ru:Bool) (si:Int) (q ct cd cg cm c n d a p f:Int) (l:List Int) (lo mi:Int) (hs:ZhD s dd dm dl dt dj) (hv:ZgR bx ck cr mp cz ra pe sg):Spec Tryz.prog 0 120 [.agg [.d (.int .u64 di),.d (.str s),.d (.int .i64 dd),.d (.int .i64 dm),.d (.int .i64 dl),.d (.int .i64 dt),.d (.int .i64 dj),.d (.list bx),.d (.int .i64 ck),.d (.int .i64 cr),.d (.list (LI .i64 mp)),.d (.int .i64 cz),.d (.int .i64 ra),.d (.int .i64 pe),.d (.list sg),.d (.bool ru),.d (.int .i64 si),.d (.int .i64 q),.d (.int .i64 ct),.d (.int .i64 cd),.d (.int .i64 cg),.d (.int .i64 cm),.d (.int .i64 c),.d (.int .i64 n),.d (.int .i64 d),.d (.int .i64 a),.d (.int .i64 p),.d (.int .i64 f),.d (.list (LI .i32 l)),.d (.int .i64 lo),.d (.int .i64 mi)]] [] [] (.agg [.d (.int .i64 1),.d (.int .i64 1)]) [] []:=by
 refine sE (md:=fun _=>0) (L:=[(187,ZfM),(113,ZlM),(195,Zgx)]) [] 143 (Za Zhv (Za Zo8 (Za Zr6 Zb))) Tryz.func120 rfl rfl rfl ?_
 simp (maxSteps:=1000000) only [↓Zn,Ze,Zd,Zm,gSt,gS0,Ya,Yb,↓reduceIte,reduceCtorEq,Yc,Yd,Ye,Yf,Yg,Yj,Yk,Yl,Ym,Yn,Zhu,Zo7,Zr5,gE1,gE2,Tryz.ntmps120,Tryz.results120,gTT]
 exact ⟨fun _=>⟨hs,hv⟩,fun _=>⟨hs,hv⟩⟩
def ZfL:List V→Zf→Zr→Name→Option Ent
 | [.agg [.d (.int .u64 di),.d (.str s),.d (.int .i64 dd),.d (.int .i64 dm),.d (.int .i64 dl),.d (.int .i64 dt),.d (.int .i64 dj),.d (.list bx),.d (.int .i64 ck),.d (.int .i64 cr),.d (.list q_mp),.d (.int .i64 cz),.d (.int .i64 ra),.d (.int .i64 pe),.d (.list sg),.d (.bool ru),.d (.int .i64 si),.d (.int .i64 q),.d (.int .i64 ct),.d (.int .i64 cd),.d (.int .i64 cg),.d (.int .i64 cm),.d (.int .i64 c),.d (.int .i64 n),.d (.int .i64 d),.d (.int .i64 a),.d (.int .i64 p),.d (.int .i64 f),.d (.list q_l),.d (.int .i64 lo),.d (.int .i64 mi)]],[],[],_=>some ⟨ZhD s dd dm dl dt dj∧ZgR bx ck cr (Zc q_mp) cz ra pe sg∧q_mp=LI .i64 (Zc q_mp)∧q_l=LI .i32 (Zc q_l),.agg [.d (.int .i64 1),.d (.int .i64 1)],[],[]⟩
 | _,_,_,_=>none
def Zhs:=And.intro (@ZfL.eq_1) (@ZfL.eq_1)
theorem Zht:Snd Tryz.prog 120 ZfL:=by
 intro vs b k n e h hn hp
 unfold ZfL at h
 split at h
 ·cases h; obtain ⟨hp0,hp1,hq0,hq1⟩:=hp; obtain ⟨_,rfl⟩:=Zq hq0; obtain ⟨_,rfl⟩:=Zq hq1; simp only [Zi,Zo,Zj,Zp] at hp0 hp1 ⊢; exact (Zyf _ _ _ _ _ _ _ _ _ _ _ _ _ _ _ _ _ _ _ _ _ _ _ _ _ _ _ _ _ _ _ hp0 hp1).lift rfl _
 ·cases h
theorem ZCo (di:Int) (s:ByteArray) (dd dm dl dt dj:Int) (bx:List D) (ck cr:Int) (mp:List Int) (cz:Int) (ra pe:Int) (sg:List D) (ru:Bool) (si:Int) (q ct cd cg cm c n d a p f:Int) (l:List Int) (lo mi:Int) (hs:ZhD s dd dm dl dt dj) (hv:ZgR bx ck cr mp cz ra pe sg):Spec Tryz.prog 0 114 [.agg [.d (.int .u64 di),.d (.str s),.d (.int .i64 dd),.d (.int .i64 dm),.d (.int .i64 dl),.d (.int .i64 dt),.d (.int .i64 dj),.d (.list bx),.d (.int .i64 ck),.d (.int .i64 cr),.d (.list (LI .i64 mp)),.d (.int .i64 cz),.d (.int .i64 ra),.d (.int .i64 pe),.d (.list sg),.d (.bool ru),.d (.int .i64 si),.d (.int .i64 q),.d (.int .i64 ct),.d (.int .i64 cd),.d (.int .i64 cg),.d (.int .i64 cm),.d (.int .i64 c),.d (.int .i64 n),.d (.int .i64 d),.d (.int .i64 a),.d (.int .i64 p),.d (.int .i64 f),.d (.list (LI .i32 l)),.d (.int .i64 lo),.d (.int .i64 mi)]] [] [] (.agg [.d (.int .i64 16),.d (.int .i64 1)]) [] []:=by
 refine sE (md:=fun _=>0) (L:=[(187,ZfM),(108,ZdC)]) [(3,[0,0,0,0,0,134105167,0,0,0,0,0,126879823,0,0,0,0,0,67108943,0])] 79 (Za Zhv (Za Zh6 Zb)) Tryz.func114 rfl rfl rfl ?_
 obtain ⟨rfl,hch,rfl,rfl,rfl,rfl,rfl,rfl⟩:=hv
 simp (maxSteps:=1000000) only [↓Zn,Ze,Zd,Zm,gSt,gS0,Ya,Yb,↓reduceIte,reduceCtorEq,Yc,Yd,Ye,Yf,Yg,Yj,Yk,Yl,Ym,Yn,Zhu,Zh5,gE1,gE2,Tryz.ntmps114,Tryz.results114,gTT]
 exact fun _=>⟨.inr (by decide),by decide⟩
def Zo5:List V→Zf→Zr→Name→Option Ent
 | [.agg [.d (.int .u64 di),.d (.str s),.d (.int .i64 dd),.d (.int .i64 dm),.d (.int .i64 dl),.d (.int .i64 dt),.d (.int .i64 dj),.d (.list bx),.d (.int .i64 ck),.d (.int .i64 cr),.d (.list q_mp),.d (.int .i64 cz),.d (.int .i64 ra),.d (.int .i64 pe),.d (.list sg),.d (.bool ru),.d (.int .i64 si),.d (.int .i64 q),.d (.int .i64 ct),.d (.int .i64 cd),.d (.int .i64 cg),.d (.int .i64 cm),.d (.int .i64 c),.d (.int .i64 n),.d (.int .i64 d),.d (.int .i64 a),.d (.int .i64 p),.d (.int .i64 f),.d (.list q_l),.d (.int .i64 lo),.d (.int .i64 mi)]],[],[],_=>some ⟨ZhD s dd dm dl dt dj∧ZgR bx ck cr (Zc q_mp) cz ra pe sg∧q_mp=LI .i64 (Zc q_mp)∧q_l=LI .i32 (Zc q_l),.agg [.d (.int .i64 16),.d (.int .i64 1)],[],[]⟩
 | _,_,_,_=>none
def Zze:=And.intro (@Zo5.eq_1) (@Zo5.eq_1)
theorem Zzf:Snd Tryz.prog 114 Zo5:=by
 intro vs b k n e h hn hp
 unfold Zo5 at h
 split at h
 ·cases h; obtain ⟨hp0,hp1,hq0,hq1⟩:=hp; obtain ⟨_,rfl⟩:=Zq hq0; obtain ⟨_,rfl⟩:=Zq hq1; simp only [Zi,Zo,Zj,Zp] at hp0 hp1 ⊢; exact (ZCo _ _ _ _ _ _ _ _ _ _ _ _ _ _ _ _ _ _ _ _ _ _ _ _ _ _ _ _ _ _ _ hp0 hp1).lift rfl _
 ·cases h
theorem ZCp (di:Int) (s:ByteArray) (dd dm dl dt dj:Int) (bx:List D) (ck cr:Int) (mp:List Int) (cz:Int) (ra pe:Int) (sg:List D) (ru:Bool) (si:Int) (q ct cd cg cm c n d a p f:Int) (l:List Int) (lo mi:Int) (hs:ZhD s dd dm dl dt dj) (hv:ZgR bx ck cr mp cz ra pe sg):Spec Tryz.prog 0 117 [.agg [.d (.int .u64 di),.d (.str s),.d (.int .i64 dd),.d (.int .i64 dm),.d (.int .i64 dl),.d (.int .i64 dt),.d (.int .i64 dj),.d (.list bx),.d (.int .i64 ck),.d (.int .i64 cr),.d (.list (LI .i64 mp)),.d (.int .i64 cz),.d (.int .i64 ra),.d (.int .i64 pe),.d (.list sg),.d (.bool ru),.d (.int .i64 si),.d (.int .i64 q),.d (.int .i64 ct),.d (.int .i64 cd),.d (.int .i64 cg),.d (.int .i64 cm),.d (.int .i64 c),.d (.int .i64 n),.d (.int .i64 d),.d (.int .i64 a),.d (.int .i64 p),.d (.int .i64 f),.d (.list (LI .i32 l)),.d (.int .i64 lo),.d (.int .i64 mi)]] [] [] (vI .i64 1) [] []:=by
 refine sE (md:=fun _=>0) (L:=[(187,ZfM),(120,ZfL),(115,ZdA)]) [(3,[0,0,0,0,0,8003727,0,0,0,0,0,0])] 143 (Za Zhv (Za Zht (Za Zh4 Zb))) Tryz.func117 rfl rfl rfl ?_
 simp (maxSteps:=1000000) only [↓Zn,Ze,Zd,Zm,gSt,gS0,Ya,Yb,↓reduceIte,reduceCtorEq,Yc,Yd,Ye,Yf,Yg,Yj,Yk,Yl,Ym,Yn,Zhu,Zhs,Zh3,gE1,gE2,Tryz.ntmps117,Tryz.results117,gTT]
 have h:=hs
 obtain ⟨_,_,_,_,_,h0⟩:=h
 subst h0
 exact ⟨fun _=>by decide,fun _=>⟨by kernel_rfl,⟨hs,hv⟩,⟨by decide,by decide⟩,by decide⟩⟩
def Zo6:List V→Zf→Zr→Name→Option Ent
 | [.agg [.d (.int .u64 di),.d (.str s),.d (.int .i64 dd),.d (.int .i64 dm),.d (.int .i64 dl),.d (.int .i64 dt),.d (.int .i64 dj),.d (.list bx),.d (.int .i64 ck),.d (.int .i64 cr),.d (.list q_mp),.d (.int .i64 cz),.d (.int .i64 ra),.d (.int .i64 pe),.d (.list sg),.d (.bool ru),.d (.int .i64 si),.d (.int .i64 q),.d (.int .i64 ct),.d (.int .i64 cd),.d (.int .i64 cg),.d (.int .i64 cm),.d (.int .i64 c),.d (.int .i64 n),.d (.int .i64 d),.d (.int .i64 a),.d (.int .i64 p),.d (.int .i64 f),.d (.list q_l),.d (.int .i64 lo),.d (.int .i64 mi)]],[],[],_=>some ⟨ZhD s dd dm dl dt dj∧ZgR bx ck cr (Zc q_mp) cz ra pe sg∧q_mp=LI .i64 (Zc q_mp)∧q_l=LI .i32 (Zc q_l),vI .i64 1,[],[]⟩
 | _,_,_,_=>none
def Zzg:=And.intro (@Zo6.eq_1) (@Zo6.eq_1)
theorem Zzh:Snd Tryz.prog 117 Zo6:=by
 intro vs b k n e h hn hp
 unfold Zo6 at h
 split at h
 ·cases h; obtain ⟨hp0,hp1,hq0,hq1⟩:=hp; obtain ⟨_,rfl⟩:=Zq hq0; obtain ⟨_,rfl⟩:=Zq hq1; simp only [Zi,Zo,Zj,Zp] at hp0 hp1 ⊢; exact (ZCp _ _ _ _ _ _ _ _ _ _ _ _ _ _ _ _ _ _ _ _ _ _ _ _ _ _ _ _ _ _ _ hp0 hp1).lift rfl _
 ·cases h
theorem ZCr (di:Int) (s:ByteArray) (dd dm dl dt dj:Int) (bx:List D) (ck cr:Int) (mp:List Int) (cz:Int) (ra pe:Int) (sg:List D) (ru:Bool) (si:Int) (q ct cd cg cm c n d a p f:Int) (l:List Int) (lo mi:Int) (hs:ZhD s dd dm dl dt dj) (hv:ZgR bx ck cr mp cz ra pe sg):Spec Tryz.prog 0 111 [.agg [.d (.int .u64 di),.d (.str s),.d (.int .i64 dd),.d (.int .i64 dm),.d (.int .i64 dl),.d (.int .i64 dt),.d (.int .i64 dj),.d (.list bx),.d (.int .i64 ck),.d (.int .i64 cr),.d (.list (LI .i64 mp)),.d (.int .i64 cz),.d (.int .i64 ra),.d (.int .i64 pe),.d (.list sg),.d (.bool ru),.d (.int .i64 si),.d (.int .i64 q),.d (.int .i64 ct),.d (.int .i64 cd),.d (.int .i64 cg),.d (.int .i64 cm),.d (.int .i64 c),.d (.int .i64 n),.d (.int .i64 d),.d (.int .i64 a),.d (.int .i64 p),.d (.int .i64 f),.d (.list (LI .i32 l)),.d (.int .i64 lo),.d (.int .i64 mi)]] [] [] (vB true) [] []:=by
 refine sE (md:=fun _=>0) (L:=[]) [(1,[0,0,0,0,0,33554311,0,0,0,0,0,33546247,0,0,0,0,0,33030151,0,0,0,0,0])] 7 Zb Tryz.func111 rfl rfl rfl ?_
 obtain ⟨rfl,hch,rfl,rfl,rfl,rfl,rfl,rfl⟩:=hv
 simp (maxSteps:=1000000) only [↓Zn,Ze,Zd,Zm,gSt,gS0,Ya,Yb,↓reduceIte,reduceCtorEq,Yc,Yd,Ye,Yf,Yg,Yj,Yk,Yl,Ym,Yn,gE1,gE2,Tryz.ntmps111,Tryz.results111,gTT]
def ZlN:List V→Zf→Zr→Name→Option Ent
 | [.agg [.d (.int .u64 di),.d (.str s),.d (.int .i64 dd),.d (.int .i64 dm),.d (.int .i64 dl),.d (.int .i64 dt),.d (.int .i64 dj),.d (.list bx),.d (.int .i64 ck),.d (.int .i64 cr),.d (.list q_mp),.d (.int .i64 cz),.d (.int .i64 ra),.d (.int .i64 pe),.d (.list sg),.d (.bool ru),.d (.int .i64 si),.d (.int .i64 q),.d (.int .i64 ct),.d (.int .i64 cd),.d (.int .i64 cg),.d (.int .i64 cm),.d (.int .i64 c),.d (.int .i64 n),.d (.int .i64 d),.d (.int .i64 a),.d (.int .i64 p),.d (.int .i64 f),.d (.list q_l),.d (.int .i64 lo),.d (.int .i64 mi)]],[],[],_=>some ⟨ZhD s dd dm dl dt dj∧ZgR bx ck cr (Zc q_mp) cz ra pe sg∧q_mp=LI .i64 (Zc q_mp)∧q_l=LI .i32 (Zc q_l),vB true,[],[]⟩
 | _,_,_,_=>none
def Zo9:=And.intro (@ZlN.eq_1) (@ZlN.eq_1)
theorem Zpa:Snd Tryz.prog 111 ZlN:=by
 intro vs b k n e h hn hp
 unfold ZlN at h
 split at h
 ·cases h; obtain ⟨hp0,hp1,hq0,hq1⟩:=hp; obtain ⟨_,rfl⟩:=Zq hq0; obtain ⟨_,rfl⟩:=Zq hq1; simp only [Zi,Zo,Zj,Zp] at hp0 hp1 ⊢; exact (ZCr _ _ _ _ _ _ _ _ _ _ _ _ _ _ _ _ _ _ _ _ _ _ _ _ _ _ _ _ _ _ _ hp0 hp1).lift rfl _
 ·cases h
theorem ZtU (di:Int) (s:ByteArray) (dd dm dl dt dj:Int) (bx:List D) (ck cr:Int) (mp:List Int) (cz:Int) (ra pe:Int) (sg:List D) (ru:Bool) (si:Int) (q ct cd cg cm c n d a p f:Int) (l:List Int) (lo mi:Int) (hs:ZhD s dd dm dl dt dj) (hv:ZgR bx ck cr mp cz ra pe sg) (hb:brV ⟨q,⟨ct,cd,cg,cm⟩,⟨c,⟨n,d,a,p,f⟩,l⟩,lo,mi⟩=true) (hl:l.length≤1000000) (hc:c=mp.length∧n=1∧d=1) (hsi:0≤si∧si≤1099511627776):Spec Tryz.prog 0 133 [.agg [.d (.int .u64 di),.d (.str s),.d (.int .i64 dd),.d (.int .i64 dm),.d (.int .i64 dl),.d (.int .i64 dt),.d (.int .i64 dj),.d (.list bx),.d (.int .i64 ck),.d (.int .i64 cr),.d (.list (LI .i64 mp)),.d (.int .i64 cz),.d (.int .i64 ra),.d (.int .i64 pe),.d (.list sg),.d (.bool ru),.d (.int .i64 si),.d (.int .i64 q),.d (.int .i64 ct),.d (.int .i64 cd),.d (.int .i64 cg),.d (.int .i64 cm),.d (.int .i64 c),.d (.int .i64 n),.d (.int .i64 d),.d (.int .i64 a),.d (.int .i64 p),.d (.int .i64 f),.d (.list (LI .i32 l)),.d (.int .i64 lo),.d (.int .i64 mi)]] [] [] (vB true) [] []:=by
 refine sE (md:=fun _=>0) (L:=[(109,Zdp),(112,Zhi),(111,ZlN),(110,ZbY),(54,ZbJ),(119,ZdZ),(120,ZfL)]) [(1,[0,0,0,0,0,73786976294838206343,0,0,0,0,0,73786976294838192263,0,0,0,0,0,73786976294837157895,0,0,0,0,0,73786976294771097607,0,0,0,0,0,73786976290543239175,0,0,0,0,0,73786976019960299527,0,0,0,0,0,73786958702652162055,0,0,0,0,0,73785885579303452679,0,0,0,0,0,73750947497819242503,0,0,0,0,0,71517162082643476487,0,0,0,0])] 7 (Za ZhS (Za Zly (Za Zpa (Za ZdP (Za Zcb (Za ZfO (Za Zht Zb))))))) Tryz.func133 rfl rfl rfl ?_
 simp (maxSteps:=1000000) only [↓Zn,Ze,Zd,Zm,gSt,gS0,Ya,Yb,↓reduceIte,reduceCtorEq,Yc,Yd,Ye,Yf,Yg,Yj,Yk,Yl,Ym,Yn,ZhR,Zlx,Zo9,ZdO,Zca,ZfN,Zhs,gE1,gE2,Tryz.ntmps133,Tryz.results133,gTT]
 have h:=hv
 obtain ⟨h1,h2,h3,h4,h5,h6,h7,h8⟩:=h
 refine ⟨by kernel_rfl,⟨hs,mp,h1,h2⟩,⟨h1,h2,h3,h4,h5⟩,⟨hs,hv⟩,h8,fun _=>hl,fun _=>⟨hs,hv⟩,?_⟩
 rw [hb,decide_eq_true hsi.1,decide_eq_true hsi.2,hc.1,hc.2.1,hc.2.2]
 simp
def Zfo:List V→Zf→Zr→Name→Option Ent
 | [.agg [.d (.int .u64 di),.d (.str s),.d (.int .i64 dd),.d (.int .i64 dm),.d (.int .i64 dl),.d (.int .i64 dt),.d (.int .i64 dj),.d (.list bx),.d (.int .i64 ck),.d (.int .i64 cr),.d (.list q_mp),.d (.int .i64 cz),.d (.int .i64 ra),.d (.int .i64 pe),.d (.list sg),.d (.bool ru),.d (.int .i64 si),.d (.int .i64 q),.d (.int .i64 ct),.d (.int .i64 cd),.d (.int .i64 cg),.d (.int .i64 cm),.d (.int .i64 c),.d (.int .i64 n),.d (.int .i64 d),.d (.int .i64 a),.d (.int .i64 p),.d (.int .i64 f),.d (.list q_l),.d (.int .i64 lo),.d (.int .i64 mi)]],[],[],_=>some ⟨ZhD s dd dm dl dt dj∧ZgR bx ck cr (Zc q_mp) cz ra pe sg∧brV ⟨q,⟨ct,cd,cg,cm⟩,⟨c,⟨n,d,a,p,f⟩,(Zc q_l)⟩,lo,mi⟩=true∧(Zc q_l).length≤1000000∧(c=(Zc q_mp).length∧n=1∧d=1)∧(0≤si∧si≤1099511627776)∧q_mp=LI .i64 (Zc q_mp)∧q_l=LI .i32 (Zc q_l),vB true,[],[]⟩
 | _,_,_,_=>none
def Zj2:=And.intro (@Zfo.eq_1) (@Zfo.eq_1)
theorem Zj3:Snd Tryz.prog 133 Zfo:=by
 intro vs b k n e h hn hp
 unfold Zfo at h
 split at h
 ·cases h; obtain ⟨hp0,hp1,hp2,hp3,hp4,hp5,hq0,hq1⟩:=hp; obtain ⟨_,rfl⟩:=Zq hq0; obtain ⟨_,rfl⟩:=Zq hq1; simp only [Zi,Zo,Zj,Zp] at hp0 hp1 hp2 hp3 hp4 hp5 ⊢; exact (ZtU _ _ _ _ _ _ _ _ _ _ _ _ _ _ _ _ _ _ _ _ _ _ _ _ _ _ _ _ _ _ _ hp0 hp1 hp2 hp3 hp4 hp5).lift rfl _
 ·cases h
theorem ZqI (di:Int) (s:ByteArray) (dd dm dl dt dj:Int) (bx:List D) (ck cr:Int) (mp:List Int) (cz:Int) (ra pe:Int) (sg:List D) (ru:Bool) (si:Int) (q ct cd cg cm c n d a p f:Int) (l:List Int) (lo mi:Int) (hs:ZhD s dd dm dl dt dj) (hv:ZgR bx ck cr mp cz ra pe sg) (hb:brV ⟨q,⟨ct,cd,cg,cm⟩,⟨c,⟨n,d,a,p,f⟩,l⟩,lo,mi⟩=true) (hl:l.length≤1000000) (hc:c=mp.length∧n=1∧d=1) (hsi:0≤si∧si≤1099511627776):Spec Tryz.prog 0 121 [.agg [.d (.int .u64 di),.d (.str s),.d (.int .i64 dd),.d (.int .i64 dm),.d (.int .i64 dl),.d (.int .i64 dt),.d (.int .i64 dj),.d (.list bx),.d (.int .i64 ck),.d (.int .i64 cr),.d (.list (LI .i64 mp)),.d (.int .i64 cz),.d (.int .i64 ra),.d (.int .i64 pe),.d (.list sg),.d (.bool ru),.d (.int .i64 si),.d (.int .i64 q),.d (.int .i64 ct),.d (.int .i64 cd),.d (.int .i64 cg),.d (.int .i64 cm),.d (.int .i64 c),.d (.int .i64 n),.d (.int .i64 d),.d (.int .i64 a),.d (.int .i64 p),.d (.int .i64 f),.d (.list (LI .i32 l)),.d (.int .i64 lo),.d (.int .i64 mi)]] [] [] (vB true) [] []:=by
 refine sE (md:=fun _=>0) (L:=[(133,Zfo)]) [] 7 (Za Zj3 Zb) Tryz.func121 rfl rfl rfl ?_
 simp (maxSteps:=1000000) only [↓Zn,Ze,Zd,Zm,gSt,gS0,Ya,Yb,↓reduceIte,reduceCtorEq,Yc,Yd,Ye,Yf,Yg,Yj,Yk,Yl,Ym,Yn,Zj2,gE1,gE2,Tryz.ntmps121,Tryz.results121,gTT]
 exact ⟨hs,hv,hb,hl,hc,hsi⟩
def Zdq:List V→Zf→Zr→Name→Option Ent
 | [.agg [.d (.int .u64 di),.d (.str s),.d (.int .i64 dd),.d (.int .i64 dm),.d (.int .i64 dl),.d (.int .i64 dt),.d (.int .i64 dj),.d (.list bx),.d (.int .i64 ck),.d (.int .i64 cr),.d (.list q_mp),.d (.int .i64 cz),.d (.int .i64 ra),.d (.int .i64 pe),.d (.list sg),.d (.bool ru),.d (.int .i64 si),.d (.int .i64 q),.d (.int .i64 ct),.d (.int .i64 cd),.d (.int .i64 cg),.d (.int .i64 cm),.d (.int .i64 c),.d (.int .i64 n),.d (.int .i64 d),.d (.int .i64 a),.d (.int .i64 p),.d (.int .i64 f),.d (.list q_l),.d (.int .i64 lo),.d (.int .i64 mi)]],[],[],_=>some ⟨ZhD s dd dm dl dt dj∧ZgR bx ck cr (Zc q_mp) cz ra pe sg∧brV ⟨q,⟨ct,cd,cg,cm⟩,⟨c,⟨n,d,a,p,f⟩,(Zc q_l)⟩,lo,mi⟩=true∧(Zc q_l).length≤1000000∧(c=(Zc q_mp).length∧n=1∧d=1)∧(0≤si∧si≤1099511627776)∧q_mp=LI .i64 (Zc q_mp)∧q_l=LI .i32 (Zc q_l),vB true,[],[]⟩
 | _,_,_,_=>none
def ZhT:=And.intro (@Zdq.eq_1) (@Zdq.eq_1)
theorem ZhU:Snd Tryz.prog 121 Zdq:=by
 intro vs b k n e h hn hp
 unfold Zdq at h
 split at h
 ·cases h; obtain ⟨hp0,hp1,hp2,hp3,hp4,hp5,hq0,hq1⟩:=hp; obtain ⟨_,rfl⟩:=Zq hq0; obtain ⟨_,rfl⟩:=Zq hq1; simp only [Zi,Zo,Zj,Zp] at hp0 hp1 hp2 hp3 hp4 hp5 ⊢; exact (ZqI _ _ _ _ _ _ _ _ _ _ _ _ _ _ _ _ _ _ _ _ _ _ _ _ _ _ _ _ _ _ _ hp0 hp1 hp2 hp3 hp4 hp5).lift rfl _
 ·cases h
end Go.Vam
end
