/- A part of the proof. Conditions: none. -/
import Derived.Test.YtmpbpijnbmpbhaaGreatSDg
section
set_option linter.unusedVariables false
set_option linter.defProp false
set_option linter.unusedSimpArgs false
set_option maxRecDepth 40000
set_option maxHeartbeats 4000000
namespace Go.Vam
open Go.Proofs
open Nat renaming reduceShiftRight→Ya,reduceMod→Yb,reduceEqDiff→Yc,reduceLT→Yd,reduceLeDiff→Ye,reduceAdd→Yf,reduceMul→Yg
open Int renaming reduceLE→Yj,reduceLT→Yk,reduceNeg→Yl,reduceAdd→Ym,reduceToNat→Yn,reduceSub→Yo
theorem Zm9 (bk:Int) (q1:List D) (mm:Lss) (q2:List D) (hk:bk=4) (h1:q1=spanL) (h2:q2=spanL) (hm:mm=[mm.headD []]) (hc:chV (mm.headD [])=true):Spec Tryz.prog 0 231 [.agg [.d (.int .i64 bk),.d (.list q1),.d (.list (LL .i64 mm)),.d (.list q2)]] [] [] (vB false) [] []:=by
 refine sE (md:=fun _=>0) (L:=[(232,Zgq)]) [] 7 (Za Zrn Zb) Tryz.func231 rfl rfl rfl ?_
 simp (maxSteps:=1000000) only [↓Zo,Ze,Zd,Zn,gSt,gS0,Ya,Yb,↓reduceIte,reduceCtorEq,Yc,Yd,Ye,Yf,Yg,Yj,Yk,Yl,Ym,Yn,Zrm,gE1,gE2,Tryz.ntmps231,Tryz.results231,gTT]
 exact ⟨hk,h1,h2,hm,hc⟩
def Zdh:List V→Zf→Zw→Name→Option Ent
 | [.agg [.d (.int .i64 bk),.d (.list q1),.d (.list q_mm),.d (.list q2)]],[],[],_=>some ⟨bk=4∧q1=spanL∧q2=spanL∧(lls q_mm)=[(lls q_mm).headD []]∧chV ((lls q_mm).headD [])=true∧q_mm=LL .i64 (lls q_mm),vB false,[],[]⟩
 | _,_,_,_=>none
def Zcn:=And.intro (@Zdh.eq_1) (@Zdh.eq_1)
theorem Zmi:Snd Tryz.prog 231 Zdh:=by
 intro vs b k n e h hn hp
 unfold Zdh at h
 split at h
 ·cases h; obtain ⟨hp0,hp1,hp2,hp3,hp4,hq0⟩:=hp; obtain ⟨_,rfl⟩:=ZrQ hq0; simp only [Zi,Zp,Zj,Zq] at hp0 hp1 hp2 hp3 hp4 ⊢; exact (Zm9 _ _ _ _ hp0 hp1 hp2 hp3 hp4).lift rfl _
 ·cases h
theorem Zsl (bx:List D) (hx:ZjX bx):Spec Tryz.prog 0 233 [vL bx,.c (.fn 231 [])] [] [] (vI .i64 (-1)) [] []:=by
 refine sE (md:=fun _=>0) (L:=[(231,Zdh)]) [] 66483 (Za Zmi Zb) Tryz.func233 rfl rfl rfl ?_
 obtain ⟨m,rfl,hc⟩:=hx
 unfold ZqQ ZKv
 simp (maxSteps:=1000000) only [↓Zo,Ze,Zd,Zn,gSt,gS0,Ya,Yb,↓reduceIte,reduceCtorEq,Yc,Yd,Ye,Yf,Yg,Yj,Yk,Yl,Ym,Yn,Zcn,gE1,gE2,Int.natCast_zero,Int.natCast_one,Int.cast_ofNat_Int,Yo,Tryz.ntmps233,Tryz.results233,gTT]
 refine Zl (fun g:Nat=>⟨[(8,vI .i64 (g:Nat))],[],[]⟩) (fun g=>g≤1) (fun g=>1 - g) (·+1) 0 (by decide) ?_ ?_
 ·simp (maxSteps:=1000000) only [↓Zo,Ze,Zd,Zn,gSt,gS0,Ya,Yb,↓reduceIte,reduceCtorEq,Yc,Yd,Ye,Yf,Yg,Yj,Yk,Yl,Ym,Yn,Zcn,gE1,gE2,Int.natCast_zero,Int.natCast_one,Int.cast_ofNat_Int,Yo,Tryz.ntmps233,Tryz.results233,gTT]
  all_goals rfl
 intro g hg
 rcases (by omega:g=0∨g=1) with rfl | rfl
 ·simp (maxSteps:=1000000) only [↓Zo,Ze,Zd,Zn,gSt,gS0,Ya,Yb,↓reduceIte,reduceCtorEq,Yc,Yd,Ye,Yf,Yg,Yj,Yk,Yl,Ym,Yn,Zcn,gE1,gE2,Int.natCast_zero,Int.natCast_one,Int.cast_ofNat_Int,Yo,Tryz.ntmps233,Tryz.results233,gTT]
  exact ⟨⟨rfl,hc⟩,rfl,by decide⟩
 ·simp (maxSteps:=1000000) only [↓Zo,Ze,Zd,Zn,gSt,gS0,Ya,Yb,↓reduceIte,reduceCtorEq,Yc,Yd,Ye,Yf,Yg,Yj,Yk,Yl,Ym,Yn,Zcn,gE1,gE2,Int.natCast_zero,Int.natCast_one,Int.cast_ofNat_Int,Yo,Tryz.ntmps233,Tryz.results233,gTT]
  all_goals skip
def Zf6:List V→Zf→Zw→Name→Option Ent
 | [.c (.d (.list bx)),.c (.fn 231 [])],[],[],_=>some ⟨ZjX bx,vI .i64 (-1),[],[]⟩
 | _,_,_,_=>none
def ZqV:=And.intro (@Zf6.eq_1) (@Zf6.eq_1)
theorem ZqW:Snd Tryz.prog 233 Zf6:=by
 intro vs b k n e h hn hp
 unfold Zf6 at h
 split at h
 ·cases h; have hp0:=hp; exact (Zsl _ hp0).lift rfl _
 ·cases h
theorem ZpU (bx:List D) (hx:ZjX bx):Spec Tryz.prog 0 181 [vL bx,.c (.fn 231 [])] [] [] (vB false) [] []:=by
 refine sE (md:=fun _=>0) (L:=[(233,Zf6)]) [] 19 (Za ZqW Zb) Tryz.func181 rfl rfl rfl ?_
 simp (maxSteps:=1000000) only [↓Zo,Ze,Zd,Zn,gSt,gS0,Ya,Yb,↓reduceIte,reduceCtorEq,Yc,Yd,Ye,Yf,Yg,Yj,Yk,Yl,Ym,Yn,ZqV,gE1,gE2,Tryz.ntmps181,Tryz.results181,gTT]
 exact hx
def Zee:List V→Zf→Zw→Name→Option Ent
 | [.c (.d (.list bx)),.c (.fn 231 [])],[],[],_=>some ⟨ZjX bx,vB false,[],[]⟩
 | _,_,_,_=>none
def Znw:=And.intro (@Zee.eq_1) (@Zee.eq_1)
theorem Znx:Snd Tryz.prog 181 Zee:=by
 intro vs b k n e h hn hp
 unfold Zee at h
 split at h
 ·cases h; have hp0:=hp; exact (ZpU _ hp0).lift rfl _
 ·cases h
theorem Zqc (bx:List D) (hx:ZjX bx):Spec Tryz.prog 0 179 [vL bx] [] [] (vB true) [] []:=by
 refine sE (md:=fun _=>0) (L:=[(181,Zee)]) [] 5 (Za Znx Zb) Tryz.func179 rfl rfl rfl ?_
 simp (maxSteps:=1000000) only [↓Zo,Ze,Zd,Zn,gSt,gS0,Ya,Yb,↓reduceIte,reduceCtorEq,Yc,Yd,Ye,Yf,Yg,Yj,Yk,Yl,Ym,Yn,Znw,gE1,gE2,Tryz.ntmps179,Tryz.results179,gTT]
 obtain ⟨m,rfl,hc⟩:=hx
 exact ⟨fun _=>⟨m,rfl,hc⟩,rfl⟩
def Zdg:List V→Zf→Zw→Name→Option Ent
 | [.c (.d (.list bx))],[],[],_=>some ⟨ZjX bx,vB true,[],[]⟩
 | _,_,_,_=>none
def ZhU:=And.intro (@Zdg.eq_1) (@Zdg.eq_1)
theorem ZhV:Snd Tryz.prog 179 Zdg:=by
 intro vs b k n e h hn hp
 unfold Zdg at h
 split at h
 ·cases h; have hp0:=hp; exact (Zqc _ hp0).lift rfl _
 ·cases h
theorem ZsL (bx:List D) (hx:ZjX bx):Spec Tryz.prog 0 182 [vL bx] [] [] (vL bx) [] []:=by
 refine sE (md:=fun _=>0) (L:=[(179,Zdg)]) [] 37 (Za ZhV Zb) Tryz.func182 rfl rfl rfl ?_
 simp (maxSteps:=1000000) only [↓Zo,Ze,Zd,Zn,gSt,gS0,Ya,Yb,↓reduceIte,reduceCtorEq,Yc,Yd,Ye,Yf,Yg,Yj,Yk,Yl,Ym,Yn,ZhU,gE1,gE2,Tryz.ntmps182,Tryz.results182,gTT]
 exact hx
def Zgr:List V→Zf→Zw→Name→Option Ent
 | [.c (.d (.list bx))],[],[],_=>some ⟨ZjX bx,vL bx,[],[]⟩
 | _,_,_,_=>none
def Zro:=And.intro (@Zgr.eq_1) (@Zgr.eq_1)
theorem Zrp:Snd Tryz.prog 182 Zgr:=by
 intro vs b k n e h hn hp
 unfold Zgr at h
 split at h
 ·cases h; have hp0:=hp; exact (ZsL _ hp0).lift rfl _
 ·cases h
theorem ZwG (bk:Int) (q1:List D) (mm:Lss) (q2:List D) (x:Int) (hk:bk=4) (hx:x=2):Spec Tryz.prog 0 184 [.agg [.d (.int .i64 bk),.d (.list q1),.d (.list (LL .i64 mm)),.d (.list q2)],vI .i64 x] [] [] (vB true) [] []:=by
 refine sE (md:=fun _=>0) (L:=[]) [(1,[0,0,0,0,0,523287,0,0,0,0,0,460823,0,0,0])] 23 Zb Tryz.func184 rfl rfl rfl ?_
 subst hk hx
 simp (maxSteps:=1000000) only [↓Zo,Ze,Zd,Zn,gSt,gS0,Ya,Yb,↓reduceIte,reduceCtorEq,Yc,Yd,Ye,Yf,Yg,Yj,Yk,Yl,Ym,Yn,gE1,gE2,Tryz.ntmps184,Tryz.results184,gTT]
 decide +kernel
def Zja:List V→Zf→Zw→Name→Option Ent
 | [.agg [.d (.int .i64 bk),.d (.list q1),.d (.list q_mm),.d (.list q2)],.c (.d (.int .i64 x))],[],[],_=>some ⟨bk=4∧x=2∧q_mm=LL .i64 (lls q_mm),vB true,[],[]⟩
 | _,_,_,_=>none
def Zvh:=And.intro (@Zja.eq_1) (@Zja.eq_1)
theorem Zvi:Snd Tryz.prog 184 Zja:=by
 intro vs b k n e h hn hp
 unfold Zja at h
 split at h
 ·cases h; obtain ⟨hp0,hp1,hq0⟩:=hp; obtain ⟨_,rfl⟩:=ZrQ hq0; simp only [Zi,Zp,Zj,Zq] at hp0 hp1 ⊢; exact (ZwG _ _ _ _ _ hp0 hp1).lift rfl _
 ·cases h
theorem ZAR (bk:Int) (q1:List D) (mm:Lss) (q2:List D) (ck cr:Int) (mp:List Int) (cz:Int) (hk:bk=4) (h1:q1=spanL) (h2:q2=spanL) (hck:ck=2) (hcr:cr=48000) (hcz:cz=48000) (hmp:mm=[mp]) (hl:mp.length≤1000000):Spec Tryz.prog 0 183 [.agg [.d (.int .i64 bk),.d (.list q1),.d (.list (LL .i64 mm)),.d (.list q2)],.c (.lp ⟨0,0⟩ 0)] [(⟨0,0⟩,[.d (.int .i64 ck),.d (.int .i64 cr),.d (.list (LI .i64 mp)),.d (.int .i64 cz)])] [] (vB true) [(⟨0,0⟩,[.d (.int .i64 ck),.d (.int .i64 cr),.d (.list (LI .i64 mp)),.d (.int .i64 cz)])] []:=by
 refine spec_of_E (X:=⟨Tryz.prog,tt,Tryz.f183.ntmps,1,fun _=>0,(tab [(184,Zja),(185,Zi4),(186,Zlk)])⟩) (M:=[(1,[0,0,0,0,0,4294966799,0,0,0,0,0,4294935055,0,0,0,0,0,4293525519,0,0,0,0,0,4194304015,0,0,0,0,0])]) (m:=15) rfl rfl ⟨Zah,ZU (Za Zvi (Za Zva (Za Zn3 Zb))) _ rfl rfl⟩ ZB Tryz.func183 rfl (by decide) (by show (2:Nat)≤_; exact Nat.le_of_ble_eq_true rfl) ⟨by simp [V.has,C.has,ZH],by simp [C.has],by simp⟩ ?_
 simp (maxSteps:=1000000) only [↓Zo,Ze,Zd,Zn,gSt,gS0,Ya,Yb,↓reduceIte,reduceCtorEq,Yc,Yd,Ye,Yf,Yg,Yj,Yk,Yl,Ym,Yn,Zvh,Zu9,Zeu,gE1,gE2,Tryz.ntmps183,Tryz.results183,gTT]
 exact ⟨⟨hk,hck⟩,⟨h1,hcr⟩,⟨.inr hmp,hl⟩,fun _=>⟨h2,hcz⟩,by rw [hmp]; rfl⟩
def Zn4:List V→Zf→Zw→Name→Option Ent
 | [.agg [.d (.int .i64 bk),.d (.list q1),.d (.list q_mm),.d (.list q2)],.c (.lp n0 0)],[(m0,[.d (.int .i64 ck),.d (.int .i64 cr),.d (.list q_mp),.d (.int .i64 cz)])],[],_=>some ⟨bk=4∧q1=spanL∧q2=spanL∧ck=2∧cr=48000∧cz=48000∧(lls q_mm)=[(Zc q_mp)]∧(Zc q_mp).length≤1000000∧n0.lv≤1∧m0=n0∧q_mm=LL .i64 (lls q_mm)∧q_mp=LI .i64 (Zc q_mp),vB true,[(n0,[.d (.int .i64 ck),.d (.int .i64 cr),.d (.list (LI .i64 (Zc q_mp))),.d (.int .i64 cz)])],[]⟩
 | _,_,_,_=>none
def Zi9:=And.intro (@Zn4.eq_1) (@Zn4.eq_1)
theorem ZxO:Snd Tryz.prog 183 Zn4:=by
 intro vs b k n e h hn hp
 unfold Zn4 at h
 split at h
 ·cases h; obtain ⟨hp0,hp1,hp2,hp3,hp4,hp5,hp6,hp7,hl0,rfl,hq0,hq1⟩:=hp; obtain ⟨_,rfl⟩:=ZrQ hq0; obtain ⟨_,rfl⟩:=Zu hq1; simp only [Zi,Zp,Zj,Zq] at hp0 hp1 hp2 hp3 hp4 hp5 hp6 hp7 ⊢; exact Spec.ren1 (ZAR _ _ _ _ _ _ _ _ hp0 hp1 hp2 hp3 hp4 hp5 hp6 hp7) 0 (by simp [Zbi,V.names,C.names,ZS,ZT,ZH]) hl0
 ·cases h
theorem Zsk (bx:List D) (ck cr:Int) (mp:List Int) (cz:Int) (hx:bx=ZqQ mp) (hl:mp.length≤1000000) (hck:ck=2) (hcr:cr=48000) (hcz:cz=48000):Spec Tryz.prog 0 233 [vL bx,.c (.fn 183 [(⟨0,0⟩,0)])] [(⟨0,0⟩,[.d (.int .i64 ck),.d (.int .i64 cr),.d (.list (LI .i64 mp)),.d (.int .i64 cz)])] [] (vI .i64 0) [(⟨0,0⟩,[.d (.int .i64 ck),.d (.int .i64 cr),.d (.list (LI .i64 mp)),.d (.int .i64 cz)])] []:=by
 refine spec_of_E (X:=⟨Tryz.prog,tt,Tryz.f233.ntmps,1,fun _=>0,(tab [(183,Zn4)])⟩) (M:=[]) (m:=66483) rfl rfl ⟨Zah,ZU (Za ZxO Zb) _ rfl rfl⟩ ZB Tryz.func233 rfl (by decide) (by show (2:Nat)≤_; exact Nat.le_of_ble_eq_true rfl) ⟨by simp [V.has,C.has,ZH],by simp [C.has],by simp⟩ ?_
 subst hx
 unfold ZqQ ZKv
 simp (maxSteps:=1000000) only [↓Zo,Ze,Zd,Zn,gSt,gS0,Ya,Yb,↓reduceIte,reduceCtorEq,Yc,Yd,Ye,Yf,Yg,Yj,Yk,Yl,Ym,Yn,Zi9,gE1,gE2,Int.natCast_zero,Int.natCast_one,Int.cast_ofNat_Int,Yo,Tryz.ntmps233,Tryz.results233,gTT]
 refine Zl (fun g:Nat=>⟨[(8,vI .i64 (g:Nat))],[],[]⟩) (fun g=>g≤0) (fun g=>1 - g) (·+1) 0 (by decide) ?_ ?_
 ·simp (maxSteps:=1000000) only [↓Zo,Ze,Zd,Zn,gSt,gS0,Ya,Yb,↓reduceIte,reduceCtorEq,Yc,Yd,Ye,Yf,Yg,Yj,Yk,Yl,Ym,Yn,Zi9,gE1,gE2,Int.natCast_zero,Int.natCast_one,Int.cast_ofNat_Int,Yo,Tryz.ntmps233,Tryz.results233,gTT]
  all_goals rfl
 intro g hg
 obtain rfl:g=0:=by omega
 simp (maxSteps:=1000000) only [↓Zo,Ze,Zd,Zn,gSt,gS0,Ya,Yb,↓reduceIte,reduceCtorEq,Yc,Yd,Ye,Yf,Yg,Yj,Yk,Yl,Ym,Yn,Zi9,gE1,gE2,Int.natCast_zero,Int.natCast_one,Int.cast_ofNat_Int,Yo,Tryz.ntmps233,Tryz.results233,gTT]
 exact ⟨hck,hcr,hcz,hl⟩
def Zf5:List V→Zf→Zw→Name→Option Ent
 | [.c (.d (.list bx)),.c (.fn 183 [(n0,0)])],[(m0,[.d (.int .i64 ck),.d (.int .i64 cr),.d (.list q_mp),.d (.int .i64 cz)])],[],_=>some ⟨bx=ZqQ (Zc q_mp)∧(Zc q_mp).length≤1000000∧ck=2∧cr=48000∧cz=48000∧n0.lv≤1∧m0=n0∧q_mp=LI .i64 (Zc q_mp),vI .i64 0,[(n0,[.d (.int .i64 ck),.d (.int .i64 cr),.d (.list (LI .i64 (Zc q_mp))),.d (.int .i64 cz)])],[]⟩
 | _,_,_,_=>none
def ZqT:=And.intro (@Zf5.eq_1) (@Zf5.eq_1)
theorem ZqU:Snd Tryz.prog 233 Zf5:=by
 intro vs b k n e h hn hp
 unfold Zf5 at h
 split at h
 ·cases h; obtain ⟨hp0,hp1,hp2,hp3,hp4,hl0,rfl,hq0⟩:=hp; obtain ⟨_,rfl⟩:=Zu hq0; simp only [Zi,Zp,Zj,Zq] at hp0 hp1 hp2 hp3 hp4 ⊢; exact Spec.ren1 (Zsk _ _ _ _ _ hp0 hp1 hp2 hp3 hp4) 0 (by simp [Zbi,V.names,C.names,ZS,ZT,ZH]) hl0
 ·cases h
theorem ZpT (bx:List D) (ck cr:Int) (mp:List Int) (cz:Int) (hx:bx=ZqQ mp) (hl:mp.length≤1000000) (hck:ck=2) (hcr:cr=48000) (hcz:cz=48000):Spec Tryz.prog 0 181 [vL bx,.c (.fn 183 [(⟨0,0⟩,0)])] [(⟨0,0⟩,[.d (.int .i64 ck),.d (.int .i64 cr),.d (.list (LI .i64 mp)),.d (.int .i64 cz)])] [] (vB true) [(⟨0,0⟩,[.d (.int .i64 ck),.d (.int .i64 cr),.d (.list (LI .i64 mp)),.d (.int .i64 cz)])] []:=by
 refine spec_of_E (X:=⟨Tryz.prog,tt,Tryz.f181.ntmps,1,fun _=>0,(tab [(233,Zf5)])⟩) (M:=[]) (m:=19) rfl rfl ⟨Zah,ZU (Za ZqU Zb) _ rfl rfl⟩ ZB Tryz.func181 rfl (by decide) (by show (2:Nat)≤_; exact Nat.le_of_ble_eq_true rfl) ⟨by simp [V.has,C.has,ZH],by simp [C.has],by simp⟩ ?_
 simp (maxSteps:=1000000) only [↓Zo,Ze,Zd,Zn,gSt,gS0,Ya,Yb,↓reduceIte,reduceCtorEq,Yc,Yd,Ye,Yf,Yg,Yj,Yk,Yl,Ym,Yn,ZqT,gE1,gE2,Tryz.ntmps181,Tryz.results181,gTT]
 exact ⟨hx,hl,hck,hcr,hcz⟩
def Zed:List V→Zf→Zw→Name→Option Ent
 | [.c (.d (.list bx)),.c (.fn 183 [(n0,0)])],[(m0,[.d (.int .i64 ck),.d (.int .i64 cr),.d (.list q_mp),.d (.int .i64 cz)])],[],_=>some ⟨bx=ZqQ (Zc q_mp)∧(Zc q_mp).length≤1000000∧ck=2∧cr=48000∧cz=48000∧n0.lv≤1∧m0=n0∧q_mp=LI .i64 (Zc q_mp),vB true,[(n0,[.d (.int .i64 ck),.d (.int .i64 cr),.d (.list (LI .i64 (Zc q_mp))),.d (.int .i64 cz)])],[]⟩
 | _,_,_,_=>none
def Znu:=And.intro (@Zed.eq_1) (@Zed.eq_1)
theorem Znv:Snd Tryz.prog 181 Zed:=by
 intro vs b k n e h hn hp
 unfold Zed at h
 split at h
 ·cases h; obtain ⟨hp0,hp1,hp2,hp3,hp4,hl0,rfl,hq0⟩:=hp; obtain ⟨_,rfl⟩:=Zu hq0; simp only [Zi,Zp,Zj,Zq] at hp0 hp1 hp2 hp3 hp4 ⊢; exact Spec.ren1 (ZpT _ _ _ _ _ hp0 hp1 hp2 hp3 hp4) 0 (by simp [Zbi,V.names,C.names,ZS,ZT,ZH]) hl0
 ·cases h
theorem ZwE (bx:List D) (ck cr:Int) (mp:List Int) (cz:Int) (hx:bx=ZqQ mp) (hc:chV mp=true) (hck:ck=2) (hcr:cr=48000) (hcz:cz=48000):Spec Tryz.prog 0 112 [vL bx,.agg [.d (.int .i64 ck),.d (.int .i64 cr),.d (.list (LI .i64 mp)),.d (.int .i64 cz)]] [] [] (vB true) [] []:=by
 refine sE (md:=fun _=>0) (L:=[(182,Zgr),(181,Zed)]) [] 27 (Za Zrp (Za Znv Zb)) Tryz.func112 rfl rfl rfl ?_
 simp (maxSteps:=1000000) only [↓Zo,Ze,Zd,Zn,gSt,gS0,Ya,Yb,↓reduceIte,reduceCtorEq,Yc,Yd,Ye,Yf,Yg,Yj,Yk,Yl,Ym,Yn,Zro,Znu,gE1,gE2,Tryz.ntmps112,Tryz.results112,gTT]
 refine ⟨⟨mp,hx,hc⟩,hx,?_,hck,hcr,hcz⟩
 simp only [chV,Bool.and_eq_true,decide_eq_true_eq] at hc
 omega
def Zhk:List V→Zf→Zw→Name→Option Ent
 | [.c (.d (.list bx)),.agg [.d (.int .i64 ck),.d (.int .i64 cr),.d (.list q_mp),.d (.int .i64 cz)]],[],[],_=>some ⟨bx=ZqQ (Zc q_mp)∧chV (Zc q_mp)=true∧ck=2∧cr=48000∧cz=48000∧q_mp=LI .i64 (Zc q_mp),vB true,[],[]⟩
 | _,_,_,_=>none
def Zli:=And.intro (@Zhk.eq_1) (@Zhk.eq_1)
theorem Zlj:Snd Tryz.prog 112 Zhk:=by
 intro vs b k n e h hn hp
 unfold Zhk at h
 split at h
 ·cases h; obtain ⟨hp0,hp1,hp2,hp3,hp4,hq0⟩:=hp; obtain ⟨_,rfl⟩:=Zu hq0; simp only [Zi,Zp,Zj,Zq] at hp0 hp1 hp2 hp3 hp4 ⊢; exact (ZwE _ _ _ _ _ hp0 hp1 hp2 hp3 hp4).lift rfl _
 ·cases h
end Go.Vam
end
section
set_option linter.unusedVariables false
set_option linter.defProp false
set_option linter.unusedSimpArgs false
set_option maxRecDepth 40000
set_option maxHeartbeats 4000000
namespace Go.Vam
open Go.Proofs
open Nat renaming reduceShiftRight→Ya,reduceMod→Yb,reduceEqDiff→Yc,reduceLT→Yd,reduceLeDiff→Ye,reduceAdd→Yf,reduceMul→Yg
open Int renaming reduceLE→Yj,reduceLT→Yk,reduceNeg→Yl,reduceAdd→Ym,reduceToNat→Yn,reduceSub→Yo
def ZhD (s:ByteArray) (dd dm dl dt dj:Int):Prop:=s=dacS∧(dd=1∨dd=2)∧dm=0∧dl=0∧dt=0∧dj=0
def ZgQ (bx:List D) (ck cr:Int) (mp:List Int) (cz ra pe:Int) (sg:List D):Prop:=bx=ZqQ mp∧chV mp=true∧ck=2∧cr=48000∧cz=48000∧ra=48000∧pe=16∧sg=ZpK
theorem Zj3 {m:List Int} (h:chV m=true):1≤m.length∧m.length≤8:=by
 simp only [chV,Bool.and_eq_true,decide_eq_true_eq] at h
 exact h.1
theorem Zp0 (di:Int) (s:ByteArray) (dd dm dl dt dj:Int) (bx:List D) (hs:ZhD s dd dm dl dt dj) (hx:ZjX bx):Spec Tryz.prog 0 109 [.agg [.d (.int .u64 di),.d (.str s),.d (.int .i64 dd),.d (.int .i64 dm),.d (.int .i64 dl),.d (.int .i64 dt),.d (.int .i64 dj),.d (.list bx)]] [] [] (vB true) [] []:=by
 refine sE (md:=fun _=>0) (L:=[(178,ZjL),(179,Zdg)]) [(12,[0,0,0,0,0,36011204832919567,0,0,0,0,0,34902897112121359,0,0,0,0])] 15 (Za ZvA (Za ZhV Zb)) Tryz.func109 rfl rfl rfl ?_
 obtain ⟨rfl,hd,rfl,rfl,rfl,rfl⟩:=hs
 obtain ⟨m,rfl,hc⟩:=hx
 simp (maxSteps:=1000000) only [↓Zo,Ze,Zd,Zn,gSt,gS0,Ya,Yb,↓reduceIte,reduceCtorEq,Yc,Yd,Ye,Yf,Yg,Yj,Yk,Yl,Ym,Yn,Zvz,ZhU,gE1,gE2,Tryz.ntmps109,Tryz.results109,gTT]
 rcases hd with rfl | rfl
 ·exact ⟨fun h=>absurd h (by decide),fun _=>⟨fun _=>⟨m,rfl,hc⟩,rfl⟩⟩
 ·exact ⟨fun _=>⟨fun h=>absurd h (by decide),fun _=>⟨fun _=>⟨m,rfl,hc⟩,rfl⟩⟩,fun _=>⟨fun _=>⟨m,rfl,hc⟩,rfl⟩⟩
def Zdc:List V→Zf→Zw→Name→Option Ent
 | [.agg [.d (.int .u64 di),.d (.str s),.d (.int .i64 dd),.d (.int .i64 dm),.d (.int .i64 dl),.d (.int .i64 dt),.d (.int .i64 dj),.d (.list bx)]],[],[],_=>some ⟨ZhD s dd dm dl dt dj∧ZjX bx,vB true,[],[]⟩
 | _,_,_,_=>none
def ZhM:=And.intro (@Zdc.eq_1) (@Zdc.eq_1)
theorem ZhN:Snd Tryz.prog 109 Zdc:=by
 intro vs b k n e h hn hp
 unfold Zdc at h
 split at h
 ·cases h; obtain ⟨hp0,hp1⟩:=hp; exact (Zp0 _ _ _ _ _ _ _ _ hp0 hp1).lift rfl _
 ·cases h
theorem Zm4 (rn rd:Int) (hr:rn=1∧rd=1):Spec Tryz.prog 0 180 [.agg [.d (.int .i64 rn),.d (.int .i64 rd)]] [] [] (vB true) [] []:=by
 refine sE (md:=fun _=>0) (L:=[(216,ZbE)]) [(1,[0,0,0,0,0,2096935,0,0,0,0,0,2088967,0,0,0,0,0,1048583,0])] 7 (Za Zcb Zb) Tryz.func180 rfl rfl rfl ?_
 obtain ⟨rfl,rfl⟩:=hr
 simp (maxSteps:=1000000) only [↓Zo,Ze,Zd,Zn,gSt,gS0,Ya,Yb,↓reduceIte,reduceCtorEq,Yc,Yd,Ye,Yf,Yg,Yj,Yk,Yl,Ym,Yn,Zca,gE1,gE2,Tryz.ntmps180,Tryz.results180,gTT]
 decide +kernel
def Zc8:List V→Zf→Zw→Name→Option Ent
 | [.agg [.d (.int .i64 rn),.d (.int .i64 rd)]],[],[],_=>some ⟨(rn=1∧rd=1),vB true,[],[]⟩
 | _,_,_,_=>none
def Zcm:=And.intro (@Zc8.eq_1) (@Zc8.eq_1)
theorem Zmc:Snd Tryz.prog 180 Zc8:=by
 intro vs b k n e h hn hp
 unfold Zc8 at h
 split at h
 ·cases h; have hp0:=hp; exact (Zm4 _ _ hp0).lift rfl _
 ·cases h
theorem Zm5 (sg:List D) (hq:sg=ZpK):Spec Tryz.prog 0 110 [.agg [.d (.list sg)]] [] [] (vB true) [] []:=by
 refine sE (md:=fun _=>0) (L:=[(180,Zc8)]) [(4,[0,0,0,0,0,140737488225247,0,0,0,0,0,140737475773407,0,0,0,0,0,140736414614495,0,0,0,0,0,140688096232415,0,0,0,0,0,136427488674783,0,0,0,0])] 70368744178655 (Za Zmc Zb) Tryz.func110 rfl rfl rfl ?_
 subst hq
 unfold ZpK
 have wm:(IntKind.i64.wrap (-1)).toNat=0:=by decide
 simp (maxSteps:=1000000) only [↓Zo,Ze,Zd,Zn,gSt,gS0,Ya,Yb,↓reduceIte,reduceCtorEq,Yc,Yd,Ye,Yf,Yg,Yj,Yk,Yl,Ym,Yn,Zcm,gE1,gE2,Int.natCast_zero,Int.natCast_one,Int.cast_ofNat_Int,Yo,wm,List.getElem?_nil,Tryz.ntmps110,Tryz.results110,gTT]
 refine Zl (fun g:Nat=>⟨[(8,vI .i64 (g:Nat))],[],[]⟩) (fun g=>g≤1) (fun g=>1 - g) (·+1) 0 (by decide) ?_ ?_
 ·simp (maxSteps:=1000000) only [↓Zo,Ze,Zd,Zn,gSt,gS0,Ya,Yb,↓reduceIte,reduceCtorEq,Yc,Yd,Ye,Yf,Yg,Yj,Yk,Yl,Ym,Yn,Zcm,gE1,gE2,Int.natCast_zero,Int.natCast_one,Int.cast_ofNat_Int,Yo,wm,List.getElem?_nil,Tryz.ntmps110,Tryz.results110,gTT]
  all_goals rfl
 intro g hg
 rcases (by omega:g=0∨g=1) with rfl | rfl
 ·simp (maxSteps:=1000000) only [↓Zo,Ze,Zd,Zn,gSt,gS0,Ya,Yb,↓reduceIte,reduceCtorEq,Yc,Yd,Ye,Yf,Yg,Yj,Yk,Yl,Ym,Yn,Zcm,gE1,gE2,Int.natCast_zero,Int.natCast_one,Int.cast_ofNat_Int,Yo,wm,List.getElem?_nil,Tryz.ntmps110,Tryz.results110,gTT]
  all_goals exact ⟨by kernel_rfl,by decide,by decide⟩
 ·simp (maxSteps:=1000000) only [↓Zo,Ze,Zd,Zn,gSt,gS0,Ya,Yb,↓reduceIte,reduceCtorEq,Yc,Yd,Ye,Yf,Yg,Yj,Yk,Yl,Ym,Yn,Zcm,gE1,gE2,Int.natCast_zero,Int.natCast_one,Int.cast_ofNat_Int,Yo,wm,List.getElem?_nil,Tryz.ntmps110,Tryz.results110,gTT]
  all_goals skip
def ZbK:List V→Zf→Zw→Name→Option Ent
 | [.agg [.d (.list sg)]],[],[],_=>some ⟨sg=ZpK,vB true,[],[]⟩
 | _,_,_,_=>none
def ZdC:=And.intro (@ZbK.eq_1) (@ZbK.eq_1)
theorem ZdD:Snd Tryz.prog 110 ZbK:=by
 intro vs b k n e h hn hp
 unfold ZbK at h
 split at h
 ·cases h; have hp0:=hp; exact (Zm5 _ hp0).lift rfl _
 ·cases h
theorem Zsn (sg:List D) (x y:Int) (hq:sg=ZpK) (hx:0≤x∧x≤y∧y≤1099511627776):Spec Tryz.prog 0 200 [.agg [.d (.list sg)],vI .i64 x,vI .i64 y] [] [] (.tup [.int .i64 (y - x),.int .i64 0]) [] []:=by
 refine sE (md:=fun _=>0) (L:=[(110,ZbK),(244,Zf8)]) [(3,[0,0,0,0,0,16519631,0,0,0,0,0,0])] 4559 (Za ZdD (Za Zq0 Zb)) Tryz.func200 rfl rfl rfl ?_
 simp (maxSteps:=1000000) only [↓Zo,Ze,Zd,Zn,gSt,gS0,Ya,Yb,↓reduceIte,reduceCtorEq,Yc,Yd,Ye,Yf,Yg,Yj,Yk,Yl,Ym,Yn,ZdC,ZqZ,gE1,gE2,Tryz.ntmps200,Tryz.results200,gTT]
 refine ⟨hq,fun h=>?_,fun _=>⟨by kernel_rfl,⟨hq,by omega,by omega⟩,⟨hq,by omega,by omega⟩,?_⟩⟩
 ·simp only [Bool.or_eq_true,decide_eq_true_eq] at h
  omega
 rw [IntWalk.i64_in (y - x) (by omega)]
def Zf7:List V→Zf→Zw→Name→Option Ent
 | [.agg [.d (.list sg)],.c (.d (.int .i64 x)),.c (.d (.int .i64 y))],[],[],_=>some ⟨sg=ZpK∧(0≤x∧x≤y∧y≤1099511627776),.tup [.int .i64 (y - x),.int .i64 0],[],[]⟩
 | _,_,_,_=>none
def ZqX:=And.intro (@Zf7.eq_1) (@Zf7.eq_1)
theorem ZqY:Snd Tryz.prog 200 Zf7:=by
 intro vs b k n e h hn hp
 unfold Zf7 at h
 split at h
 ·cases h; obtain ⟨hp0,hp1⟩:=hp; exact (Zsn _ _ _ hp0 hp1).lift rfl _
 ·cases h
theorem Zs9 (di:Int) (s:ByteArray) (dd dm dl dt dj:Int) (bx:List D) (ck cr:Int) (mp:List Int) (cz:Int) (ra pe:Int) (sg:List D) (ru:Bool) (si:Int) (q ct cd cg cm c n d a p f:Int) (l:List Int) (lo mi:Int):Spec Tryz.prog 0 119 [.agg [.d (.int .u64 di),.d (.str s),.d (.int .i64 dd),.d (.int .i64 dm),.d (.int .i64 dl),.d (.int .i64 dt),.d (.int .i64 dj),.d (.list bx),.d (.int .i64 ck),.d (.int .i64 cr),.d (.list (LI .i64 mp)),.d (.int .i64 cz),.d (.int .i64 ra),.d (.int .i64 pe),.d (.list sg),.d (.bool ru),.d (.int .i64 si),.d (.int .i64 q),.d (.int .i64 ct),.d (.int .i64 cd),.d (.int .i64 cg),.d (.int .i64 cm),.d (.int .i64 c),.d (.int .i64 n),.d (.int .i64 d),.d (.int .i64 a),.d (.int .i64 p),.d (.int .i64 f),.d (.list (LI .i32 l)),.d (.int .i64 lo),.d (.int .i64 mi)]] [] [] (vI .i64 (mp.length:Nat)) [] []:=by
 refine spec_of_E (X:=⟨Tryz.prog,tt,Tryz.f119.ntmps,1,fun _=>0,(tab [])⟩) (M:=[]) (m:=7) rfl rfl ⟨Zah,ZU Zb _ rfl rfl⟩ ZB Tryz.func119 rfl (by decide) (by show (1:Nat)≤_; exact Nat.le_of_ble_eq_true rfl) ⟨by simp [V.has,C.has,ZH],by simp [C.has],by simp⟩ ?_
 simp (maxSteps:=1000000) only [↓Zo,Ze,Zd,Zn,gSt,gS0,Ya,Yb,↓reduceIte,reduceCtorEq,Yc,Yd,Ye,Yf,Yg,Yj,Yk,Yl,Ym,Yn,gE1,gE2,Tryz.ntmps119,Tryz.results119,gTT]
def ZdV:List V→Zf→Zw→Name→Option Ent
 | [.agg [.d (.int .u64 di),.d (.str s),.d (.int .i64 dd),.d (.int .i64 dm),.d (.int .i64 dl),.d (.int .i64 dt),.d (.int .i64 dj),.d (.list bx),.d (.int .i64 ck),.d (.int .i64 cr),.d (.list q_mp),.d (.int .i64 cz),.d (.int .i64 ra),.d (.int .i64 pe),.d (.list sg),.d (.bool ru),.d (.int .i64 si),.d (.int .i64 q),.d (.int .i64 ct),.d (.int .i64 cd),.d (.int .i64 cg),.d (.int .i64 cm),.d (.int .i64 c),.d (.int .i64 n),.d (.int .i64 d),.d (.int .i64 a),.d (.int .i64 p),.d (.int .i64 f),.d (.list q_l),.d (.int .i64 lo),.d (.int .i64 mi)]],[],[],_=>some ⟨q_mp=LI .i64 (Zc q_mp)∧q_l=LI .i32 (Zc q_l),vI .i64 ((Zc q_mp).length:Nat),[],[]⟩
 | _,_,_,_=>none
def ZfL:=And.intro (@ZdV.eq_1) (@ZdV.eq_1)
theorem ZfM:Snd Tryz.prog 119 ZdV:=by
 intro vs b k n e h hn hp
 unfold ZdV at h
 split at h
 ·cases h; obtain ⟨hq0,hq1⟩:=hp; obtain ⟨_,rfl⟩:=Zu hq0; obtain ⟨_,rfl⟩:=Zu hq1; simp only [Zi,Zp,Zj,Zq]; exact (Zs9 _ _ _ _ _ _ _ _ _ _ _ _ _ _ _ _ _ _ _ _ _ _ _ _ _ _ _ _ _ _ _).lift rfl _
 ·cases h
theorem Zxc (di:Int) (s:ByteArray) (dd dm dl dt dj:Int) (bx:List D) (ck cr:Int) (mp:List Int) (cz:Int) (ra pe:Int) (sg:List D) (ru:Bool) (si:Int) (q ct cd cg cm c n d a p f:Int) (l:List Int) (lo mi:Int):Spec Tryz.prog 0 187 [.agg [.d (.int .u64 di),.d (.str s),.d (.int .i64 dd),.d (.int .i64 dm),.d (.int .i64 dl),.d (.int .i64 dt),.d (.int .i64 dj),.d (.list bx),.d (.int .i64 ck),.d (.int .i64 cr),.d (.list (LI .i64 mp)),.d (.int .i64 cz),.d (.int .i64 ra),.d (.int .i64 pe),.d (.list sg),.d (.bool ru),.d (.int .i64 si),.d (.int .i64 q),.d (.int .i64 ct),.d (.int .i64 cd),.d (.int .i64 cg),.d (.int .i64 cm),.d (.int .i64 c),.d (.int .i64 n),.d (.int .i64 d),.d (.int .i64 a),.d (.int .i64 p),.d (.int .i64 f),.d (.list (LI .i32 l)),.d (.int .i64 lo),.d (.int .i64 mi)]] [] [] (vB (dd==1)) [] []:=by
 refine sE (md:=fun _=>0) (L:=[]) [] 7 Zb Tryz.func187 rfl rfl rfl ?_
 simp (maxSteps:=1000000) only [↓Zo,Ze,Zd,Zn,gSt,gS0,Ya,Yb,↓reduceIte,reduceCtorEq,Yc,Yd,Ye,Yf,Yg,Yj,Yk,Yl,Ym,Yn,gE1,gE2,Tryz.ntmps187,Tryz.results187,gTT]
def ZfK:List V→Zf→Zw→Name→Option Ent
 | [.agg [.d (.int .u64 di),.d (.str s),.d (.int .i64 dd),.d (.int .i64 dm),.d (.int .i64 dl),.d (.int .i64 dt),.d (.int .i64 dj),.d (.list bx),.d (.int .i64 ck),.d (.int .i64 cr),.d (.list q_mp),.d (.int .i64 cz),.d (.int .i64 ra),.d (.int .i64 pe),.d (.list sg),.d (.bool ru),.d (.int .i64 si),.d (.int .i64 q),.d (.int .i64 ct),.d (.int .i64 cd),.d (.int .i64 cg),.d (.int .i64 cm),.d (.int .i64 c),.d (.int .i64 n),.d (.int .i64 d),.d (.int .i64 a),.d (.int .i64 p),.d (.int .i64 f),.d (.list q_l),.d (.int .i64 lo),.d (.int .i64 mi)]],[],[],_=>some ⟨q_mp=LI .i64 (Zc q_mp)∧q_l=LI .i32 (Zc q_l),vB (dd==1),[],[]⟩
 | _,_,_,_=>none
def Zhw:=And.intro (@ZfK.eq_1) (@ZfK.eq_1)
theorem Zhx:Snd Tryz.prog 187 ZfK:=by
 intro vs b k n e h hn hp
 unfold ZfK at h
 split at h
 ·cases h; obtain ⟨hq0,hq1⟩:=hp; obtain ⟨_,rfl⟩:=Zu hq0; obtain ⟨_,rfl⟩:=Zu hq1; simp only [Zi,Zp,Zj,Zq]; exact (Zxc _ _ _ _ _ _ _ _ _ _ _ _ _ _ _ _ _ _ _ _ _ _ _ _ _ _ _ _ _ _ _).lift rfl _
 ·cases h
theorem ZBf (di:Int) (s:ByteArray) (dd dm dl dt dj:Int) (bx:List D) (ck cr:Int) (mp:List Int) (cz:Int) (ra pe:Int) (sg:List D) (ru:Bool) (si:Int) (q ct cd cg cm c n d a p f:Int) (l:List Int) (lo mi:Int) (hs:ZhD s dd dm dl dt dj) (hv:ZgQ bx ck cr mp cz ra pe sg):Spec Tryz.prog 0 113 [.agg [.d (.int .u64 di),.d (.str s),.d (.int .i64 dd),.d (.int .i64 dm),.d (.int .i64 dl),.d (.int .i64 dt),.d (.int .i64 dj),.d (.list bx),.d (.int .i64 ck),.d (.int .i64 cr),.d (.list (LI .i64 mp)),.d (.int .i64 cz),.d (.int .i64 ra),.d (.int .i64 pe),.d (.list sg),.d (.bool ru),.d (.int .i64 si),.d (.int .i64 q),.d (.int .i64 ct),.d (.int .i64 cd),.d (.int .i64 cg),.d (.int .i64 cm),.d (.int .i64 c),.d (.int .i64 n),.d (.int .i64 d),.d (.int .i64 a),.d (.int .i64 p),.d (.int .i64 f),.d (.list (LI .i32 l)),.d (.int .i64 lo),.d (.int .i64 mi)]] [] [] (.agg [.d (.int .i64 1),.d (.int .i64 1)]) [] []:=by
 refine sE (md:=fun _=>0) (L:=[(108,Zdn)]) [(1,[0,0,0,0,0,130095,0,0,0,0,0,98319,0,0,0])] 15 (Za Zh1 Zb) Tryz.func113 rfl rfl rfl ?_
 obtain ⟨rfl,hch,rfl,rfl,rfl,rfl,rfl,rfl⟩:=hv
 simp (maxSteps:=1000000) only [↓Zo,Ze,Zd,Zn,gSt,gS0,Ya,Yb,↓reduceIte,reduceCtorEq,Yc,Yd,Ye,Yf,Yg,Yj,Yk,Yl,Ym,Yn,Zh0,gE1,gE2,Tryz.ntmps113,Tryz.results113,gTT]
 decide
def Zly:List V→Zf→Zw→Name→Option Ent
 | [.agg [.d (.int .u64 di),.d (.str s),.d (.int .i64 dd),.d (.int .i64 dm),.d (.int .i64 dl),.d (.int .i64 dt),.d (.int .i64 dj),.d (.list bx),.d (.int .i64 ck),.d (.int .i64 cr),.d (.list q_mp),.d (.int .i64 cz),.d (.int .i64 ra),.d (.int .i64 pe),.d (.list sg),.d (.bool ru),.d (.int .i64 si),.d (.int .i64 q),.d (.int .i64 ct),.d (.int .i64 cd),.d (.int .i64 cg),.d (.int .i64 cm),.d (.int .i64 c),.d (.int .i64 n),.d (.int .i64 d),.d (.int .i64 a),.d (.int .i64 p),.d (.int .i64 f),.d (.list q_l),.d (.int .i64 lo),.d (.int .i64 mi)]],[],[],_=>some ⟨ZhD s dd dm dl dt dj∧ZgQ bx ck cr (Zc q_mp) cz ra pe sg∧q_mp=LI .i64 (Zc q_mp)∧q_l=LI .i32 (Zc q_l),.agg [.d (.int .i64 1),.d (.int .i64 1)],[],[]⟩
 | _,_,_,_=>none
def ZoE:=And.intro (@Zly.eq_1) (@Zly.eq_1)
theorem ZoF:Snd Tryz.prog 113 Zly:=by
 intro vs b k n e h hn hp
 unfold Zly at h
 split at h
 ·cases h; obtain ⟨hp0,hp1,hq0,hq1⟩:=hp; obtain ⟨_,rfl⟩:=Zu hq0; obtain ⟨_,rfl⟩:=Zu hq1; simp only [Zi,Zp,Zj,Zq] at hp0 hp1 ⊢; exact (ZBf _ _ _ _ _ _ _ _ _ _ _ _ _ _ _ _ _ _ _ _ _ _ _ _ _ _ _ _ _ _ _ hp0 hp1).lift rfl _
 ·cases h
theorem Zxb (di:Int) (s:ByteArray) (dd dm dl dt dj:Int) (bx:List D) (ck cr:Int) (mp:List Int) (cz:Int) (ra pe:Int) (sg:List D) (ru:Bool) (si:Int) (q ct cd cg cm c n d a p f:Int) (l:List Int) (lo mi:Int) (hs:ZhD s dd dm dl dt dj) (hv:ZgQ bx ck cr mp cz ra pe sg):Spec Tryz.prog 0 120 [.agg [.d (.int .u64 di),.d (.str s),.d (.int .i64 dd),.d (.int .i64 dm),.d (.int .i64 dl),.d (.int .i64 dt),.d (.int .i64 dj),.d (.list bx),.d (.int .i64 ck),.d (.int .i64 cr),.d (.list (LI .i64 mp)),.d (.int .i64 cz),.d (.int .i64 ra),.d (.int .i64 pe),.d (.list sg),.d (.bool ru),.d (.int .i64 si),.d (.int .i64 q),.d (.int .i64 ct),.d (.int .i64 cd),.d (.int .i64 cg),.d (.int .i64 cm),.d (.int .i64 c),.d (.int .i64 n),.d (.int .i64 d),.d (.int .i64 a),.d (.int .i64 p),.d (.int .i64 f),.d (.list (LI .i32 l)),.d (.int .i64 lo),.d (.int .i64 mi)]] [] [] (.agg [.d (.int .i64 1),.d (.int .i64 1)]) [] []:=by
 refine sE (md:=fun _=>0) (L:=[(187,ZfK),(113,Zly),(195,Zgw)]) [] 143 (Za Zhx (Za ZoF (Za Zrs Zb))) Tryz.func120 rfl rfl rfl ?_
 simp (maxSteps:=1000000) only [↓Zo,Ze,Zd,Zn,gSt,gS0,Ya,Yb,↓reduceIte,reduceCtorEq,Yc,Yd,Ye,Yf,Yg,Yj,Yk,Yl,Ym,Yn,Zhw,ZoE,Zrr,gE1,gE2,Tryz.ntmps120,Tryz.results120,gTT]
 exact ⟨fun _=>⟨hs,hv⟩,fun _=>⟨hs,hv⟩⟩
def ZfJ:List V→Zf→Zw→Name→Option Ent
 | [.agg [.d (.int .u64 di),.d (.str s),.d (.int .i64 dd),.d (.int .i64 dm),.d (.int .i64 dl),.d (.int .i64 dt),.d (.int .i64 dj),.d (.list bx),.d (.int .i64 ck),.d (.int .i64 cr),.d (.list q_mp),.d (.int .i64 cz),.d (.int .i64 ra),.d (.int .i64 pe),.d (.list sg),.d (.bool ru),.d (.int .i64 si),.d (.int .i64 q),.d (.int .i64 ct),.d (.int .i64 cd),.d (.int .i64 cg),.d (.int .i64 cm),.d (.int .i64 c),.d (.int .i64 n),.d (.int .i64 d),.d (.int .i64 a),.d (.int .i64 p),.d (.int .i64 f),.d (.list q_l),.d (.int .i64 lo),.d (.int .i64 mi)]],[],[],_=>some ⟨ZhD s dd dm dl dt dj∧ZgQ bx ck cr (Zc q_mp) cz ra pe sg∧q_mp=LI .i64 (Zc q_mp)∧q_l=LI .i32 (Zc q_l),.agg [.d (.int .i64 1),.d (.int .i64 1)],[],[]⟩
 | _,_,_,_=>none
def Zhu:=And.intro (@ZfJ.eq_1) (@ZfJ.eq_1)
theorem Zhv:Snd Tryz.prog 120 ZfJ:=by
 intro vs b k n e h hn hp
 unfold ZfJ at h
 split at h
 ·cases h; obtain ⟨hp0,hp1,hq0,hq1⟩:=hp; obtain ⟨_,rfl⟩:=Zu hq0; obtain ⟨_,rfl⟩:=Zu hq1; simp only [Zi,Zp,Zj,Zq] at hp0 hp1 ⊢; exact (Zxb _ _ _ _ _ _ _ _ _ _ _ _ _ _ _ _ _ _ _ _ _ _ _ _ _ _ _ _ _ _ _ hp0 hp1).lift rfl _
 ·cases h
theorem ZBd (di:Int) (s:ByteArray) (dd dm dl dt dj:Int) (bx:List D) (ck cr:Int) (mp:List Int) (cz:Int) (ra pe:Int) (sg:List D) (ru:Bool) (si:Int) (q ct cd cg cm c n d a p f:Int) (l:List Int) (lo mi:Int) (hs:ZhD s dd dm dl dt dj) (hv:ZgQ bx ck cr mp cz ra pe sg):Spec Tryz.prog 0 114 [.agg [.d (.int .u64 di),.d (.str s),.d (.int .i64 dd),.d (.int .i64 dm),.d (.int .i64 dl),.d (.int .i64 dt),.d (.int .i64 dj),.d (.list bx),.d (.int .i64 ck),.d (.int .i64 cr),.d (.list (LI .i64 mp)),.d (.int .i64 cz),.d (.int .i64 ra),.d (.int .i64 pe),.d (.list sg),.d (.bool ru),.d (.int .i64 si),.d (.int .i64 q),.d (.int .i64 ct),.d (.int .i64 cd),.d (.int .i64 cg),.d (.int .i64 cm),.d (.int .i64 c),.d (.int .i64 n),.d (.int .i64 d),.d (.int .i64 a),.d (.int .i64 p),.d (.int .i64 f),.d (.list (LI .i32 l)),.d (.int .i64 lo),.d (.int .i64 mi)]] [] [] (.agg [.d (.int .i64 16),.d (.int .i64 1)]) [] []:=by
 refine sE (md:=fun _=>0) (L:=[(187,ZfK),(108,Zdn)]) [(3,[0,0,0,0,0,134105167,0,0,0,0,0,126879823,0,0,0,0,0,67108943,0])] 79 (Za Zhx (Za Zh1 Zb)) Tryz.func114 rfl rfl rfl ?_
 obtain ⟨rfl,hch,rfl,rfl,rfl,rfl,rfl,rfl⟩:=hv
 simp (maxSteps:=1000000) only [↓Zo,Ze,Zd,Zn,gSt,gS0,Ya,Yb,↓reduceIte,reduceCtorEq,Yc,Yd,Ye,Yf,Yg,Yj,Yk,Yl,Ym,Yn,Zhw,Zh0,gE1,gE2,Tryz.ntmps114,Tryz.results114,gTT]
 exact fun _=>⟨.inr (by decide),by decide⟩
def ZoC:List V→Zf→Zw→Name→Option Ent
 | [.agg [.d (.int .u64 di),.d (.str s),.d (.int .i64 dd),.d (.int .i64 dm),.d (.int .i64 dl),.d (.int .i64 dt),.d (.int .i64 dj),.d (.list bx),.d (.int .i64 ck),.d (.int .i64 cr),.d (.list q_mp),.d (.int .i64 cz),.d (.int .i64 ra),.d (.int .i64 pe),.d (.list sg),.d (.bool ru),.d (.int .i64 si),.d (.int .i64 q),.d (.int .i64 ct),.d (.int .i64 cd),.d (.int .i64 cg),.d (.int .i64 cm),.d (.int .i64 c),.d (.int .i64 n),.d (.int .i64 d),.d (.int .i64 a),.d (.int .i64 p),.d (.int .i64 f),.d (.list q_l),.d (.int .i64 lo),.d (.int .i64 mi)]],[],[],_=>some ⟨ZhD s dd dm dl dt dj∧ZgQ bx ck cr (Zc q_mp) cz ra pe sg∧q_mp=LI .i64 (Zc q_mp)∧q_l=LI .i32 (Zc q_l),.agg [.d (.int .i64 16),.d (.int .i64 1)],[],[]⟩
 | _,_,_,_=>none
def Zyb:=And.intro (@ZoC.eq_1) (@ZoC.eq_1)
theorem Zyc:Snd Tryz.prog 114 ZoC:=by
 intro vs b k n e h hn hp
 unfold ZoC at h
 split at h
 ·cases h; obtain ⟨hp0,hp1,hq0,hq1⟩:=hp; obtain ⟨_,rfl⟩:=Zu hq0; obtain ⟨_,rfl⟩:=Zu hq1; simp only [Zi,Zp,Zj,Zq] at hp0 hp1 ⊢; exact (ZBd _ _ _ _ _ _ _ _ _ _ _ _ _ _ _ _ _ _ _ _ _ _ _ _ _ _ _ _ _ _ _ hp0 hp1).lift rfl _
 ·cases h
theorem ZBe (di:Int) (s:ByteArray) (dd dm dl dt dj:Int) (bx:List D) (ck cr:Int) (mp:List Int) (cz:Int) (ra pe:Int) (sg:List D) (ru:Bool) (si:Int) (q ct cd cg cm c n d a p f:Int) (l:List Int) (lo mi:Int) (hs:ZhD s dd dm dl dt dj) (hv:ZgQ bx ck cr mp cz ra pe sg):Spec Tryz.prog 0 117 [.agg [.d (.int .u64 di),.d (.str s),.d (.int .i64 dd),.d (.int .i64 dm),.d (.int .i64 dl),.d (.int .i64 dt),.d (.int .i64 dj),.d (.list bx),.d (.int .i64 ck),.d (.int .i64 cr),.d (.list (LI .i64 mp)),.d (.int .i64 cz),.d (.int .i64 ra),.d (.int .i64 pe),.d (.list sg),.d (.bool ru),.d (.int .i64 si),.d (.int .i64 q),.d (.int .i64 ct),.d (.int .i64 cd),.d (.int .i64 cg),.d (.int .i64 cm),.d (.int .i64 c),.d (.int .i64 n),.d (.int .i64 d),.d (.int .i64 a),.d (.int .i64 p),.d (.int .i64 f),.d (.list (LI .i32 l)),.d (.int .i64 lo),.d (.int .i64 mi)]] [] [] (vI .i64 1) [] []:=by
 refine sE (md:=fun _=>0) (L:=[(187,ZfK),(120,ZfJ),(115,Zdl)]) [(3,[0,0,0,0,0,8003727,0,0,0,0,0,0])] 143 (Za Zhx (Za Zhv (Za ZhZ Zb))) Tryz.func117 rfl rfl rfl ?_
 simp (maxSteps:=1000000) only [↓Zo,Ze,Zd,Zn,gSt,gS0,Ya,Yb,↓reduceIte,reduceCtorEq,Yc,Yd,Ye,Yf,Yg,Yj,Yk,Yl,Ym,Yn,Zhw,Zhu,ZhY,gE1,gE2,Tryz.ntmps117,Tryz.results117,gTT]
 have h:=hs
 obtain ⟨_,_,_,_,_,h0⟩:=h
 subst h0
 exact ⟨fun _=>by decide,fun _=>⟨by kernel_rfl,⟨hs,hv⟩,⟨by decide,by decide⟩,by decide⟩⟩
def ZoD:List V→Zf→Zw→Name→Option Ent
 | [.agg [.d (.int .u64 di),.d (.str s),.d (.int .i64 dd),.d (.int .i64 dm),.d (.int .i64 dl),.d (.int .i64 dt),.d (.int .i64 dj),.d (.list bx),.d (.int .i64 ck),.d (.int .i64 cr),.d (.list q_mp),.d (.int .i64 cz),.d (.int .i64 ra),.d (.int .i64 pe),.d (.list sg),.d (.bool ru),.d (.int .i64 si),.d (.int .i64 q),.d (.int .i64 ct),.d (.int .i64 cd),.d (.int .i64 cg),.d (.int .i64 cm),.d (.int .i64 c),.d (.int .i64 n),.d (.int .i64 d),.d (.int .i64 a),.d (.int .i64 p),.d (.int .i64 f),.d (.list q_l),.d (.int .i64 lo),.d (.int .i64 mi)]],[],[],_=>some ⟨ZhD s dd dm dl dt dj∧ZgQ bx ck cr (Zc q_mp) cz ra pe sg∧q_mp=LI .i64 (Zc q_mp)∧q_l=LI .i32 (Zc q_l),vI .i64 1,[],[]⟩
 | _,_,_,_=>none
def Zyd:=And.intro (@ZoD.eq_1) (@ZoD.eq_1)
theorem Zye:Snd Tryz.prog 117 ZoD:=by
 intro vs b k n e h hn hp
 unfold ZoD at h
 split at h
 ·cases h; obtain ⟨hp0,hp1,hq0,hq1⟩:=hp; obtain ⟨_,rfl⟩:=Zu hq0; obtain ⟨_,rfl⟩:=Zu hq1; simp only [Zi,Zp,Zj,Zq] at hp0 hp1 ⊢; exact (ZBe _ _ _ _ _ _ _ _ _ _ _ _ _ _ _ _ _ _ _ _ _ _ _ _ _ _ _ _ _ _ _ hp0 hp1).lift rfl _
 ·cases h
theorem ZBg (di:Int) (s:ByteArray) (dd dm dl dt dj:Int) (bx:List D) (ck cr:Int) (mp:List Int) (cz:Int) (ra pe:Int) (sg:List D) (ru:Bool) (si:Int) (q ct cd cg cm c n d a p f:Int) (l:List Int) (lo mi:Int) (hs:ZhD s dd dm dl dt dj) (hv:ZgQ bx ck cr mp cz ra pe sg):Spec Tryz.prog 0 111 [.agg [.d (.int .u64 di),.d (.str s),.d (.int .i64 dd),.d (.int .i64 dm),.d (.int .i64 dl),.d (.int .i64 dt),.d (.int .i64 dj),.d (.list bx),.d (.int .i64 ck),.d (.int .i64 cr),.d (.list (LI .i64 mp)),.d (.int .i64 cz),.d (.int .i64 ra),.d (.int .i64 pe),.d (.list sg),.d (.bool ru),.d (.int .i64 si),.d (.int .i64 q),.d (.int .i64 ct),.d (.int .i64 cd),.d (.int .i64 cg),.d (.int .i64 cm),.d (.int .i64 c),.d (.int .i64 n),.d (.int .i64 d),.d (.int .i64 a),.d (.int .i64 p),.d (.int .i64 f),.d (.list (LI .i32 l)),.d (.int .i64 lo),.d (.int .i64 mi)]] [] [] (vB true) [] []:=by
 refine sE (md:=fun _=>0) (L:=[]) [(1,[0,0,0,0,0,33554311,0,0,0,0,0,33546247,0,0,0,0,0,33030151,0,0,0,0,0])] 7 Zb Tryz.func111 rfl rfl rfl ?_
 obtain ⟨rfl,hch,rfl,rfl,rfl,rfl,rfl,rfl⟩:=hv
 simp (maxSteps:=1000000) only [↓Zo,Ze,Zd,Zn,gSt,gS0,Ya,Yb,↓reduceIte,reduceCtorEq,Yc,Yd,Ye,Yf,Yg,Yj,Yk,Yl,Ym,Yn,gE1,gE2,Tryz.ntmps111,Tryz.results111,gTT]
def Zlz:List V→Zf→Zw→Name→Option Ent
 | [.agg [.d (.int .u64 di),.d (.str s),.d (.int .i64 dd),.d (.int .i64 dm),.d (.int .i64 dl),.d (.int .i64 dt),.d (.int .i64 dj),.d (.list bx),.d (.int .i64 ck),.d (.int .i64 cr),.d (.list q_mp),.d (.int .i64 cz),.d (.int .i64 ra),.d (.int .i64 pe),.d (.list sg),.d (.bool ru),.d (.int .i64 si),.d (.int .i64 q),.d (.int .i64 ct),.d (.int .i64 cd),.d (.int .i64 cg),.d (.int .i64 cm),.d (.int .i64 c),.d (.int .i64 n),.d (.int .i64 d),.d (.int .i64 a),.d (.int .i64 p),.d (.int .i64 f),.d (.list q_l),.d (.int .i64 lo),.d (.int .i64 mi)]],[],[],_=>some ⟨ZhD s dd dm dl dt dj∧ZgQ bx ck cr (Zc q_mp) cz ra pe sg∧q_mp=LI .i64 (Zc q_mp)∧q_l=LI .i32 (Zc q_l),vB true,[],[]⟩
 | _,_,_,_=>none
def ZoG:=And.intro (@Zlz.eq_1) (@Zlz.eq_1)
theorem ZoH:Snd Tryz.prog 111 Zlz:=by
 intro vs b k n e h hn hp
 unfold Zlz at h
 split at h
 ·cases h; obtain ⟨hp0,hp1,hq0,hq1⟩:=hp; obtain ⟨_,rfl⟩:=Zu hq0; obtain ⟨_,rfl⟩:=Zu hq1; simp only [Zi,Zp,Zj,Zq] at hp0 hp1 ⊢; exact (ZBg _ _ _ _ _ _ _ _ _ _ _ _ _ _ _ _ _ _ _ _ _ _ _ _ _ _ _ _ _ _ _ hp0 hp1).lift rfl _
 ·cases h
theorem Zta (di:Int) (s:ByteArray) (dd dm dl dt dj:Int) (bx:List D) (ck cr:Int) (mp:List Int) (cz:Int) (ra pe:Int) (sg:List D) (ru:Bool) (si:Int) (q ct cd cg cm c n d a p f:Int) (l:List Int) (lo mi:Int) (hs:ZhD s dd dm dl dt dj) (hv:ZgQ bx ck cr mp cz ra pe sg) (hb:brV ⟨q,⟨ct,cd,cg,cm⟩,⟨c,⟨n,d,a,p,f⟩,l⟩,lo,mi⟩=true) (hl:l.length≤1000000) (hc:c=mp.length∧n=1∧d=1) (hsi:0≤si∧si≤1099511627776):Spec Tryz.prog 0 133 [.agg [.d (.int .u64 di),.d (.str s),.d (.int .i64 dd),.d (.int .i64 dm),.d (.int .i64 dl),.d (.int .i64 dt),.d (.int .i64 dj),.d (.list bx),.d (.int .i64 ck),.d (.int .i64 cr),.d (.list (LI .i64 mp)),.d (.int .i64 cz),.d (.int .i64 ra),.d (.int .i64 pe),.d (.list sg),.d (.bool ru),.d (.int .i64 si),.d (.int .i64 q),.d (.int .i64 ct),.d (.int .i64 cd),.d (.int .i64 cg),.d (.int .i64 cm),.d (.int .i64 c),.d (.int .i64 n),.d (.int .i64 d),.d (.int .i64 a),.d (.int .i64 p),.d (.int .i64 f),.d (.list (LI .i32 l)),.d (.int .i64 lo),.d (.int .i64 mi)]] [] [] (vB true) [] []:=by
 refine sE (md:=fun _=>0) (L:=[(109,Zdc),(112,Zhk),(111,Zlz),(110,ZbK),(54,Zby),(119,ZdV),(120,ZfJ)]) [(1,[0,0,0,0,0,73786976294838206343,0,0,0,0,0,73786976294838192263,0,0,0,0,0,73786976294837157895,0,0,0,0,0,73786976294771097607,0,0,0,0,0,73786976290543239175,0,0,0,0,0,73786976019960299527,0,0,0,0,0,73786958702652162055,0,0,0,0,0,73785885579303452679,0,0,0,0,0,73750947497819242503,0,0,0,0,0,71517162082643476487,0,0,0,0])] 7 (Za ZhN (Za Zlj (Za ZoH (Za ZdD (Za Zb3 (Za ZfM (Za Zhv Zb))))))) Tryz.func133 rfl rfl rfl ?_
 simp (maxSteps:=1000000) only [↓Zo,Ze,Zd,Zn,gSt,gS0,Ya,Yb,↓reduceIte,reduceCtorEq,Yc,Yd,Ye,Yf,Yg,Yj,Yk,Yl,Ym,Yn,ZhM,Zli,ZoG,ZdC,Zb2,ZfL,Zhu,gE1,gE2,Tryz.ntmps133,Tryz.results133,gTT]
 have h:=hv
 obtain ⟨h1,h2,h3,h4,h5,h6,h7,h8⟩:=h
 refine ⟨by kernel_rfl,⟨hs,mp,h1,h2⟩,⟨h1,h2,h3,h4,h5⟩,⟨hs,hv⟩,h8,fun _=>hl,fun _=>⟨hs,hv⟩,?_⟩
 rw [hb,decide_eq_true hsi.1,decide_eq_true hsi.2,hc.1,hc.2.1,hc.2.2]
 simp
def Zfj:List V→Zf→Zw→Name→Option Ent
 | [.agg [.d (.int .u64 di),.d (.str s),.d (.int .i64 dd),.d (.int .i64 dm),.d (.int .i64 dl),.d (.int .i64 dt),.d (.int .i64 dj),.d (.list bx),.d (.int .i64 ck),.d (.int .i64 cr),.d (.list q_mp),.d (.int .i64 cz),.d (.int .i64 ra),.d (.int .i64 pe),.d (.list sg),.d (.bool ru),.d (.int .i64 si),.d (.int .i64 q),.d (.int .i64 ct),.d (.int .i64 cd),.d (.int .i64 cg),.d (.int .i64 cm),.d (.int .i64 c),.d (.int .i64 n),.d (.int .i64 d),.d (.int .i64 a),.d (.int .i64 p),.d (.int .i64 f),.d (.list q_l),.d (.int .i64 lo),.d (.int .i64 mi)]],[],[],_=>some ⟨ZhD s dd dm dl dt dj∧ZgQ bx ck cr (Zc q_mp) cz ra pe sg∧brV ⟨q,⟨ct,cd,cg,cm⟩,⟨c,⟨n,d,a,p,f⟩,(Zc q_l)⟩,lo,mi⟩=true∧(Zc q_l).length≤1000000∧(c=(Zc q_mp).length∧n=1∧d=1)∧(0≤si∧si≤1099511627776)∧q_mp=LI .i64 (Zc q_mp)∧q_l=LI .i32 (Zc q_l),vB true,[],[]⟩
 | _,_,_,_=>none
def ZjJ:=And.intro (@Zfj.eq_1) (@Zfj.eq_1)
theorem ZjK:Snd Tryz.prog 133 Zfj:=by
 intro vs b k n e h hn hp
 unfold Zfj at h
 split at h
 ·cases h; obtain ⟨hp0,hp1,hp2,hp3,hp4,hp5,hq0,hq1⟩:=hp; obtain ⟨_,rfl⟩:=Zu hq0; obtain ⟨_,rfl⟩:=Zu hq1; simp only [Zi,Zp,Zj,Zq] at hp0 hp1 hp2 hp3 hp4 hp5 ⊢; exact (Zta _ _ _ _ _ _ _ _ _ _ _ _ _ _ _ _ _ _ _ _ _ _ _ _ _ _ _ _ _ _ _ hp0 hp1 hp2 hp3 hp4 hp5).lift rfl _
 ·cases h
theorem Zp3 (di:Int) (s:ByteArray) (dd dm dl dt dj:Int) (bx:List D) (ck cr:Int) (mp:List Int) (cz:Int) (ra pe:Int) (sg:List D) (ru:Bool) (si:Int) (q ct cd cg cm c n d a p f:Int) (l:List Int) (lo mi:Int) (hs:ZhD s dd dm dl dt dj) (hv:ZgQ bx ck cr mp cz ra pe sg) (hb:brV ⟨q,⟨ct,cd,cg,cm⟩,⟨c,⟨n,d,a,p,f⟩,l⟩,lo,mi⟩=true) (hl:l.length≤1000000) (hc:c=mp.length∧n=1∧d=1) (hsi:0≤si∧si≤1099511627776):Spec Tryz.prog 0 121 [.agg [.d (.int .u64 di),.d (.str s),.d (.int .i64 dd),.d (.int .i64 dm),.d (.int .i64 dl),.d (.int .i64 dt),.d (.int .i64 dj),.d (.list bx),.d (.int .i64 ck),.d (.int .i64 cr),.d (.list (LI .i64 mp)),.d (.int .i64 cz),.d (.int .i64 ra),.d (.int .i64 pe),.d (.list sg),.d (.bool ru),.d (.int .i64 si),.d (.int .i64 q),.d (.int .i64 ct),.d (.int .i64 cd),.d (.int .i64 cg),.d (.int .i64 cm),.d (.int .i64 c),.d (.int .i64 n),.d (.int .i64 d),.d (.int .i64 a),.d (.int .i64 p),.d (.int .i64 f),.d (.list (LI .i32 l)),.d (.int .i64 lo),.d (.int .i64 mi)]] [] [] (vB true) [] []:=by
 refine sE (md:=fun _=>0) (L:=[(133,Zfj)]) [] 7 (Za ZjK Zb) Tryz.func121 rfl rfl rfl ?_
 simp (maxSteps:=1000000) only [↓Zo,Ze,Zd,Zn,gSt,gS0,Ya,Yb,↓reduceIte,reduceCtorEq,Yc,Yd,Ye,Yf,Yg,Yj,Yk,Yl,Ym,Yn,ZjJ,gE1,gE2,Tryz.ntmps121,Tryz.results121,gTT]
 exact ⟨hs,hv,hb,hl,hc,hsi⟩
def Zdd:List V→Zf→Zw→Name→Option Ent
 | [.agg [.d (.int .u64 di),.d (.str s),.d (.int .i64 dd),.d (.int .i64 dm),.d (.int .i64 dl),.d (.int .i64 dt),.d (.int .i64 dj),.d (.list bx),.d (.int .i64 ck),.d (.int .i64 cr),.d (.list q_mp),.d (.int .i64 cz),.d (.int .i64 ra),.d (.int .i64 pe),.d (.list sg),.d (.bool ru),.d (.int .i64 si),.d (.int .i64 q),.d (.int .i64 ct),.d (.int .i64 cd),.d (.int .i64 cg),.d (.int .i64 cm),.d (.int .i64 c),.d (.int .i64 n),.d (.int .i64 d),.d (.int .i64 a),.d (.int .i64 p),.d (.int .i64 f),.d (.list q_l),.d (.int .i64 lo),.d (.int .i64 mi)]],[],[],_=>some ⟨ZhD s dd dm dl dt dj∧ZgQ bx ck cr (Zc q_mp) cz ra pe sg∧brV ⟨q,⟨ct,cd,cg,cm⟩,⟨c,⟨n,d,a,p,f⟩,(Zc q_l)⟩,lo,mi⟩=true∧(Zc q_l).length≤1000000∧(c=(Zc q_mp).length∧n=1∧d=1)∧(0≤si∧si≤1099511627776)∧q_mp=LI .i64 (Zc q_mp)∧q_l=LI .i32 (Zc q_l),vB true,[],[]⟩
 | _,_,_,_=>none
def ZhO:=And.intro (@Zdd.eq_1) (@Zdd.eq_1)
theorem ZhP:Snd Tryz.prog 121 Zdd:=by
 intro vs b k n e h hn hp
 unfold Zdd at h
 split at h
 ·cases h; obtain ⟨hp0,hp1,hp2,hp3,hp4,hp5,hq0,hq1⟩:=hp; obtain ⟨_,rfl⟩:=Zu hq0; obtain ⟨_,rfl⟩:=Zu hq1; simp only [Zi,Zp,Zj,Zq] at hp0 hp1 hp2 hp3 hp4 hp5 ⊢; exact (Zp3 _ _ _ _ _ _ _ _ _ _ _ _ _ _ _ _ _ _ _ _ _ _ _ _ _ _ _ _ _ _ _ hp0 hp1 hp2 hp3 hp4 hp5).lift rfl _
 ·cases h
end Go.Vam
end
