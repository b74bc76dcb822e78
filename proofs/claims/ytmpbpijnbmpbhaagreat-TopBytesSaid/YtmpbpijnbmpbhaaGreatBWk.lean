/- A part of the proof. Conditions: none. -/
import Derived.Test.YtmpbpijnbmpbhaaGreatBWj
set_option linter.unusedVariables false
set_option linter.defProp false
set_option linter.unusedSimpArgs false
set_option maxRecDepth 40000
set_option maxHeartbeats 4000000
namespace Go.Vam
open Go.Proofs
open Nat renaming reduceShiftRight→Ya,reduceMod→Yb,reduceEqDiff→Yc,reduceLT→Yd,reduceLeDiff→Ye,reduceAdd→Yf,reduceMul→Yg
open Int renaming reduceLE→Yj,reduceLT→Yk,reduceNeg→Yl,reduceAdd→Ym,reduceToNat→Yn
theorem ZNQ:ruV 1=.ts [some 2,none] [.d (.list (LI .i64 [1,2])),.fn 197 [(⟨1,12⟩,0)],.d (.bool true)]:=rfl
theorem ZNJ:ruB 1=[(⟨1,12⟩,[.d (.int .i64 3)])]:=rfl
theorem ZNR:ruV 2=.ts [some 2,none] [.d (.list (LI .i64 [3])),.fn 197 [(⟨1,12⟩,0)],.d (.bool true)]:=rfl
theorem ZNK:ruB 2=[(⟨1,12⟩,[.d (.int .i64 4)])]:=rfl
theorem ZNS:ruV 3=.ts [some 2,none] [.d (.list (LI .i64 [4])),.fn 197 [(⟨1,12⟩,0)],.d (.bool true)]:=rfl
theorem ZNL:ruB 3=[(⟨1,12⟩,[.d (.int .i64 3)])]:=rfl
theorem ZNT:ruV 4=.ts [some 2,none] [.d (.list (LI .i64 [2,3,4])),.fn 197 [(⟨1,12⟩,0)],.d (.bool true)]:=rfl
theorem ZNM:ruB 4=[(⟨1,12⟩,[.d (.int .i64 5)])]:=rfl
theorem ZNU:ruV 5=.ts [some 2,none] [.d (.list (LI .i64 [1,2,3,4,5])),.fn 198 [(⟨1,12⟩,0)],.d (.bool true)]:=rfl
theorem ZNN:ruB 5=[(⟨1,12⟩,[.d (.int .i64 6)])]:=rfl
theorem ZNV:ruV 6=.ts [some 2,none] [.d (.list (LI .i64 [1,2,3,4,5,6])),.fn 198 [(⟨1,12⟩,0)],.d (.bool true)]:=rfl
theorem ZNO:ruB 6=[(⟨1,12⟩,[.d (.int .i64 7)])]:=rfl
theorem ZNW:ruV 7=.ts [some 2,none] [.d (.list (LI .i64 [1,2,3,4])),.fn 128 [],.d (.bool true)]:=rfl
theorem ZNP:ruB 7=[]:=rfl
theorem ZGx:ZHZ=.ts [some 2,none] [.nil,.d (.raw .nilFunc),.d (.bool false)]:=rfl
theorem ZEd (di st q s0 c n d a p f:Int) (l:List Int) (gc gq gw gr:Int) (gl:List Int) (wr pl mi:Int) (k:Int) (hl:l.length≤1000000) (hg:gl.length≤1000000):Spec Tryz.prog 0 11 [.agg [.d (.int .i64 di),.d (.int .i64 st),.d (.int .i64 q),.d (.int .i64 s0),.d (.int .i64 c),.d (.int .i64 n),.d (.int .i64 d),.d (.int .i64 a),.d (.int .i64 p),.d (.int .i64 f),.d (.list (LI .i32 l)),.d (.int .i64 gc),.d (.int .i64 gq),.d (.int .i64 gw),.d (.int .i64 gr),.d (.list (LI .i32 gl)),.d (.int .i64 wr),.d (.int .i64 pl),.d (.int .i64 mi)],.c (.d (.int .i64 k))] [] [] (.tup [.agg (smD (doR ⟨di,st,q,s0,⟨c,⟨n,d,a,p,f⟩,l⟩,⟨gc,gq,gw,gr,gl⟩,wr,pl,mi⟩ k)),.int .i64 (doE ⟨di,st,q,s0,⟨c,⟨n,d,a,p,f⟩,l⟩,⟨gc,gq,gw,gr,gl⟩,wr,pl,mi⟩ k)]) [] []:=by
 have hT:TOk ⟨Tryz.prog,tt,Tryz.f11.ntmps,1,fun _=>0,(tab [(49,Zb6),(51,Zb3),(52,ZaB),(53,ZgG),(197,Zfn),(198,Zhp),(128,ZdJ)])⟩:=⟨Z7,ZI (Za ZcI (Za Zlb (Za Zbb (Za ZgH (Za Zsk (Za Zwz (Za Zo1 Zb))))))) _ rfl rfl⟩
 refine ZkZ (X:=⟨Tryz.prog,tt,Tryz.f11.ntmps,1,fun _=>0,(tab [(49,Zb6),(51,Zb3),(52,ZaB),(53,ZgG),(197,Zfn),(198,Zhp),(128,ZdJ)])⟩) rfl rfl hT Zs Tryz.func11 rfl (by decide) (by show (2:Nat)≤_; exact Nat.le_of_ble_eq_true rfl) ⟨fun m hm=>(V.bare_has rfl m hm).elim,by simp,by simp⟩ ZsF (fun S aa ww hs=>?_)
 revert aa ww
 refine ZDY (M:=[(7,[0,0,0,0,0,108055604865794551,0,0,0,0,0,106960491284529655,0,0,0,0]),(9,[0,0,0,0,0,18885502763806629298679,0,0,0,0,0,18741964036483076850167,0,0,0,0,0,0])]) (m:=72057594172408311) hT Zs ?_
 simp (maxSteps:=1000000) only [↓Zn,Ze,Zd,Zm,gSt,gS0,Ya,Yb,↓reduceIte,reduceCtorEq,Yc,Yd,Ye,Yf,Yg,Yj,Yk,Yl,Ym,Yn,ZE,Zy,Zx,ZV,ZM,ZU,ZH,gE1,Tryz.ntmps11,Tryz.results11,gTT]
 intro aa ww hs
 refine wp_seq (wp_region ?_)
 show wpOps _ _ _ (List.range' 0 (6+3)) aa ww
 refine ZFS (m:=6) rfl rfl rfl rfl rfl rfl rfl rfl rfl rfl rfl rfl (by decide) rfl rfl rfl ?_ (fun hk=>?_) (fun hk=>?_) hs
 ·show FreeB _ ⟨1,12⟩
  simp (maxSteps:=1000000) only [↓Zn,Ze,Zd,Zm,gSt,gS0,Ya,Yb,↓reduceIte,reduceCtorEq,Yc,Yd,Ye,Yf,Yg,Yj,Yk,Yl,Ym,Yn,ZE,Zy,Zx,ZV,ZM,ZU,ZH,gE1,Tryz.ntmps11,Tryz.results11,gTT]
 ·have hk2:k=1∨k=2∨k=3∨k=4∨k=5∨k=6∨k=7:=by omega
  rcases hk2 with rfl | rfl | rfl | rfl | rfl | rfl | rfl
  ·rw [ZNQ,ZNJ]
   refine Zdd (ms:=[]) hT rfl rfl ?_
   simp (maxSteps:=1000000) only [↓Zn,Ze,Zd,Zm,gSt,gS0,Ya,Yb,↓reduceIte,reduceCtorEq,Yc,Yd,Ye,Yf,Yg,Yj,Yk,Yl,Ym,Yn,ZE,Zy,Zx,ZV,ZM,ZU,ZH,gE1,Tryz.ntmps11,Tryz.results11,gTT]
   refine Zc8 (M:=[(7,[0,0,0,0,0,108055604865794551,0,0,0,0,0,106960491284529655,0,0,0,0]),(9,[0,0,0,0,0,18885502763806629298679,0,0,0,0,0,18741964036483076850167,0,0,0,0,0,0])]) (m:=72057594172408311) hT Zs ?_
   simp (maxSteps:=1000000) only [↓Zn,Ze,Zd,Zm,gSt,gS0,Ya,Yb,↓reduceIte,reduceCtorEq,Yc,Yd,Ye,Yf,Yg,Yj,Yk,Yl,Ym,Yn,ZE,Zy,Zx,ZV,ZM,ZU,ZH,gE1,Tryz.ntmps11,Tryz.results11,gTT]
   refine ⟨⟨hl,hg⟩,fun h=>?_,fun h=>?_⟩
   ·rw [doS (by decide) (do1 h),do1 h]
    rfl
   have hv:smV ⟨di,st,q,s0,⟨c,⟨n,d,a,p,f⟩,l⟩,⟨gc,gq,gw,gr,gl⟩,wr,pl,mi⟩=true:=by simpa using h
   have hb:=Zan (Zag hv).1
   have hdi:di=1∨di=2:=by
    rcases (Zag hv).2 with h2 | h2
    ·exact .inl h2.1
    ·exact .inr h2.1
   simp only at hb
   refine Zd3 (fun c1=>?_) (fun c1=>arm (fun c2=>?_) (fun c2=>⟨fun c3=>?_,fun c3=>⟨by kernel_rfl,fun _=>⟨hl,hg⟩,fun c4=>?_,fun c4=>⟨by kernel_rfl,⟨hl,hg⟩,?_⟩⟩⟩))
   ·have c1':¬ (st=1∨st=2):=by
     have:=of_decide_eq_false c1
     rw [Zbq] at this
     simpa using this
    have e:=do9 hv (by decide:(1:Int)≤1∧(1:Int)≤7) (by rw [Bool.eq_false_iff]; intro hA; simp [doA] at hA; omega)
    rw [doS (by decide) e,e]
    rfl
   ·have c2':(1:Int)=4∧¬ di=1:=by first | (simp at c2; done) | simpa using c2
    have e:=do9 hv (by decide:(1:Int)≤1∧(1:Int)≤7) (by rw [Bool.eq_false_iff]; intro hA; simp [doA] at hA; omega)
    rw [doS (by decide) e,e]
    rfl
   ·have c3':(1:Int)=1∧st=1∧di=1∧0 < s0:=by first | (simp at c3; done) | simpa [and_assoc] using c3
    have e:=do9 hv (by decide:(1:Int)≤1∧(1:Int)≤7) (by rw [Bool.eq_false_iff]; intro hA; simp [doA] at hA; omega)
    rw [doS (by decide) e,e]
    rfl
   all_goals
    have c1':st=1∨st=2:=by
     have c0:decide (0≤Zl4 [1,2] st 0)=true:=by simpa using c1
     have:=of_decide_eq_true c0
     rw [Zbq] at this
     simpa using this
   all_goals
    have c2':¬ ((1:Int)=4∧¬ di=1):=by
     intro ⟨a1,a2⟩
     first
     | exact absurd a1 (by decide)
     | simp [a2] at c2
   all_goals
    have c3':¬ ((1:Int)=1∧st=1∧di=1∧0 < s0):=by
     intro ⟨a1,a2,a3,a4⟩
     first
     | exact absurd a1 (by decide)
     | (simp [a2,a3,a4] at c3; done)
     | (simp [a2,a3] at c3; omega)
   all_goals
    have ha:doA ⟨di,st,q,s0,⟨c,⟨n,d,a,p,f⟩,l⟩,⟨gc,gq,gw,gr,gl⟩,wr,pl,mi⟩ 1=true:=by
     simp [doA]
     omega
   ·have c4':(1:Int)=1∧st=2∧di=1∧smN ⟨di,st,q,s0,⟨c,⟨n,d,a,p,f⟩,l⟩,⟨gc,gq,gw,gr,gl⟩,wr,pl,mi⟩ < s0:=by first | (simp at c4; done) | simpa [and_assoc] using c4
    have e:=do4 hv (by decide:(1:Int)≤1∧(1:Int)≤7) ha c4'
    rw [doS (by decide) e,e]
    rfl
   ·have c4':¬ ((1:Int)=1∧st=2∧di=1∧smN ⟨di,st,q,s0,⟨c,⟨n,d,a,p,f⟩,l⟩,⟨gc,gq,gw,gr,gl⟩,wr,pl,mi⟩ < s0):=by
     intro ⟨a1,a2,a3,a4⟩
     first
     | exact absurd a1 (by decide)
     | (have a4':=decide_eq_true a4; rw [a4',a2,a3] at c4; exact absurd c4 (by decide))
    have e:=do0 hv (by decide:(1:Int)≤1∧(1:Int)≤7) ha c4'
    have e2:doR ⟨di,st,q,s0,⟨c,⟨n,d,a,p,f⟩,l⟩,⟨gc,gq,gw,gr,gl⟩,wr,pl,mi⟩ 1=ZsZ ⟨di,st,q,s0,⟨c,⟨n,d,a,p,f⟩,l⟩,⟨gc,gq,gw,gr,gl⟩,wr,pl,mi⟩ 3:=by
     unfold doR
     rw [if_pos e]
     simp [doT]
    rw [e2,e]
    try rfl
  ·rw [ZNR,ZNK]
   refine Zdd (ms:=[]) hT rfl rfl ?_
   simp (maxSteps:=1000000) only [↓Zn,Ze,Zd,Zm,gSt,gS0,Ya,Yb,↓reduceIte,reduceCtorEq,Yc,Yd,Ye,Yf,Yg,Yj,Yk,Yl,Ym,Yn,ZE,Zy,Zx,ZV,ZM,ZU,ZH,gE1,Tryz.ntmps11,Tryz.results11,gTT]
   refine Zc8 (M:=[(7,[0,0,0,0,0,108055604865794551,0,0,0,0,0,106960491284529655,0,0,0,0]),(9,[0,0,0,0,0,18885502763806629298679,0,0,0,0,0,18741964036483076850167,0,0,0,0,0,0])]) (m:=72057594172408311) hT Zs ?_
   simp (maxSteps:=1000000) only [↓Zn,Ze,Zd,Zm,gSt,gS0,Ya,Yb,↓reduceIte,reduceCtorEq,Yc,Yd,Ye,Yf,Yg,Yj,Yk,Yl,Ym,Yn,ZE,Zy,Zx,ZV,ZM,ZU,ZH,gE1,Tryz.ntmps11,Tryz.results11,gTT]
   refine ⟨⟨hl,hg⟩,fun h=>?_,fun h=>?_⟩
   ·rw [doS (by decide) (do1 h),do1 h]
    rfl
   have hv:smV ⟨di,st,q,s0,⟨c,⟨n,d,a,p,f⟩,l⟩,⟨gc,gq,gw,gr,gl⟩,wr,pl,mi⟩=true:=by simpa using h
   have hb:=Zan (Zag hv).1
   have hdi:di=1∨di=2:=by
    rcases (Zag hv).2 with h2 | h2
    ·exact .inl h2.1
    ·exact .inr h2.1
   simp only at hb
   refine Zd3 (fun c1=>?_) (fun c1=>arm (fun c2=>?_) (fun c2=>⟨fun c3=>?_,fun c3=>⟨by kernel_rfl,fun _=>⟨hl,hg⟩,fun c4=>?_,fun c4=>⟨by kernel_rfl,⟨hl,hg⟩,?_⟩⟩⟩))
   ·have c1':¬ (st=3):=by
     have:=of_decide_eq_false c1
     rw [Zbq] at this
     simpa using this
    have e:=do9 hv (by decide:(1:Int)≤2∧(2:Int)≤7) (by rw [Bool.eq_false_iff]; intro hA; simp [doA] at hA; omega)
    rw [doS (by decide) e,e]
    rfl
   ·have c2':(2:Int)=4∧¬ di=1:=by first | (simp at c2; done) | simpa using c2
    have e:=do9 hv (by decide:(1:Int)≤2∧(2:Int)≤7) (by rw [Bool.eq_false_iff]; intro hA; simp [doA] at hA; omega)
    rw [doS (by decide) e,e]
    rfl
   ·have c3':(2:Int)=1∧st=1∧di=1∧0 < s0:=by first | (simp at c3; done) | simpa [and_assoc] using c3
    have e:=do9 hv (by decide:(1:Int)≤2∧(2:Int)≤7) (by rw [Bool.eq_false_iff]; intro hA; simp [doA] at hA; omega)
    rw [doS (by decide) e,e]
    rfl
   all_goals
    have c1':st=3:=by
     have c0:decide (0≤Zl4 [3] st 0)=true:=by simpa using c1
     have:=of_decide_eq_true c0
     rw [Zbq] at this
     simpa using this
   all_goals
    have c2':¬ ((2:Int)=4∧¬ di=1):=by
     intro ⟨a1,a2⟩
     first
     | exact absurd a1 (by decide)
     | simp [a2] at c2
   all_goals
    have c3':¬ ((2:Int)=1∧st=1∧di=1∧0 < s0):=by
     intro ⟨a1,a2,a3,a4⟩
     first
     | exact absurd a1 (by decide)
     | (simp [a2,a3,a4] at c3; done)
     | (simp [a2,a3] at c3; omega)
   all_goals
    have ha:doA ⟨di,st,q,s0,⟨c,⟨n,d,a,p,f⟩,l⟩,⟨gc,gq,gw,gr,gl⟩,wr,pl,mi⟩ 2=true:=by
     simp [doA]
     omega
   ·have c4':(2:Int)=1∧st=2∧di=1∧smN ⟨di,st,q,s0,⟨c,⟨n,d,a,p,f⟩,l⟩,⟨gc,gq,gw,gr,gl⟩,wr,pl,mi⟩ < s0:=by first | (simp at c4; done) | simpa [and_assoc] using c4
    have e:=do4 hv (by decide:(1:Int)≤2∧(2:Int)≤7) ha c4'
    rw [doS (by decide) e,e]
    rfl
   ·have c4':¬ ((2:Int)=1∧st=2∧di=1∧smN ⟨di,st,q,s0,⟨c,⟨n,d,a,p,f⟩,l⟩,⟨gc,gq,gw,gr,gl⟩,wr,pl,mi⟩ < s0):=by
     intro ⟨a1,a2,a3,a4⟩
     first
     | exact absurd a1 (by decide)
     | (have a4':=decide_eq_true a4; rw [a4',a2,a3] at c4; exact absurd c4 (by decide))
    have e:=do0 hv (by decide:(1:Int)≤2∧(2:Int)≤7) ha c4'
    have e2:doR ⟨di,st,q,s0,⟨c,⟨n,d,a,p,f⟩,l⟩,⟨gc,gq,gw,gr,gl⟩,wr,pl,mi⟩ 2=ZsZ ⟨di,st,q,s0,⟨c,⟨n,d,a,p,f⟩,l⟩,⟨gc,gq,gw,gr,gl⟩,wr,pl,mi⟩ 4:=by
     unfold doR
     rw [if_pos e]
     simp [doT]
    rw [e2,e]
    try rfl
  ·rw [ZNS,ZNL]
   refine Zdd (ms:=[]) hT rfl rfl ?_
   simp (maxSteps:=1000000) only [↓Zn,Ze,Zd,Zm,gSt,gS0,Ya,Yb,↓reduceIte,reduceCtorEq,Yc,Yd,Ye,Yf,Yg,Yj,Yk,Yl,Ym,Yn,ZE,Zy,Zx,ZV,ZM,ZU,ZH,gE1,Tryz.ntmps11,Tryz.results11,gTT]
   refine Zc8 (M:=[(7,[0,0,0,0,0,108055604865794551,0,0,0,0,0,106960491284529655,0,0,0,0]),(9,[0,0,0,0,0,18885502763806629298679,0,0,0,0,0,18741964036483076850167,0,0,0,0,0,0])]) (m:=72057594172408311) hT Zs ?_
   simp (maxSteps:=1000000) only [↓Zn,Ze,Zd,Zm,gSt,gS0,Ya,Yb,↓reduceIte,reduceCtorEq,Yc,Yd,Ye,Yf,Yg,Yj,Yk,Yl,Ym,Yn,ZE,Zy,Zx,ZV,ZM,ZU,ZH,gE1,Tryz.ntmps11,Tryz.results11,gTT]
   refine ⟨⟨hl,hg⟩,fun h=>?_,fun h=>?_⟩
   ·rw [doS (by decide) (do1 h),do1 h]
    rfl
   have hv:smV ⟨di,st,q,s0,⟨c,⟨n,d,a,p,f⟩,l⟩,⟨gc,gq,gw,gr,gl⟩,wr,pl,mi⟩=true:=by simpa using h
   have hb:=Zan (Zag hv).1
   have hdi:di=1∨di=2:=by
    rcases (Zag hv).2 with h2 | h2
    ·exact .inl h2.1
    ·exact .inr h2.1
   simp only at hb
   refine Zd3 (fun c1=>?_) (fun c1=>arm (fun c2=>?_) (fun c2=>⟨fun c3=>?_,fun c3=>⟨by kernel_rfl,fun _=>⟨hl,hg⟩,fun c4=>?_,fun c4=>⟨by kernel_rfl,⟨hl,hg⟩,?_⟩⟩⟩))
   ·have c1':¬ (st=4):=by
     have:=of_decide_eq_false c1
     rw [Zbq] at this
     simpa using this
    have e:=do9 hv (by decide:(1:Int)≤3∧(3:Int)≤7) (by rw [Bool.eq_false_iff]; intro hA; simp [doA] at hA; omega)
    rw [doS (by decide) e,e]
    rfl
   ·have c2':(3:Int)=4∧¬ di=1:=by first | (simp at c2; done) | simpa using c2
    have e:=do9 hv (by decide:(1:Int)≤3∧(3:Int)≤7) (by rw [Bool.eq_false_iff]; intro hA; simp [doA] at hA; omega)
    rw [doS (by decide) e,e]
    rfl
   ·have c3':(3:Int)=1∧st=1∧di=1∧0 < s0:=by first | (simp at c3; done) | simpa [and_assoc] using c3
    have e:=do9 hv (by decide:(1:Int)≤3∧(3:Int)≤7) (by rw [Bool.eq_false_iff]; intro hA; simp [doA] at hA; omega)
    rw [doS (by decide) e,e]
    rfl
   all_goals
    have c1':st=4:=by
     have c0:decide (0≤Zl4 [4] st 0)=true:=by simpa using c1
     have:=of_decide_eq_true c0
     rw [Zbq] at this
     simpa using this
   all_goals
    have c2':¬ ((3:Int)=4∧¬ di=1):=by
     intro ⟨a1,a2⟩
     first
     | exact absurd a1 (by decide)
     | simp [a2] at c2
   all_goals
    have c3':¬ ((3:Int)=1∧st=1∧di=1∧0 < s0):=by
     intro ⟨a1,a2,a3,a4⟩
     first
     | exact absurd a1 (by decide)
     | (simp [a2,a3,a4] at c3; done)
     | (simp [a2,a3] at c3; omega)
   all_goals
    have ha:doA ⟨di,st,q,s0,⟨c,⟨n,d,a,p,f⟩,l⟩,⟨gc,gq,gw,gr,gl⟩,wr,pl,mi⟩ 3=true:=by
     simp [doA]
     omega
   ·have c4':(3:Int)=1∧st=2∧di=1∧smN ⟨di,st,q,s0,⟨c,⟨n,d,a,p,f⟩,l⟩,⟨gc,gq,gw,gr,gl⟩,wr,pl,mi⟩ < s0:=by first | (simp at c4; done) | simpa [and_assoc] using c4
    have e:=do4 hv (by decide:(1:Int)≤3∧(3:Int)≤7) ha c4'
    rw [doS (by decide) e,e]
    rfl
   ·have c4':¬ ((3:Int)=1∧st=2∧di=1∧smN ⟨di,st,q,s0,⟨c,⟨n,d,a,p,f⟩,l⟩,⟨gc,gq,gw,gr,gl⟩,wr,pl,mi⟩ < s0):=by
     intro ⟨a1,a2,a3,a4⟩
     first
     | exact absurd a1 (by decide)
     | (have a4':=decide_eq_true a4; rw [a4',a2,a3] at c4; exact absurd c4 (by decide))
    have e:=do0 hv (by decide:(1:Int)≤3∧(3:Int)≤7) ha c4'
    have e2:doR ⟨di,st,q,s0,⟨c,⟨n,d,a,p,f⟩,l⟩,⟨gc,gq,gw,gr,gl⟩,wr,pl,mi⟩ 3=ZsZ ⟨di,st,q,s0,⟨c,⟨n,d,a,p,f⟩,l⟩,⟨gc,gq,gw,gr,gl⟩,wr,pl,mi⟩ 3:=by
     unfold doR
     rw [if_pos e]
     simp [doT]
    rw [e2,e]
    try rfl
  ·rw [ZNT,ZNM]
   refine Zdd (ms:=[]) hT rfl rfl ?_
   simp (maxSteps:=1000000) only [↓Zn,Ze,Zd,Zm,gSt,gS0,Ya,Yb,↓reduceIte,reduceCtorEq,Yc,Yd,Ye,Yf,Yg,Yj,Yk,Yl,Ym,Yn,ZE,Zy,Zx,ZV,ZM,ZU,ZH,gE1,Tryz.ntmps11,Tryz.results11,gTT]
   refine Zc8 (M:=[(7,[0,0,0,0,0,108055604865794551,0,0,0,0,0,106960491284529655,0,0,0,0]),(9,[0,0,0,0,0,18885502763806629298679,0,0,0,0,0,18741964036483076850167,0,0,0,0,0,0])]) (m:=72057594172408311) hT Zs ?_
   simp (maxSteps:=1000000) only [↓Zn,Ze,Zd,Zm,gSt,gS0,Ya,Yb,↓reduceIte,reduceCtorEq,Yc,Yd,Ye,Yf,Yg,Yj,Yk,Yl,Ym,Yn,ZE,Zy,Zx,ZV,ZM,ZU,ZH,gE1,Tryz.ntmps11,Tryz.results11,gTT]
   refine ⟨⟨hl,hg⟩,fun h=>?_,fun h=>?_⟩
   ·rw [doS (by decide) (do1 h),do1 h]
    rfl
   have hv:smV ⟨di,st,q,s0,⟨c,⟨n,d,a,p,f⟩,l⟩,⟨gc,gq,gw,gr,gl⟩,wr,pl,mi⟩=true:=by simpa using h
   have hb:=Zan (Zag hv).1
   have hdi:di=1∨di=2:=by
    rcases (Zag hv).2 with h2 | h2
    ·exact .inl h2.1
    ·exact .inr h2.1
   simp only at hb
   refine Zd3 (fun c1=>?_) (fun c1=>Zd3 (fun c2=>?_) (fun c2=>⟨fun c3=>?_,fun c3=>⟨by kernel_rfl,fun _=>⟨hl,hg⟩,fun c4=>?_,fun c4=>⟨by kernel_rfl,⟨hl,hg⟩,?_⟩⟩⟩))
   ·have c1':¬ (st=2∨st=3∨st=4):=by
     have:=of_decide_eq_false c1
     rw [Zbq] at this
     simpa using this
    have e:=do9 hv (by decide:(1:Int)≤4∧(4:Int)≤7) (by rw [Bool.eq_false_iff]; intro hA; simp [doA] at hA; omega)
    rw [doS (by decide) e,e]
    rfl
   ·have c2':(4:Int)=4∧¬ di=1:=by first | (simp at c2; done) | simpa using c2
    have e:=do9 hv (by decide:(1:Int)≤4∧(4:Int)≤7) (by rw [Bool.eq_false_iff]; intro hA; simp [doA] at hA; omega)
    rw [doS (by decide) e,e]
    rfl
   ·have c3':(4:Int)=1∧st=1∧di=1∧0 < s0:=by first | (simp at c3; done) | simpa [and_assoc] using c3
    have e:=do9 hv (by decide:(1:Int)≤4∧(4:Int)≤7) (by rw [Bool.eq_false_iff]; intro hA; simp [doA] at hA; omega)
    rw [doS (by decide) e,e]
    rfl
   all_goals
    have c1':st=2∨st=3∨st=4:=by
     have c0:decide (0≤Zl4 [2,3,4] st 0)=true:=by simpa using c1
     have:=of_decide_eq_true c0
     rw [Zbq] at this
     simpa using this
   all_goals
    have c2':¬ ((4:Int)=4∧¬ di=1):=by
     intro ⟨a1,a2⟩
     first
     | exact absurd a1 (by decide)
     | simp [a2] at c2
   all_goals
    have c3':¬ ((4:Int)=1∧st=1∧di=1∧0 < s0):=by
     intro ⟨a1,a2,a3,a4⟩
     first
     | exact absurd a1 (by decide)
     | (simp [a2,a3,a4] at c3; done)
     | (simp [a2,a3] at c3; omega)
   all_goals
    have ha:doA ⟨di,st,q,s0,⟨c,⟨n,d,a,p,f⟩,l⟩,⟨gc,gq,gw,gr,gl⟩,wr,pl,mi⟩ 4=true:=by
     simp [doA]
     omega
   ·have c4':(4:Int)=1∧st=2∧di=1∧smN ⟨di,st,q,s0,⟨c,⟨n,d,a,p,f⟩,l⟩,⟨gc,gq,gw,gr,gl⟩,wr,pl,mi⟩ < s0:=by first | (simp at c4; done) | simpa [and_assoc] using c4
    have e:=do4 hv (by decide:(1:Int)≤4∧(4:Int)≤7) ha c4'
    rw [doS (by decide) e,e]
    rfl
   ·have c4':¬ ((4:Int)=1∧st=2∧di=1∧smN ⟨di,st,q,s0,⟨c,⟨n,d,a,p,f⟩,l⟩,⟨gc,gq,gw,gr,gl⟩,wr,pl,mi⟩ < s0):=by
     intro ⟨a1,a2,a3,a4⟩
     first
     | exact absurd a1 (by decide)
     | (have a4':=decide_eq_true a4; rw [a4',a2,a3] at c4; exact absurd c4 (by decide))
    have e:=do0 hv (by decide:(1:Int)≤4∧(4:Int)≤7) ha c4'
    have e2:doR ⟨di,st,q,s0,⟨c,⟨n,d,a,p,f⟩,l⟩,⟨gc,gq,gw,gr,gl⟩,wr,pl,mi⟩ 4=ZsZ ⟨di,st,q,s0,⟨c,⟨n,d,a,p,f⟩,l⟩,⟨gc,gq,gw,gr,gl⟩,wr,pl,mi⟩ 5:=by
     unfold doR
     rw [if_pos e]
     simp [doT]
    rw [e2,e]
    try rfl
  ·rw [ZNU,ZNN]
   refine Zdd (ms:=[]) hT rfl rfl ?_
   simp (maxSteps:=1000000) only [↓Zn,Ze,Zd,Zm,gSt,gS0,Ya,Yb,↓reduceIte,reduceCtorEq,Yc,Yd,Ye,Yf,Yg,Yj,Yk,Yl,Ym,Yn,ZE,Zy,Zx,ZV,ZM,ZU,ZH,gE1,Tryz.ntmps11,Tryz.results11,gTT]
   refine Zc8 (M:=[(7,[0,0,0,0,0,108055604865794551,0,0,0,0,0,106960491284529655,0,0,0,0]),(9,[0,0,0,0,0,18885502763806629298679,0,0,0,0,0,18741964036483076850167,0,0,0,0,0,0])]) (m:=72057594172408311) hT Zs ?_
   simp (maxSteps:=1000000) only [↓Zn,Ze,Zd,Zm,gSt,gS0,Ya,Yb,↓reduceIte,reduceCtorEq,Yc,Yd,Ye,Yf,Yg,Yj,Yk,Yl,Ym,Yn,ZE,Zy,Zx,ZV,ZM,ZU,ZH,gE1,Tryz.ntmps11,Tryz.results11,gTT]
   refine ⟨⟨hl,hg⟩,fun h=>?_,fun h=>?_⟩
   ·rw [doS (by decide) (do1 h),do1 h]
    rfl
   have hv:smV ⟨di,st,q,s0,⟨c,⟨n,d,a,p,f⟩,l⟩,⟨gc,gq,gw,gr,gl⟩,wr,pl,mi⟩=true:=by simpa using h
   have hb:=Zan (Zag hv).1
   have hdi:di=1∨di=2:=by
    rcases (Zag hv).2 with h2 | h2
    ·exact .inl h2.1
    ·exact .inr h2.1
   simp only at hb
   refine Zd3 (fun c1=>?_) (fun c1=>arm (fun c2=>?_) (fun c2=>⟨fun c3=>?_,fun c3=>⟨by kernel_rfl,fun _=>⟨hl,hg⟩,fun c4=>?_,fun c4=>⟨by kernel_rfl,⟨hl,hg⟩,⟨hl,hg⟩,?_⟩⟩⟩))
   ·have c1':¬ (st=1∨st=2∨st=3∨st=4∨st=5):=by
     have:=of_decide_eq_false c1
     rw [Zbq] at this
     simpa using this
    have e:=do9 hv (by decide:(1:Int)≤5∧(5:Int)≤7) (by rw [Bool.eq_false_iff]; intro hA; simp [doA] at hA; omega)
    rw [doS (by decide) e,e]
    rfl
   ·have c2':(5:Int)=4∧¬ di=1:=by first | (simp at c2; done) | simpa using c2
    have e:=do9 hv (by decide:(1:Int)≤5∧(5:Int)≤7) (by rw [Bool.eq_false_iff]; intro hA; simp [doA] at hA; omega)
    rw [doS (by decide) e,e]
    rfl
   ·have c3':(5:Int)=1∧st=1∧di=1∧0 < s0:=by first | (simp at c3; done) | simpa [and_assoc] using c3
    have e:=do9 hv (by decide:(1:Int)≤5∧(5:Int)≤7) (by rw [Bool.eq_false_iff]; intro hA; simp [doA] at hA; omega)
    rw [doS (by decide) e,e]
    rfl
   all_goals
    have c1':st=1∨st=2∨st=3∨st=4∨st=5:=by
     have c0:decide (0≤Zl4 [1,2,3,4,5] st 0)=true:=by simpa using c1
     have:=of_decide_eq_true c0
     rw [Zbq] at this
     simpa using this
   all_goals
    have c2':¬ ((5:Int)=4∧¬ di=1):=by
     intro ⟨a1,a2⟩
     first
     | exact absurd a1 (by decide)
     | simp [a2] at c2
   all_goals
    have c3':¬ ((5:Int)=1∧st=1∧di=1∧0 < s0):=by
     intro ⟨a1,a2,a3,a4⟩
     first
     | exact absurd a1 (by decide)
     | (simp [a2,a3,a4] at c3; done)
     | (simp [a2,a3] at c3; omega)
   all_goals
    have ha:doA ⟨di,st,q,s0,⟨c,⟨n,d,a,p,f⟩,l⟩,⟨gc,gq,gw,gr,gl⟩,wr,pl,mi⟩ 5=true:=by
     simp [doA]
     omega
   ·have c4':(5:Int)=1∧st=2∧di=1∧smN ⟨di,st,q,s0,⟨c,⟨n,d,a,p,f⟩,l⟩,⟨gc,gq,gw,gr,gl⟩,wr,pl,mi⟩ < s0:=by first | (simp at c4; done) | simpa [and_assoc] using c4
    have e:=do4 hv (by decide:(1:Int)≤5∧(5:Int)≤7) ha c4'
    rw [doS (by decide) e,e]
    rfl
   ·have c4':¬ ((5:Int)=1∧st=2∧di=1∧smN ⟨di,st,q,s0,⟨c,⟨n,d,a,p,f⟩,l⟩,⟨gc,gq,gw,gr,gl⟩,wr,pl,mi⟩ < s0):=by
     intro ⟨a1,a2,a3,a4⟩
     first
     | exact absurd a1 (by decide)
     | (have a4':=decide_eq_true a4; rw [a4',a2,a3] at c4; exact absurd c4 (by decide))
    have e:=do0 hv (by decide:(1:Int)≤5∧(5:Int)≤7) ha c4'
    have e2:doR ⟨di,st,q,s0,⟨c,⟨n,d,a,p,f⟩,l⟩,⟨gc,gq,gw,gr,gl⟩,wr,pl,mi⟩ 5=smE (ZsZ ⟨di,st,q,s0,⟨c,⟨n,d,a,p,f⟩,l⟩,⟨gc,gq,gw,gr,gl⟩,wr,pl,mi⟩ 6):=by
     unfold doR
     rw [if_pos e]
     simp [doT]
    rw [e2,e]
    try rfl
  ·rw [ZNV,ZNO]
   refine Zdd (ms:=[]) hT rfl rfl ?_
   simp (maxSteps:=1000000) only [↓Zn,Ze,Zd,Zm,gSt,gS0,Ya,Yb,↓reduceIte,reduceCtorEq,Yc,Yd,Ye,Yf,Yg,Yj,Yk,Yl,Ym,Yn,ZE,Zy,Zx,ZV,ZM,ZU,ZH,gE1,Tryz.ntmps11,Tryz.results11,gTT]
   refine Zc8 (M:=[(7,[0,0,0,0,0,108055604865794551,0,0,0,0,0,106960491284529655,0,0,0,0]),(9,[0,0,0,0,0,18885502763806629298679,0,0,0,0,0,18741964036483076850167,0,0,0,0,0,0])]) (m:=72057594172408311) hT Zs ?_
   simp (maxSteps:=1000000) only [↓Zn,Ze,Zd,Zm,gSt,gS0,Ya,Yb,↓reduceIte,reduceCtorEq,Yc,Yd,Ye,Yf,Yg,Yj,Yk,Yl,Ym,Yn,ZE,Zy,Zx,ZV,ZM,ZU,ZH,gE1,Tryz.ntmps11,Tryz.results11,gTT]
   refine ⟨⟨hl,hg⟩,fun h=>?_,fun h=>?_⟩
   ·rw [doS (by decide) (do1 h),do1 h]
    rfl
   have hv:smV ⟨di,st,q,s0,⟨c,⟨n,d,a,p,f⟩,l⟩,⟨gc,gq,gw,gr,gl⟩,wr,pl,mi⟩=true:=by simpa using h
   have hb:=Zan (Zag hv).1
   have hdi:di=1∨di=2:=by
    rcases (Zag hv).2 with h2 | h2
    ·exact .inl h2.1
    ·exact .inr h2.1
   simp only at hb
   refine Zd3 (fun c1=>?_) (fun c1=>arm (fun c2=>?_) (fun c2=>⟨fun c3=>?_,fun c3=>⟨by kernel_rfl,fun _=>⟨hl,hg⟩,fun c4=>?_,fun c4=>⟨by kernel_rfl,⟨hl,hg⟩,⟨hl,hg⟩,?_⟩⟩⟩))
   ·have c1':¬ (st=1∨st=2∨st=3∨st=4∨st=5∨st=6):=by
     have:=of_decide_eq_false c1
     rw [Zbq] at this
     simpa using this
    have e:=do9 hv (by decide:(1:Int)≤6∧(6:Int)≤7) (by rw [Bool.eq_false_iff]; intro hA; simp [doA] at hA; omega)
    rw [doS (by decide) e,e]
    rfl
   ·have c2':(6:Int)=4∧¬ di=1:=by first | (simp at c2; done) | simpa using c2
    have e:=do9 hv (by decide:(1:Int)≤6∧(6:Int)≤7) (by rw [Bool.eq_false_iff]; intro hA; simp [doA] at hA; omega)
    rw [doS (by decide) e,e]
    rfl
   ·have c3':(6:Int)=1∧st=1∧di=1∧0 < s0:=by first | (simp at c3; done) | simpa [and_assoc] using c3
    have e:=do9 hv (by decide:(1:Int)≤6∧(6:Int)≤7) (by rw [Bool.eq_false_iff]; intro hA; simp [doA] at hA; omega)
    rw [doS (by decide) e,e]
    rfl
   all_goals
    have c1':st=1∨st=2∨st=3∨st=4∨st=5∨st=6:=by
     have c0:decide (0≤Zl4 [1,2,3,4,5,6] st 0)=true:=by simpa using c1
     have:=of_decide_eq_true c0
     rw [Zbq] at this
     simpa using this
   all_goals
    have c2':¬ ((6:Int)=4∧¬ di=1):=by
     intro ⟨a1,a2⟩
     first
     | exact absurd a1 (by decide)
     | simp [a2] at c2
   all_goals
    have c3':¬ ((6:Int)=1∧st=1∧di=1∧0 < s0):=by
     intro ⟨a1,a2,a3,a4⟩
     first
     | exact absurd a1 (by decide)
     | (simp [a2,a3,a4] at c3; done)
     | (simp [a2,a3] at c3; omega)
   all_goals
    have ha:doA ⟨di,st,q,s0,⟨c,⟨n,d,a,p,f⟩,l⟩,⟨gc,gq,gw,gr,gl⟩,wr,pl,mi⟩ 6=true:=by
     simp [doA]
     omega
   ·have c4':(6:Int)=1∧st=2∧di=1∧smN ⟨di,st,q,s0,⟨c,⟨n,d,a,p,f⟩,l⟩,⟨gc,gq,gw,gr,gl⟩,wr,pl,mi⟩ < s0:=by first | (simp at c4; done) | simpa [and_assoc] using c4
    have e:=do4 hv (by decide:(1:Int)≤6∧(6:Int)≤7) ha c4'
    rw [doS (by decide) e,e]
    rfl
   ·have c4':¬ ((6:Int)=1∧st=2∧di=1∧smN ⟨di,st,q,s0,⟨c,⟨n,d,a,p,f⟩,l⟩,⟨gc,gq,gw,gr,gl⟩,wr,pl,mi⟩ < s0):=by
     intro ⟨a1,a2,a3,a4⟩
     first
     | exact absurd a1 (by decide)
     | (have a4':=decide_eq_true a4; rw [a4',a2,a3] at c4; exact absurd c4 (by decide))
    have e:=do0 hv (by decide:(1:Int)≤6∧(6:Int)≤7) ha c4'
    have e2:doR ⟨di,st,q,s0,⟨c,⟨n,d,a,p,f⟩,l⟩,⟨gc,gq,gw,gr,gl⟩,wr,pl,mi⟩ 6=smE (ZsZ ⟨di,st,q,s0,⟨c,⟨n,d,a,p,f⟩,l⟩,⟨gc,gq,gw,gr,gl⟩,wr,pl,mi⟩ 7):=by
     unfold doR
     rw [if_pos e]
     simp [doT]
    rw [e2,e]
    try rfl
  ·rw [ZNW,ZNP]
   refine Zdd (ms:=[]) hT rfl rfl ?_
   simp (maxSteps:=1000000) only [↓Zn,Ze,Zd,Zm,gSt,gS0,Ya,Yb,↓reduceIte,reduceCtorEq,Yc,Yd,Ye,Yf,Yg,Yj,Yk,Yl,Ym,Yn,ZE,Zy,Zx,ZV,ZM,ZU,ZH,gE1,Tryz.ntmps11,Tryz.results11,gTT]
   refine Zc8 (M:=[(7,[0,0,0,0,0,108055604865794551,0,0,0,0,0,106960491284529655,0,0,0,0]),(9,[0,0,0,0,0,18885502763806629298679,0,0,0,0,0,18741964036483076850167,0,0,0,0,0,0])]) (m:=72057594172408311) hT Zs ?_
   simp (maxSteps:=1000000) only [↓Zn,Ze,Zd,Zm,gSt,gS0,Ya,Yb,↓reduceIte,reduceCtorEq,Yc,Yd,Ye,Yf,Yg,Yj,Yk,Yl,Ym,Yn,ZE,Zy,Zx,ZV,ZM,ZU,ZH,gE1,Tryz.ntmps11,Tryz.results11,gTT]
   refine ⟨⟨hl,hg⟩,fun h=>?_,fun h=>?_⟩
   ·rw [doS (by decide) (do1 h),do1 h]
    rfl
   have hv:smV ⟨di,st,q,s0,⟨c,⟨n,d,a,p,f⟩,l⟩,⟨gc,gq,gw,gr,gl⟩,wr,pl,mi⟩=true:=by simpa using h
   have hb:=Zan (Zag hv).1
   have hdi:di=1∨di=2:=by
    rcases (Zag hv).2 with h2 | h2
    ·exact .inl h2.1
    ·exact .inr h2.1
   simp only at hb
   refine Zd3 (fun c1=>?_) (fun c1=>arm (fun c2=>?_) (fun c2=>⟨fun c3=>?_,fun c3=>⟨by kernel_rfl,fun _=>⟨hl,hg⟩,fun c4=>?_,fun c4=>⟨by kernel_rfl,⟨hl,hg⟩,⟨hl,hg⟩,?_⟩⟩⟩))
   ·have c1':¬ (st=1∨st=2∨st=3∨st=4):=by
     have:=of_decide_eq_false c1
     rw [Zbq] at this
     simpa using this
    have e:=do9 hv (by decide:(1:Int)≤7∧(7:Int)≤7) (by rw [Bool.eq_false_iff]; intro hA; simp [doA] at hA; omega)
    rw [doS (by decide) e,e]
    rfl
   ·have c2':(7:Int)=4∧¬ di=1:=by first | (simp at c2; done) | simpa using c2
    have e:=do9 hv (by decide:(1:Int)≤7∧(7:Int)≤7) (by rw [Bool.eq_false_iff]; intro hA; simp [doA] at hA; omega)
    rw [doS (by decide) e,e]
    rfl
   ·have c3':(7:Int)=1∧st=1∧di=1∧0 < s0:=by first | (simp at c3; done) | simpa [and_assoc] using c3
    have e:=do9 hv (by decide:(1:Int)≤7∧(7:Int)≤7) (by rw [Bool.eq_false_iff]; intro hA; simp [doA] at hA; omega)
    rw [doS (by decide) e,e]
    rfl
   all_goals
    have c1':st=1∨st=2∨st=3∨st=4:=by
     have c0:decide (0≤Zl4 [1,2,3,4] st 0)=true:=by simpa using c1
     have:=of_decide_eq_true c0
     rw [Zbq] at this
     simpa using this
   all_goals
    have c2':¬ ((7:Int)=4∧¬ di=1):=by
     intro ⟨a1,a2⟩
     first
     | exact absurd a1 (by decide)
     | simp [a2] at c2
   all_goals
    have c3':¬ ((7:Int)=1∧st=1∧di=1∧0 < s0):=by
     intro ⟨a1,a2,a3,a4⟩
     first
     | exact absurd a1 (by decide)
     | (simp [a2,a3,a4] at c3; done)
     | (simp [a2,a3] at c3; omega)
   all_goals
    have ha:doA ⟨di,st,q,s0,⟨c,⟨n,d,a,p,f⟩,l⟩,⟨gc,gq,gw,gr,gl⟩,wr,pl,mi⟩ 7=true:=by
     simp [doA]
     omega
   ·have c4':(7:Int)=1∧st=2∧di=1∧smN ⟨di,st,q,s0,⟨c,⟨n,d,a,p,f⟩,l⟩,⟨gc,gq,gw,gr,gl⟩,wr,pl,mi⟩ < s0:=by first | (simp at c4; done) | simpa [and_assoc] using c4
    have e:=do4 hv (by decide:(1:Int)≤7∧(7:Int)≤7) ha c4'
    rw [doS (by decide) e,e]
    rfl
   ·have c4':¬ ((7:Int)=1∧st=2∧di=1∧smN ⟨di,st,q,s0,⟨c,⟨n,d,a,p,f⟩,l⟩,⟨gc,gq,gw,gr,gl⟩,wr,pl,mi⟩ < s0):=by
     intro ⟨a1,a2,a3,a4⟩
     first
     | exact absurd a1 (by decide)
     | (have a4':=decide_eq_true a4; rw [a4',a2,a3] at c4; exact absurd c4 (by decide))
    have e:=do0 hv (by decide:(1:Int)≤7∧(7:Int)≤7) ha c4'
    have e2:doR ⟨di,st,q,s0,⟨c,⟨n,d,a,p,f⟩,l⟩,⟨gc,gq,gw,gr,gl⟩,wr,pl,mi⟩ 7=smE (ZsZ ⟨di,st,q,s0,⟨c,⟨n,d,a,p,f⟩,l⟩,⟨gc,gq,gw,gr,gl⟩,wr,pl,mi⟩ (if st=2 then 1 else st)):=by
     unfold doR
     rw [if_pos e]
     simp [doT]
    rw [e2,e]
    try rfl
 ·rw [ZGx]
  refine Zdd (ms:=[]) hT rfl rfl ?_
  simp (maxSteps:=1000000) only [↓Zn,Ze,Zd,Zm,gSt,gS0,Ya,Yb,↓reduceIte,reduceCtorEq,Yc,Yd,Ye,Yf,Yg,Yj,Yk,Yl,Ym,Yn,ZE,Zy,Zx,ZV,ZM,ZU,ZH,gE1,Tryz.ntmps11,Tryz.results11,gTT]
  refine Zc8 (M:=[(7,[0,0,0,0,0,108055604865794551,0,0,0,0,0,106960491284529655,0,0,0,0]),(9,[0,0,0,0,0,18885502763806629298679,0,0,0,0,0,18741964036483076850167,0,0,0,0,0,0])]) (m:=72057594172408311) hT Zs ?_
  simp (maxSteps:=1000000) only [↓Zn,Ze,Zd,Zm,gSt,gS0,Ya,Yb,↓reduceIte,reduceCtorEq,Yc,Yd,Ye,Yf,Yg,Yj,Yk,Yl,Ym,Yn,ZE,Zy,Zx,ZV,ZM,ZU,ZH,gE1,Tryz.ntmps11,Tryz.results11,gTT]
  refine ⟨⟨hl,hg⟩,?_⟩
  have e:doE ⟨di,st,q,s0,⟨c,⟨n,d,a,p,f⟩,l⟩,⟨gc,gq,gw,gr,gl⟩,wr,pl,mi⟩ k=1:=by
   unfold doE
   rw [if_pos (by simp; omega)]
  rw [doS (by decide) e,e]
  rfl
def Zy8:List V→Zf→Zr→Name→Option Ent
 | [.agg [.d (.int .i64 di),.d (.int .i64 st),.d (.int .i64 q),.d (.int .i64 s0),.d (.int .i64 c),.d (.int .i64 n),.d (.int .i64 d),.d (.int .i64 a),.d (.int .i64 p),.d (.int .i64 f),.d (.list q_l),.d (.int .i64 gc),.d (.int .i64 gq),.d (.int .i64 gw),.d (.int .i64 gr),.d (.list q_gl),.d (.int .i64 wr),.d (.int .i64 pl),.d (.int .i64 mi)],.c (.d (.int .i64 k))],[],[],_=>some ⟨(Zc q_l).length≤1000000∧(Zc q_gl).length≤1000000∧q_l=LI .i32 (Zc q_l)∧q_gl=LI .i32 (Zc q_gl),.tup [.agg (smD (doR ⟨di,st,q,s0,⟨c,⟨n,d,a,p,f⟩,(Zc q_l)⟩,⟨gc,gq,gw,gr,(Zc q_gl)⟩,wr,pl,mi⟩ k)),.int .i64 (doE ⟨di,st,q,s0,⟨c,⟨n,d,a,p,f⟩,(Zc q_l)⟩,⟨gc,gq,gw,gr,(Zc q_gl)⟩,wr,pl,mi⟩ k)],[],[]⟩
 | _,_,_,_=>none
def Zc4:=And.intro (@Zy8.eq_1) (@Zy8.eq_1)
theorem ZCX:Snd Tryz.prog 11 Zy8:=by
 intro vs b k n e h hn hp
 unfold Zy8 at h
 split at h
 ·cases h; obtain ⟨hp0,hp1,hq0,hq1⟩:=hp; obtain ⟨_,rfl⟩:=Zq hq0; obtain ⟨_,rfl⟩:=Zq hq1; simp only [Zi,Zo,Zj,Zp] at hp0 hp1 ⊢; exact (ZEd _ _ _ _ _ _ _ _ _ _ _ _ _ _ _ _ _ _ _ _ hp0 hp1).lift rfl _
 ·cases h
end Go.Vam
