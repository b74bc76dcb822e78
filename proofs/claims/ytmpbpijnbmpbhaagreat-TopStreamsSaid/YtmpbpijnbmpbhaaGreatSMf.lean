/- A part of the proof. Conditions: none. -/
import Derived.Test.YtmpbpijnbmpbhaaGreatSMe
set_option linter.unusedVariables false
set_option linter.defProp false
set_option linter.unusedSimpArgs false
set_option maxRecDepth 40000
set_option maxHeartbeats 4000000
namespace Go.Vam
open Go.Proofs
open Nat renaming reduceShiftRight→Ya,reduceMod→Yb,reduceEqDiff→Yc,reduceLT→Yd,reduceLeDiff→Ye,reduceAdd→Yf,reduceMul→Yg
open Int renaming reduceLE→Yj,reduceLT→Yk,reduceNeg→Yl,reduceAdd→Ym,reduceToNat→Yn
theorem ZFt {x:Sm} {s:Int} (h:smV x=true) (hs:1≤s∧s≤7):smV (ZuE x s)=true:=by
 have hb:=Zaa (Zac h).1
 have hB:smB (ZuE x s)=true:=ZeZ hs hb.2.1 hb.2.2.1 hb.2.2.2.1 hb.2.2.2.2.1 hb.2.2.2.2.2.1 hb.2.2.2.2.2.2.1 hb.2.2.2.2.2.2.2
 rcases (Zac h).2 with hg | hg
 ·exact ZpN hB hg.1 hg.2.1 hg.2.2
 ·exact ZpO hB hg.1 hg.2.1 hg.2.2.1 hg.2.2.2
theorem ZFs {x:Sm} {s:Int} (h:smV x=true) (hs:1≤s∧s≤7):smN (ZuE x s)=smN x:=by
 unfold smN
 rw [ZFt h hs,h]
 rfl
theorem Zw2 (di st q s0 c n d a p f:Int) (l:List Int) (gc gq gw gr:Int) (gl:List Int) (wr pl mi:Int) (k:Int) (hl:l.length≤1000000) (hg:gl.length≤1000000) (hk:decide (k < 1)=true):Spec Tryz.prog 0 151 [.agg [.d (.int .i64 di),.d (.int .i64 st),.d (.int .i64 q),.d (.int .i64 s0),.d (.int .i64 c),.d (.int .i64 n),.d (.int .i64 d),.d (.int .i64 a),.d (.int .i64 p),.d (.int .i64 f),.d (.list (LI .i32 l)),.d (.int .i64 gc),.d (.int .i64 gq),.d (.int .i64 gw),.d (.int .i64 gr),.d (.list (LI .i32 gl)),.d (.int .i64 wr),.d (.int .i64 pl),.d (.int .i64 mi)],vI .i64 k] [] [] (.tup [.agg (smD (doR ⟨di,st,q,s0,⟨c,⟨n,d,a,p,f⟩,l⟩,⟨gc,gq,gw,gr,gl⟩,wr,pl,mi⟩ k)),.int .i64 (doE ⟨di,st,q,s0,⟨c,⟨n,d,a,p,f⟩,l⟩,⟨gc,gq,gw,gr,gl⟩,wr,pl,mi⟩ k)]) [] []:=by
 refine sE (md:=fun _=>0) (L:=[(145,ZY),(208,ZZ),(213,ZaA)]) [(7,[0,0,0,0,0,91270865055090108565665018544375,0,0,0,0,0,91270865055090108565615626420471,0,0,0,0,0]),(16,[0,0,0,0,0,91270865055126569706050126348535,0,0,0,0,0,0]),(30,[0,0,0,0,0,101409593976837373014890762207479,0,0,0,0,0,101253613531887415100253472555255,0,0,0,0,0,0])] 91270865055090108563466934812919 (Za ZP (Za ZR (Za Zas Zb))) Tryz.func151 rfl rfl rfl ?_
 simp (maxSteps:=1000000) only [↓Zo,Ze,Zd,Zn,Ya,Yb,if_true,if_false,↓reduceIte,reduceCtorEq,Yc,Yd,Ye,implies_true,forall_const,eq_self,ne_eq,not_true_eq_false,not_false_eq_true,imp_self,Yf,Yg,Yj,Yk,Yl,Ym,Yn,ZO,ZQ,Zar,Zax,Zck,ZaD,ZaE,Zcj,Z6,ZaD,ZaE,Zdw,Zdv,ZbW,ZH,ZeQ,ZeM,ZM,Zs,ZF,Zr,ZN,Zz,ZL,Zt,Zm,ZG,ZE,ZC,Int.reduceBEq,hk,Tryz.ntmps151,Tryz.results151,gTT]
 have e:doE ⟨di,st,q,s0,⟨c,⟨n,d,a,p,f⟩,l⟩,⟨gc,gq,gw,gr,gl⟩,wr,pl,mi⟩ k=1:=by unfold doE; rw [if_pos (by rw [hk]; simp)]
 exact ⟨⟨hl,hg⟩,by rw [doS (by decide) e,e]; rfl⟩
theorem Zw1 (di st q s0 c n d a p f:Int) (l:List Int) (gc gq gw gr:Int) (gl:List Int) (wr pl mi:Int) (k:Int) (hl:l.length≤1000000) (hg:gl.length≤1000000) (hk:decide (7 < k)=true):Spec Tryz.prog 0 151 [.agg [.d (.int .i64 di),.d (.int .i64 st),.d (.int .i64 q),.d (.int .i64 s0),.d (.int .i64 c),.d (.int .i64 n),.d (.int .i64 d),.d (.int .i64 a),.d (.int .i64 p),.d (.int .i64 f),.d (.list (LI .i32 l)),.d (.int .i64 gc),.d (.int .i64 gq),.d (.int .i64 gw),.d (.int .i64 gr),.d (.list (LI .i32 gl)),.d (.int .i64 wr),.d (.int .i64 pl),.d (.int .i64 mi)],vI .i64 k] [] [] (.tup [.agg (smD (doR ⟨di,st,q,s0,⟨c,⟨n,d,a,p,f⟩,l⟩,⟨gc,gq,gw,gr,gl⟩,wr,pl,mi⟩ k)),.int .i64 (doE ⟨di,st,q,s0,⟨c,⟨n,d,a,p,f⟩,l⟩,⟨gc,gq,gw,gr,gl⟩,wr,pl,mi⟩ k)]) [] []:=by
 refine sE (md:=fun _=>0) (L:=[(145,ZY),(208,ZZ),(213,ZaA)]) [(7,[0,0,0,0,0,91270865055090108565665018544375,0,0,0,0,0,91270865055090108565615626420471,0,0,0,0,0]),(16,[0,0,0,0,0,91270865055126569706050126348535,0,0,0,0,0,0]),(30,[0,0,0,0,0,101409593976837373014890762207479,0,0,0,0,0,101253613531887415100253472555255,0,0,0,0,0,0])] 91270865055090108563466934812919 (Za ZP (Za ZR (Za Zas Zb))) Tryz.func151 rfl rfl rfl ?_
 simp (maxSteps:=1000000) only [↓Zo,Ze,Zd,Zn,Ya,Yb,if_true,if_false,↓reduceIte,reduceCtorEq,Yc,Yd,Ye,implies_true,forall_const,eq_self,ne_eq,not_true_eq_false,not_false_eq_true,imp_self,Yf,Yg,Yj,Yk,Yl,Ym,Yn,ZO,ZQ,Zar,Zax,Zck,ZaD,ZaE,Zcj,Z6,ZaD,ZaE,Zdw,Zdv,ZbW,ZH,ZeQ,ZeM,ZM,Zs,ZF,Zr,ZN,Zz,ZL,Zt,Zm,ZG,ZE,ZC,Int.reduceBEq,hk,Tryz.ntmps151,Tryz.results151,gTT]
 have e:doE ⟨di,st,q,s0,⟨c,⟨n,d,a,p,f⟩,l⟩,⟨gc,gq,gw,gr,gl⟩,wr,pl,mi⟩ k=1:=by unfold doE; rw [if_pos (by rw [hk]; simp)]
 exact ⟨⟨hl,hg⟩,by rw [doS (by decide) e,e]; rfl⟩
theorem ZwU (di st q s0 c n d a p f:Int) (l:List Int) (gc gq gw gr:Int) (gl:List Int) (wr pl mi:Int) (hl:l.length≤1000000) (hg:gl.length≤1000000):Spec Tryz.prog 0 151 [.agg [.d (.int .i64 di),.d (.int .i64 st),.d (.int .i64 q),.d (.int .i64 s0),.d (.int .i64 c),.d (.int .i64 n),.d (.int .i64 d),.d (.int .i64 a),.d (.int .i64 p),.d (.int .i64 f),.d (.list (LI .i32 l)),.d (.int .i64 gc),.d (.int .i64 gq),.d (.int .i64 gw),.d (.int .i64 gr),.d (.list (LI .i32 gl)),.d (.int .i64 wr),.d (.int .i64 pl),.d (.int .i64 mi)],vI .i64 1] [] [] (.tup [.agg (smD (doR ⟨di,st,q,s0,⟨c,⟨n,d,a,p,f⟩,l⟩,⟨gc,gq,gw,gr,gl⟩,wr,pl,mi⟩ 1)),.int .i64 (doE ⟨di,st,q,s0,⟨c,⟨n,d,a,p,f⟩,l⟩,⟨gc,gq,gw,gr,gl⟩,wr,pl,mi⟩ 1)]) [] []:=by
 refine sE (md:=fun _=>0) (L:=[(145,ZY),(208,ZZ),(213,ZaA)]) [(7,[0,0,0,0,0,91270865055090108565665018544375,0,0,0,0,0,91270865055090108565615626420471,0,0,0,0,0]),(16,[0,0,0,0,0,91270865055126569706050126348535,0,0,0,0,0,0]),(30,[0,0,0,0,0,101409593976837373014890762207479,0,0,0,0,0,101253613531887415100253472555255,0,0,0,0,0,0])] 91270865055090108563466934812919 (Za ZP (Za ZR (Za Zas Zb))) Tryz.func151 rfl rfl rfl ?_
 simp (maxSteps:=1000000) only [↓Zo,Ze,Zd,Zn,Ya,Yb,if_true,if_false,↓reduceIte,reduceCtorEq,Yc,Yd,Ye,implies_true,forall_const,eq_self,ne_eq,not_true_eq_false,not_false_eq_true,imp_self,Yf,Yg,Yj,Yk,Yl,Ym,Yn,ZO,ZQ,Zar,Zax,Zck,ZaD,ZaE,Zcj,Z6,ZaD,ZaE,Zdw,Zdv,ZbW,ZH,ZeQ,ZeM,ZM,Zs,ZF,Zr,ZN,Zz,ZL,Zt,Zm,ZG,ZE,ZC,Int.reduceBEq,Tryz.ntmps151,Tryz.results151,gTT]
 refine ⟨⟨hl,hg⟩,fun h=>?_,fun h=>?_⟩
 ·rw [doS (by decide) (do1 h),do1 h]
  rfl
 have hv:smV ⟨di,st,q,s0,⟨c,⟨n,d,a,p,f⟩,l⟩,⟨gc,gq,gw,gr,gl⟩,wr,pl,mi⟩=true:=by simpa using h
 have ha:doA ⟨di,st,q,s0,⟨c,⟨n,d,a,p,f⟩,l⟩,⟨gc,gq,gw,gr,gl⟩,wr,pl,mi⟩ 1=(st==2 || st==1 && (di==2 || s0==0)):=rfl
 have hb:=Zaa (Zac hv).1
 simp only at hb
 have n9:(st==2 || st==1 && (di==2 || s0==0))=false→doE ⟨di,st,q,s0,⟨c,⟨n,d,a,p,f⟩,l⟩,⟨gc,gq,gw,gr,gl⟩,wr,pl,mi⟩ 1=9:=fun cc=>do9 hv (by decide:(1:Int)≤1∧(1:Int)≤7) (ha.trans cc)
 have hn:smN ⟨di,3,q,s0,⟨c,⟨n,d,a,p,f⟩,l⟩,⟨gc,gq,gw,gr,gl⟩,wr,pl,mi⟩=smN ⟨di,st,q,s0,⟨c,⟨n,d,a,p,f⟩,l⟩,⟨gc,gq,gw,gr,gl⟩,wr,pl,mi⟩:=ZFs (x:=⟨di,st,q,s0,⟨c,⟨n,d,a,p,f⟩,l⟩,⟨gc,gq,gw,gr,gl⟩,wr,pl,mi⟩) (s:=3) hv (by decide)
 refine ⟨fun h1 h2=>by rw [h1,h2]; rfl,fun h1 h2=>by rw [h1,h2]; rfl,fun cc=>?_,fun cc=>⟨by kernel_rfl,fun _=>⟨hl,hg⟩,fun c4=>?_,fun c4=>?_⟩⟩
 ·rw [doS (by decide) (n9 cc),n9 cc]
  rfl
 ·rw [hn] at c4
  have hs:(1:Int)=1∧st=2∧di=1∧smN ⟨di,st,q,s0,⟨c,⟨n,d,a,p,f⟩,l⟩,⟨gc,gq,gw,gr,gl⟩,wr,pl,mi⟩ < s0:=by simpa [and_assoc] using c4
  have e:=do4 hv (by decide:(1:Int)≤1∧(1:Int)≤7) (ha.trans (by simpa only [Bool.not_eq_false'] using cc)) hs
  rw [doS (by decide) e,e]
  rfl
 ·rw [hn] at c4
  have hs:¬ ((1:Int)=1∧st=2∧di=1∧smN ⟨di,st,q,s0,⟨c,⟨n,d,a,p,f⟩,l⟩,⟨gc,gq,gw,gr,gl⟩,wr,pl,mi⟩ < s0):=by
   intro ⟨a1,a2,a3,a4⟩
   have a4':=decide_eq_true a4
   rw [a4',a2,a3] at c4
   exact absurd c4 (by decide)
  have e:=do0 hv (by decide:(1:Int)≤1∧(1:Int)≤7) (ha.trans (by simpa only [Bool.not_eq_false'] using cc)) hs
  have e2:doR ⟨di,st,q,s0,⟨c,⟨n,d,a,p,f⟩,l⟩,⟨gc,gq,gw,gr,gl⟩,wr,pl,mi⟩ 1=ZuE ⟨di,st,q,s0,⟨c,⟨n,d,a,p,f⟩,l⟩,⟨gc,gq,gw,gr,gl⟩,wr,pl,mi⟩ 3:=by
   unfold doR
   rw [if_pos e]
   simp [doT]
  rw [e2,e]
  rfl
theorem ZwV (di st q s0 c n d a p f:Int) (l:List Int) (gc gq gw gr:Int) (gl:List Int) (wr pl mi:Int) (hl:l.length≤1000000) (hg:gl.length≤1000000):Spec Tryz.prog 0 151 [.agg [.d (.int .i64 di),.d (.int .i64 st),.d (.int .i64 q),.d (.int .i64 s0),.d (.int .i64 c),.d (.int .i64 n),.d (.int .i64 d),.d (.int .i64 a),.d (.int .i64 p),.d (.int .i64 f),.d (.list (LI .i32 l)),.d (.int .i64 gc),.d (.int .i64 gq),.d (.int .i64 gw),.d (.int .i64 gr),.d (.list (LI .i32 gl)),.d (.int .i64 wr),.d (.int .i64 pl),.d (.int .i64 mi)],vI .i64 2] [] [] (.tup [.agg (smD (doR ⟨di,st,q,s0,⟨c,⟨n,d,a,p,f⟩,l⟩,⟨gc,gq,gw,gr,gl⟩,wr,pl,mi⟩ 2)),.int .i64 (doE ⟨di,st,q,s0,⟨c,⟨n,d,a,p,f⟩,l⟩,⟨gc,gq,gw,gr,gl⟩,wr,pl,mi⟩ 2)]) [] []:=by
 refine sE (md:=fun _=>0) (L:=[(145,ZY),(208,ZZ),(213,ZaA)]) [(7,[0,0,0,0,0,91270865055090108565665018544375,0,0,0,0,0,91270865055090108565615626420471,0,0,0,0,0]),(16,[0,0,0,0,0,91270865055126569706050126348535,0,0,0,0,0,0]),(30,[0,0,0,0,0,101409593976837373014890762207479,0,0,0,0,0,101253613531887415100253472555255,0,0,0,0,0,0])] 91270865055090108563466934812919 (Za ZP (Za ZR (Za Zas Zb))) Tryz.func151 rfl rfl rfl ?_
 simp (maxSteps:=1000000) only [↓Zo,Ze,Zd,Zn,Ya,Yb,if_true,if_false,↓reduceIte,reduceCtorEq,Yc,Yd,Ye,implies_true,forall_const,eq_self,ne_eq,not_true_eq_false,not_false_eq_true,imp_self,Yf,Yg,Yj,Yk,Yl,Ym,Yn,ZO,ZQ,Zar,Zax,Zck,ZaD,ZaE,Zcj,Z6,ZaD,ZaE,Zdw,Zdv,ZbW,ZH,ZeQ,ZeM,ZM,Zs,ZF,Zr,ZN,Zz,ZL,Zt,Zm,ZG,ZE,ZC,Int.reduceBEq,Tryz.ntmps151,Tryz.results151,gTT]
 refine ⟨⟨hl,hg⟩,fun h=>?_,fun h=>?_⟩
 ·rw [doS (by decide) (do1 h),do1 h]
  rfl
 have hv:smV ⟨di,st,q,s0,⟨c,⟨n,d,a,p,f⟩,l⟩,⟨gc,gq,gw,gr,gl⟩,wr,pl,mi⟩=true:=by simpa using h
 have ha:doA ⟨di,st,q,s0,⟨c,⟨n,d,a,p,f⟩,l⟩,⟨gc,gq,gw,gr,gl⟩,wr,pl,mi⟩ 2=(st==3):=rfl
 have hb:=Zaa (Zac hv).1
 simp only at hb
 have n9:(st==3)=false→doE ⟨di,st,q,s0,⟨c,⟨n,d,a,p,f⟩,l⟩,⟨gc,gq,gw,gr,gl⟩,wr,pl,mi⟩ 2=9:=fun cc=>do9 hv (by decide:(1:Int)≤2∧(2:Int)≤7) (ha.trans cc)
 have n0:(!(st==3))=false→doE ⟨di,st,q,s0,⟨c,⟨n,d,a,p,f⟩,l⟩,⟨gc,gq,gw,gr,gl⟩,wr,pl,mi⟩ 2=0∧doR ⟨di,st,q,s0,⟨c,⟨n,d,a,p,f⟩,l⟩,⟨gc,gq,gw,gr,gl⟩,wr,pl,mi⟩ 2=ZuE ⟨di,st,q,s0,⟨c,⟨n,d,a,p,f⟩,l⟩,⟨gc,gq,gw,gr,gl⟩,wr,pl,mi⟩ 4:=fun cc=>by
  have e:=do0 hv (by decide:(1:Int)≤2∧(2:Int)≤7) (ha.trans (by simpa only [Bool.not_eq_false'] using cc)) (fun hh=>absurd hh.1 (by decide))
  refine ⟨e,?_⟩
  unfold doR
  rw [if_pos e]
  simp [doT]
 refine ⟨fun cc=>?_,fun cc=>⟨by kernel_rfl,?_⟩⟩
 ·rw [doS (by decide) (n9 cc),n9 cc]
  rfl
 ·obtain ⟨e,e2⟩:=n0 cc
  rw [e2,e]
  try rfl
 
theorem ZwW (di st q s0 c n d a p f:Int) (l:List Int) (gc gq gw gr:Int) (gl:List Int) (wr pl mi:Int) (hl:l.length≤1000000) (hg:gl.length≤1000000):Spec Tryz.prog 0 151 [.agg [.d (.int .i64 di),.d (.int .i64 st),.d (.int .i64 q),.d (.int .i64 s0),.d (.int .i64 c),.d (.int .i64 n),.d (.int .i64 d),.d (.int .i64 a),.d (.int .i64 p),.d (.int .i64 f),.d (.list (LI .i32 l)),.d (.int .i64 gc),.d (.int .i64 gq),.d (.int .i64 gw),.d (.int .i64 gr),.d (.list (LI .i32 gl)),.d (.int .i64 wr),.d (.int .i64 pl),.d (.int .i64 mi)],vI .i64 3] [] [] (.tup [.agg (smD (doR ⟨di,st,q,s0,⟨c,⟨n,d,a,p,f⟩,l⟩,⟨gc,gq,gw,gr,gl⟩,wr,pl,mi⟩ 3)),.int .i64 (doE ⟨di,st,q,s0,⟨c,⟨n,d,a,p,f⟩,l⟩,⟨gc,gq,gw,gr,gl⟩,wr,pl,mi⟩ 3)]) [] []:=by
 refine sE (md:=fun _=>0) (L:=[(145,ZY),(208,ZZ),(213,ZaA)]) [(7,[0,0,0,0,0,91270865055090108565665018544375,0,0,0,0,0,91270865055090108565615626420471,0,0,0,0,0]),(16,[0,0,0,0,0,91270865055126569706050126348535,0,0,0,0,0,0]),(30,[0,0,0,0,0,101409593976837373014890762207479,0,0,0,0,0,101253613531887415100253472555255,0,0,0,0,0,0])] 91270865055090108563466934812919 (Za ZP (Za ZR (Za Zas Zb))) Tryz.func151 rfl rfl rfl ?_
 simp (maxSteps:=1000000) only [↓Zo,Ze,Zd,Zn,Ya,Yb,if_true,if_false,↓reduceIte,reduceCtorEq,Yc,Yd,Ye,implies_true,forall_const,eq_self,ne_eq,not_true_eq_false,not_false_eq_true,imp_self,Yf,Yg,Yj,Yk,Yl,Ym,Yn,ZO,ZQ,Zar,Zax,Zck,ZaD,ZaE,Zcj,Z6,ZaD,ZaE,Zdw,Zdv,ZbW,ZH,ZeQ,ZeM,ZM,Zs,ZF,Zr,ZN,Zz,ZL,Zt,Zm,ZG,ZE,ZC,Int.reduceBEq,Tryz.ntmps151,Tryz.results151,gTT]
 refine ⟨⟨hl,hg⟩,fun h=>?_,fun h=>?_⟩
 ·rw [doS (by decide) (do1 h),do1 h]
  rfl
 have hv:smV ⟨di,st,q,s0,⟨c,⟨n,d,a,p,f⟩,l⟩,⟨gc,gq,gw,gr,gl⟩,wr,pl,mi⟩=true:=by simpa using h
 have ha:doA ⟨di,st,q,s0,⟨c,⟨n,d,a,p,f⟩,l⟩,⟨gc,gq,gw,gr,gl⟩,wr,pl,mi⟩ 3=(st==4):=rfl
 have hb:=Zaa (Zac hv).1
 simp only at hb
 have n9:(st==4)=false→doE ⟨di,st,q,s0,⟨c,⟨n,d,a,p,f⟩,l⟩,⟨gc,gq,gw,gr,gl⟩,wr,pl,mi⟩ 3=9:=fun cc=>do9 hv (by decide:(1:Int)≤3∧(3:Int)≤7) (ha.trans cc)
 have n0:(!(st==4))=false→doE ⟨di,st,q,s0,⟨c,⟨n,d,a,p,f⟩,l⟩,⟨gc,gq,gw,gr,gl⟩,wr,pl,mi⟩ 3=0∧doR ⟨di,st,q,s0,⟨c,⟨n,d,a,p,f⟩,l⟩,⟨gc,gq,gw,gr,gl⟩,wr,pl,mi⟩ 3=ZuE ⟨di,st,q,s0,⟨c,⟨n,d,a,p,f⟩,l⟩,⟨gc,gq,gw,gr,gl⟩,wr,pl,mi⟩ 3:=fun cc=>by
  have e:=do0 hv (by decide:(1:Int)≤3∧(3:Int)≤7) (ha.trans (by simpa only [Bool.not_eq_false'] using cc)) (fun hh=>absurd hh.1 (by decide))
  refine ⟨e,?_⟩
  unfold doR
  rw [if_pos e]
  simp [doT]
 refine ⟨fun cc=>?_,fun cc=>⟨by kernel_rfl,?_⟩⟩
 ·rw [doS (by decide) (n9 cc),n9 cc]
  rfl
 ·obtain ⟨e,e2⟩:=n0 cc
  rw [e2,e]
  try rfl
 
theorem ZwX (di st q s0 c n d a p f:Int) (l:List Int) (gc gq gw gr:Int) (gl:List Int) (wr pl mi:Int) (hl:l.length≤1000000) (hg:gl.length≤1000000):Spec Tryz.prog 0 151 [.agg [.d (.int .i64 di),.d (.int .i64 st),.d (.int .i64 q),.d (.int .i64 s0),.d (.int .i64 c),.d (.int .i64 n),.d (.int .i64 d),.d (.int .i64 a),.d (.int .i64 p),.d (.int .i64 f),.d (.list (LI .i32 l)),.d (.int .i64 gc),.d (.int .i64 gq),.d (.int .i64 gw),.d (.int .i64 gr),.d (.list (LI .i32 gl)),.d (.int .i64 wr),.d (.int .i64 pl),.d (.int .i64 mi)],vI .i64 4] [] [] (.tup [.agg (smD (doR ⟨di,st,q,s0,⟨c,⟨n,d,a,p,f⟩,l⟩,⟨gc,gq,gw,gr,gl⟩,wr,pl,mi⟩ 4)),.int .i64 (doE ⟨di,st,q,s0,⟨c,⟨n,d,a,p,f⟩,l⟩,⟨gc,gq,gw,gr,gl⟩,wr,pl,mi⟩ 4)]) [] []:=by
 refine sE (md:=fun _=>0) (L:=[(145,ZY),(208,ZZ),(213,ZaA)]) [(7,[0,0,0,0,0,91270865055090108565665018544375,0,0,0,0,0,91270865055090108565615626420471,0,0,0,0,0]),(16,[0,0,0,0,0,91270865055126569706050126348535,0,0,0,0,0,0]),(30,[0,0,0,0,0,101409593976837373014890762207479,0,0,0,0,0,101253613531887415100253472555255,0,0,0,0,0,0])] 91270865055090108563466934812919 (Za ZP (Za ZR (Za Zas Zb))) Tryz.func151 rfl rfl rfl ?_
 simp (maxSteps:=1000000) only [↓Zo,Ze,Zd,Zn,Ya,Yb,if_true,if_false,↓reduceIte,reduceCtorEq,Yc,Yd,Ye,implies_true,forall_const,eq_self,ne_eq,not_true_eq_false,not_false_eq_true,imp_self,Yf,Yg,Yj,Yk,Yl,Ym,Yn,ZO,ZQ,Zar,Zax,Zck,ZaD,ZaE,Zcj,Z6,ZaD,ZaE,Zdw,Zdv,ZbW,ZH,ZeQ,ZeM,ZM,Zs,ZF,Zr,ZN,Zz,ZL,Zt,Zm,ZG,ZE,ZC,Int.reduceBEq,Tryz.ntmps151,Tryz.results151,gTT]
 refine ⟨⟨hl,hg⟩,fun h=>?_,fun h=>?_⟩
 ·rw [doS (by decide) (do1 h),do1 h]
  rfl
 have hv:smV ⟨di,st,q,s0,⟨c,⟨n,d,a,p,f⟩,l⟩,⟨gc,gq,gw,gr,gl⟩,wr,pl,mi⟩=true:=by simpa using h
 have ha:doA ⟨di,st,q,s0,⟨c,⟨n,d,a,p,f⟩,l⟩,⟨gc,gq,gw,gr,gl⟩,wr,pl,mi⟩ 4=(di==1 && decide (2≤st) && decide (st≤4)):=rfl
 have hb:=Zaa (Zac hv).1
 simp only at hb
 have n9:(di==1 && decide (2≤st) && decide (st≤4))=false→doE ⟨di,st,q,s0,⟨c,⟨n,d,a,p,f⟩,l⟩,⟨gc,gq,gw,gr,gl⟩,wr,pl,mi⟩ 4=9:=fun cc=>do9 hv (by decide:(1:Int)≤4∧(4:Int)≤7) (ha.trans cc)
 have n0:(!(di==1 && decide (2≤st) && decide (st≤4)))=false→doE ⟨di,st,q,s0,⟨c,⟨n,d,a,p,f⟩,l⟩,⟨gc,gq,gw,gr,gl⟩,wr,pl,mi⟩ 4=0∧doR ⟨di,st,q,s0,⟨c,⟨n,d,a,p,f⟩,l⟩,⟨gc,gq,gw,gr,gl⟩,wr,pl,mi⟩ 4=ZuE ⟨di,st,q,s0,⟨c,⟨n,d,a,p,f⟩,l⟩,⟨gc,gq,gw,gr,gl⟩,wr,pl,mi⟩ 5:=fun cc=>by
  have e:=do0 hv (by decide:(1:Int)≤4∧(4:Int)≤7) (ha.trans (by simpa only [Bool.not_eq_false'] using cc)) (fun hh=>absurd hh.1 (by decide))
  refine ⟨e,?_⟩
  unfold doR
  rw [if_pos e]
  simp [doT]
 refine ⟨fun cc=>?_,fun cc=>⟨by kernel_rfl,?_⟩⟩
 ·rw [doS (by decide) (n9 cc),n9 cc]
  rfl
 ·obtain ⟨e,e2⟩:=n0 cc
  rw [e2,e]
  try rfl
 
theorem ZwY (di st q s0 c n d a p f:Int) (l:List Int) (gc gq gw gr:Int) (gl:List Int) (wr pl mi:Int) (hl:l.length≤1000000) (hg:gl.length≤1000000):Spec Tryz.prog 0 151 [.agg [.d (.int .i64 di),.d (.int .i64 st),.d (.int .i64 q),.d (.int .i64 s0),.d (.int .i64 c),.d (.int .i64 n),.d (.int .i64 d),.d (.int .i64 a),.d (.int .i64 p),.d (.int .i64 f),.d (.list (LI .i32 l)),.d (.int .i64 gc),.d (.int .i64 gq),.d (.int .i64 gw),.d (.int .i64 gr),.d (.list (LI .i32 gl)),.d (.int .i64 wr),.d (.int .i64 pl),.d (.int .i64 mi)],vI .i64 5] [] [] (.tup [.agg (smD (doR ⟨di,st,q,s0,⟨c,⟨n,d,a,p,f⟩,l⟩,⟨gc,gq,gw,gr,gl⟩,wr,pl,mi⟩ 5)),.int .i64 (doE ⟨di,st,q,s0,⟨c,⟨n,d,a,p,f⟩,l⟩,⟨gc,gq,gw,gr,gl⟩,wr,pl,mi⟩ 5)]) [] []:=by
 refine sE (md:=fun _=>0) (L:=[(145,ZY),(208,ZZ),(213,ZaA)]) [(7,[0,0,0,0,0,91270865055090108565665018544375,0,0,0,0,0,91270865055090108565615626420471,0,0,0,0,0]),(16,[0,0,0,0,0,91270865055126569706050126348535,0,0,0,0,0,0]),(30,[0,0,0,0,0,101409593976837373014890762207479,0,0,0,0,0,101253613531887415100253472555255,0,0,0,0,0,0])] 91270865055090108563466934812919 (Za ZP (Za ZR (Za Zas Zb))) Tryz.func151 rfl rfl rfl ?_
 simp (maxSteps:=1000000) only [↓Zo,Ze,Zd,Zn,Ya,Yb,if_true,if_false,↓reduceIte,reduceCtorEq,Yc,Yd,Ye,implies_true,forall_const,eq_self,ne_eq,not_true_eq_false,not_false_eq_true,imp_self,Yf,Yg,Yj,Yk,Yl,Ym,Yn,ZO,ZQ,Zar,Zax,Zck,ZaD,ZaE,Zcj,Z6,ZaD,ZaE,Zdw,Zdv,ZbW,ZH,ZeQ,ZeM,ZM,Zs,ZF,Zr,ZN,Zz,ZL,Zt,Zm,ZG,ZE,ZC,Int.reduceBEq,Tryz.ntmps151,Tryz.results151,gTT]
 refine ⟨⟨hl,hg⟩,fun h=>?_,fun h=>?_⟩
 ·rw [doS (by decide) (do1 h),do1 h]
  rfl
 have hv:smV ⟨di,st,q,s0,⟨c,⟨n,d,a,p,f⟩,l⟩,⟨gc,gq,gw,gr,gl⟩,wr,pl,mi⟩=true:=by simpa using h
 have ha:doA ⟨di,st,q,s0,⟨c,⟨n,d,a,p,f⟩,l⟩,⟨gc,gq,gw,gr,gl⟩,wr,pl,mi⟩ 5=decide (st≤5):=rfl
 have hb:=Zaa (Zac hv).1
 simp only at hb
 have n9:decide (st≤5)=false→doE ⟨di,st,q,s0,⟨c,⟨n,d,a,p,f⟩,l⟩,⟨gc,gq,gw,gr,gl⟩,wr,pl,mi⟩ 5=9:=fun cc=>do9 hv (by decide:(1:Int)≤5∧(5:Int)≤7) (ha.trans cc)
 have n0:(!decide (st≤5))=false→doE ⟨di,st,q,s0,⟨c,⟨n,d,a,p,f⟩,l⟩,⟨gc,gq,gw,gr,gl⟩,wr,pl,mi⟩ 5=0∧doR ⟨di,st,q,s0,⟨c,⟨n,d,a,p,f⟩,l⟩,⟨gc,gq,gw,gr,gl⟩,wr,pl,mi⟩ 5=smE (ZuE ⟨di,st,q,s0,⟨c,⟨n,d,a,p,f⟩,l⟩,⟨gc,gq,gw,gr,gl⟩,wr,pl,mi⟩ 6):=fun cc=>by
  have e:=do0 hv (by decide:(1:Int)≤5∧(5:Int)≤7) (ha.trans (by simpa only [Bool.not_eq_false'] using cc)) (fun hh=>absurd hh.1 (by decide))
  refine ⟨e,?_⟩
  unfold doR
  rw [if_pos e]
  simp [doT]
 refine ⟨fun cc=>?_,fun cc=>⟨by kernel_rfl,⟨hl,hg⟩,?_⟩⟩
 ·rw [doS (by decide) (n9 cc),n9 cc]
  rfl
 ·obtain ⟨e,e2⟩:=n0 cc
  rw [e2,e]
  try rfl
 
theorem ZwZ (di st q s0 c n d a p f:Int) (l:List Int) (gc gq gw gr:Int) (gl:List Int) (wr pl mi:Int) (hl:l.length≤1000000) (hg:gl.length≤1000000):Spec Tryz.prog 0 151 [.agg [.d (.int .i64 di),.d (.int .i64 st),.d (.int .i64 q),.d (.int .i64 s0),.d (.int .i64 c),.d (.int .i64 n),.d (.int .i64 d),.d (.int .i64 a),.d (.int .i64 p),.d (.int .i64 f),.d (.list (LI .i32 l)),.d (.int .i64 gc),.d (.int .i64 gq),.d (.int .i64 gw),.d (.int .i64 gr),.d (.list (LI .i32 gl)),.d (.int .i64 wr),.d (.int .i64 pl),.d (.int .i64 mi)],vI .i64 6] [] [] (.tup [.agg (smD (doR ⟨di,st,q,s0,⟨c,⟨n,d,a,p,f⟩,l⟩,⟨gc,gq,gw,gr,gl⟩,wr,pl,mi⟩ 6)),.int .i64 (doE ⟨di,st,q,s0,⟨c,⟨n,d,a,p,f⟩,l⟩,⟨gc,gq,gw,gr,gl⟩,wr,pl,mi⟩ 6)]) [] []:=by
 refine sE (md:=fun _=>0) (L:=[(145,ZY),(208,ZZ),(213,ZaA)]) [(7,[0,0,0,0,0,91270865055090108565665018544375,0,0,0,0,0,91270865055090108565615626420471,0,0,0,0,0]),(16,[0,0,0,0,0,91270865055126569706050126348535,0,0,0,0,0,0]),(30,[0,0,0,0,0,101409593976837373014890762207479,0,0,0,0,0,101253613531887415100253472555255,0,0,0,0,0,0])] 91270865055090108563466934812919 (Za ZP (Za ZR (Za Zas Zb))) Tryz.func151 rfl rfl rfl ?_
 simp (maxSteps:=1000000) only [↓Zo,Ze,Zd,Zn,Ya,Yb,if_true,if_false,↓reduceIte,reduceCtorEq,Yc,Yd,Ye,implies_true,forall_const,eq_self,ne_eq,not_true_eq_false,not_false_eq_true,imp_self,Yf,Yg,Yj,Yk,Yl,Ym,Yn,ZO,ZQ,Zar,Zax,Zck,ZaD,ZaE,Zcj,Z6,ZaD,ZaE,Zdw,Zdv,ZbW,ZH,ZeQ,ZeM,ZM,Zs,ZF,Zr,ZN,Zz,ZL,Zt,Zm,ZG,ZE,ZC,Int.reduceBEq,Tryz.ntmps151,Tryz.results151,gTT]
 refine ⟨⟨hl,hg⟩,fun h=>?_,fun h=>?_⟩
 ·rw [doS (by decide) (do1 h),do1 h]
  rfl
 have hv:smV ⟨di,st,q,s0,⟨c,⟨n,d,a,p,f⟩,l⟩,⟨gc,gq,gw,gr,gl⟩,wr,pl,mi⟩=true:=by simpa using h
 have ha:doA ⟨di,st,q,s0,⟨c,⟨n,d,a,p,f⟩,l⟩,⟨gc,gq,gw,gr,gl⟩,wr,pl,mi⟩ 6=(st != 7):=rfl
 have hb:=Zaa (Zac hv).1
 simp only at hb
 have n9:(st != 7)=false→doE ⟨di,st,q,s0,⟨c,⟨n,d,a,p,f⟩,l⟩,⟨gc,gq,gw,gr,gl⟩,wr,pl,mi⟩ 6=9:=fun cc=>do9 hv (by decide:(1:Int)≤6∧(6:Int)≤7) (ha.trans cc)
 have n0:(!(st != 7))=false→doE ⟨di,st,q,s0,⟨c,⟨n,d,a,p,f⟩,l⟩,⟨gc,gq,gw,gr,gl⟩,wr,pl,mi⟩ 6=0∧doR ⟨di,st,q,s0,⟨c,⟨n,d,a,p,f⟩,l⟩,⟨gc,gq,gw,gr,gl⟩,wr,pl,mi⟩ 6=smE (ZuE ⟨di,st,q,s0,⟨c,⟨n,d,a,p,f⟩,l⟩,⟨gc,gq,gw,gr,gl⟩,wr,pl,mi⟩ 7):=fun cc=>by
  have e:=do0 hv (by decide:(1:Int)≤6∧(6:Int)≤7) (ha.trans (by simpa only [Bool.not_eq_false'] using cc)) (fun hh=>absurd hh.1 (by decide))
  refine ⟨e,?_⟩
  unfold doR
  rw [if_pos e]
  simp [doT]
 refine ⟨fun cc=>?_,fun cc=>⟨by kernel_rfl,⟨hl,hg⟩,?_⟩⟩
 ·rw [doS (by decide) (n9 cc),n9 cc]
  rfl
 ·obtain ⟨e,e2⟩:=n0 cc
  rw [e2,e]
  try rfl
 
theorem Zw0 (di st q s0 c n d a p f:Int) (l:List Int) (gc gq gw gr:Int) (gl:List Int) (wr pl mi:Int) (hl:l.length≤1000000) (hg:gl.length≤1000000):Spec Tryz.prog 0 151 [.agg [.d (.int .i64 di),.d (.int .i64 st),.d (.int .i64 q),.d (.int .i64 s0),.d (.int .i64 c),.d (.int .i64 n),.d (.int .i64 d),.d (.int .i64 a),.d (.int .i64 p),.d (.int .i64 f),.d (.list (LI .i32 l)),.d (.int .i64 gc),.d (.int .i64 gq),.d (.int .i64 gw),.d (.int .i64 gr),.d (.list (LI .i32 gl)),.d (.int .i64 wr),.d (.int .i64 pl),.d (.int .i64 mi)],vI .i64 7] [] [] (.tup [.agg (smD (doR ⟨di,st,q,s0,⟨c,⟨n,d,a,p,f⟩,l⟩,⟨gc,gq,gw,gr,gl⟩,wr,pl,mi⟩ 7)),.int .i64 (doE ⟨di,st,q,s0,⟨c,⟨n,d,a,p,f⟩,l⟩,⟨gc,gq,gw,gr,gl⟩,wr,pl,mi⟩ 7)]) [] []:=by
 refine sE (md:=fun _=>0) (L:=[(145,ZY),(208,ZZ),(213,ZaA)]) [(7,[0,0,0,0,0,91270865055090108565665018544375,0,0,0,0,0,91270865055090108565615626420471,0,0,0,0,0]),(16,[0,0,0,0,0,91270865055126569706050126348535,0,0,0,0,0,0]),(30,[0,0,0,0,0,101409593976837373014890762207479,0,0,0,0,0,101253613531887415100253472555255,0,0,0,0,0,0])] 91270865055090108563466934812919 (Za ZP (Za ZR (Za Zas Zb))) Tryz.func151 rfl rfl rfl ?_
 simp (maxSteps:=1000000) only [↓Zo,Ze,Zd,Zn,Ya,Yb,if_true,if_false,↓reduceIte,reduceCtorEq,Yc,Yd,Ye,implies_true,forall_const,eq_self,ne_eq,not_true_eq_false,not_false_eq_true,imp_self,Yf,Yg,Yj,Yk,Yl,Ym,Yn,ZO,ZQ,Zar,Zax,Zck,ZaD,ZaE,Zcj,Z6,ZaD,ZaE,Zdw,Zdv,ZbW,ZH,ZeQ,ZeM,ZM,Zs,ZF,Zr,ZN,Zz,ZL,Zt,Zm,ZG,ZE,ZC,Int.reduceBEq,Tryz.ntmps151,Tryz.results151,gTT]
 refine ⟨⟨hl,hg⟩,fun h=>?_,fun h=>?_⟩
 ·rw [doS (by decide) (do1 h),do1 h]
  rfl
 have hv:smV ⟨di,st,q,s0,⟨c,⟨n,d,a,p,f⟩,l⟩,⟨gc,gq,gw,gr,gl⟩,wr,pl,mi⟩=true:=by simpa using h
 have ha:doA ⟨di,st,q,s0,⟨c,⟨n,d,a,p,f⟩,l⟩,⟨gc,gq,gw,gr,gl⟩,wr,pl,mi⟩ 7=decide (st≤4):=rfl
 have hb:=Zaa (Zac hv).1
 simp only at hb
 have n9:decide (st≤4)=false→doE ⟨di,st,q,s0,⟨c,⟨n,d,a,p,f⟩,l⟩,⟨gc,gq,gw,gr,gl⟩,wr,pl,mi⟩ 7=9:=fun cc=>do9 hv (by decide:(1:Int)≤7∧(7:Int)≤7) (ha.trans cc)
 have n0:(!decide (st≤4))=false→doE ⟨di,st,q,s0,⟨c,⟨n,d,a,p,f⟩,l⟩,⟨gc,gq,gw,gr,gl⟩,wr,pl,mi⟩ 7=0∧doR ⟨di,st,q,s0,⟨c,⟨n,d,a,p,f⟩,l⟩,⟨gc,gq,gw,gr,gl⟩,wr,pl,mi⟩ 7=smE (ZuE ⟨di,st,q,s0,⟨c,⟨n,d,a,p,f⟩,l⟩,⟨gc,gq,gw,gr,gl⟩,wr,pl,mi⟩ (if st=2 then 1 else st)):=fun cc=>by
  have e:=do0 hv (by decide:(1:Int)≤7∧(7:Int)≤7) (ha.trans (by simpa only [Bool.not_eq_false'] using cc)) (fun hh=>absurd hh.1 (by decide))
  refine ⟨e,?_⟩
  unfold doR
  rw [if_pos e]
  simp [doT]
 refine ⟨fun h2=>⟨fun cc=>?_,fun cc=>⟨by kernel_rfl,⟨hl,hg⟩,?_⟩⟩,fun h2=>⟨fun cc=>?_,fun cc=>⟨by kernel_rfl,⟨hl,hg⟩,?_⟩⟩⟩
 ·rw [doS (by decide) (n9 cc),n9 cc]
  rfl
 ·obtain ⟨e,e2⟩:=n0 cc
  rw [e2,e]
  try rw [if_pos (by simpa using h2)]
  try rfl
 ·rw [doS (by decide) (n9 cc),n9 cc]
  rfl
 ·obtain ⟨e,e2⟩:=n0 cc
  rw [e2,e]
  try rw [if_neg (by simpa using h2)]
  try rfl
 
theorem ZA1 (di st q s0 c n d a p f:Int) (l:List Int) (gc gq gw gr:Int) (gl:List Int) (wr pl mi:Int) (k:Int) (hl:l.length≤1000000) (hg:gl.length≤1000000):Spec Tryz.prog 0 151 [.agg [.d (.int .i64 di),.d (.int .i64 st),.d (.int .i64 q),.d (.int .i64 s0),.d (.int .i64 c),.d (.int .i64 n),.d (.int .i64 d),.d (.int .i64 a),.d (.int .i64 p),.d (.int .i64 f),.d (.list (LI .i32 l)),.d (.int .i64 gc),.d (.int .i64 gq),.d (.int .i64 gw),.d (.int .i64 gr),.d (.list (LI .i32 gl)),.d (.int .i64 wr),.d (.int .i64 pl),.d (.int .i64 mi)],.c (.d (.int .i64 k))] [] [] (.tup [.agg (smD (doR ⟨di,st,q,s0,⟨c,⟨n,d,a,p,f⟩,l⟩,⟨gc,gq,gw,gr,gl⟩,wr,pl,mi⟩ k)),.int .i64 (doE ⟨di,st,q,s0,⟨c,⟨n,d,a,p,f⟩,l⟩,⟨gc,gq,gw,gr,gl⟩,wr,pl,mi⟩ k)]) [] []:=by
 by_cases h1:k < 1
 ·exact Zw2 di st q s0 c n d a p f l gc gq gw gr gl wr pl mi k hl hg (decide_eq_true h1)
 by_cases h7:7 < k
 ·exact Zw1 di st q s0 c n d a p f l gc gq gw gr gl wr pl mi k hl hg (decide_eq_true h7)
 have hk:k=1∨k=2∨k=3∨k=4∨k=5∨k=6∨k=7:=by omega
 rcases hk with rfl | rfl | rfl | rfl | rfl | rfl | rfl
 ·exact ZwU di st q s0 c n d a p f l gc gq gw gr gl wr pl mi hl hg
 ·exact ZwV di st q s0 c n d a p f l gc gq gw gr gl wr pl mi hl hg
 ·exact ZwW di st q s0 c n d a p f l gc gq gw gr gl wr pl mi hl hg
 ·exact ZwX di st q s0 c n d a p f l gc gq gw gr gl wr pl mi hl hg
 ·exact ZwY di st q s0 c n d a p f l gc gq gw gr gl wr pl mi hl hg
 ·exact ZwZ di st q s0 c n d a p f l gc gq gw gr gl wr pl mi hl hg
 ·exact Zw0 di st q s0 c n d a p f l gc gq gw gr gl wr pl mi hl hg
def Zop:List V→Zf→Zw→Name→Option Ent
 | [.agg [.d (.int .i64 di),.d (.int .i64 st),.d (.int .i64 q),.d (.int .i64 s0),.d (.int .i64 c),.d (.int .i64 n),.d (.int .i64 d),.d (.int .i64 a),.d (.int .i64 p),.d (.int .i64 f),.d (.list q_l),.d (.int .i64 gc),.d (.int .i64 gq),.d (.int .i64 gw),.d (.int .i64 gr),.d (.list q_gl),.d (.int .i64 wr),.d (.int .i64 pl),.d (.int .i64 mi)],.c (.d (.int .i64 k))],[],[],_=>some ⟨(Zc q_l).length≤1000000∧(Zc q_gl).length≤1000000∧q_l=LI .i32 (Zc q_l)∧q_gl=LI .i32 (Zc q_gl),.tup [.agg (smD (doR ⟨di,st,q,s0,⟨c,⟨n,d,a,p,f⟩,(Zc q_l)⟩,⟨gc,gq,gw,gr,(Zc q_gl)⟩,wr,pl,mi⟩ k)),.int .i64 (doE ⟨di,st,q,s0,⟨c,⟨n,d,a,p,f⟩,(Zc q_l)⟩,⟨gc,gq,gw,gr,(Zc q_gl)⟩,wr,pl,mi⟩ k)],[],[]⟩
 | _,_,_,_=>none
def Zx1:=And.intro (@Zop.eq_1) (@Zop.eq_1)
theorem Zx2:Snd Tryz.prog 151 Zop:=by
 intro vs b k n e h hn hp
 unfold Zop at h
 split at h
 ·cases h; obtain ⟨hp0,hp1,hq0,hq1⟩:=hp; obtain ⟨_,rfl⟩:=Zu hq0; obtain ⟨_,rfl⟩:=Zu hq1; simp only [Zi,Zp,Zj,Zq] at hp0 hp1 ⊢; exact (ZA1 _ _ _ _ _ _ _ _ _ _ _ _ _ _ _ _ _ _ _ _ hp0 hp1).lift rfl _
 ·cases h
end Go.Vam
