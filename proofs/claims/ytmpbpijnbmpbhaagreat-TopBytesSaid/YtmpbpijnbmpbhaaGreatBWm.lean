/- A part of the proof. Conditions: none. -/
import Derived.Test.YtmpbpijnbmpbhaaGreatBWl
set_option linter.unusedVariables false
set_option linter.defProp false
set_option linter.unusedSimpArgs false
set_option maxRecDepth 40000
set_option maxHeartbeats 4000000
namespace Go.Vam
open Go.Proofs
open Nat renaming reduceShiftRight→Ya,reduceMod→Yb,reduceEqDiff→Yc,reduceLT→Yd,reduceLeDiff→Ye,reduceAdd→Yf,reduceMul→Yg
open Int renaming reduceLE→Yj,reduceLT→Yk,reduceNeg→Yl,reduceAdd→Ym,reduceToNat→Yn
theorem ZtM (di st q s0 c n d a p f:Int) (l:List Int) (gc gq gw gr:Int) (gl:List Int) (wr pl mi:Int) (i:Int) (hl:l.length≤1000000) (hg:gl.length≤1000000) (h3:st=3→tkE ⟨c,⟨n,d,a,p,f⟩,l⟩ (skK ⟨di,st,q,s0,⟨c,⟨n,d,a,p,f⟩,l⟩,⟨gc,gq,gw,gr,gl⟩,wr,pl,mi⟩ i)≠0) (h5:st=5→fiE ⟨c,⟨n,d,a,p,f⟩,l⟩ i≠0):Spec Tryz.prog 0 35 [.agg (smC ⟨di,st,q,s0,⟨c,⟨n,d,a,p,f⟩,l⟩,⟨gc,gq,gw,gr,gl⟩,wr,pl,mi⟩),vI .i64 i] [] [] (.tup [.agg [.int .i64 (skC ⟨di,st,q,s0,⟨c,⟨n,d,a,p,f⟩,l⟩,⟨gc,gq,gw,gr,gl⟩,wr,pl,mi⟩ i),.list (LI .i32 (skO ⟨di,st,q,s0,⟨c,⟨n,d,a,p,f⟩,l⟩,⟨gc,gq,gw,gr,gl⟩,wr,pl,mi⟩ i))],.int .i64 (skX ⟨di,st,q,s0,⟨c,⟨n,d,a,p,f⟩,l⟩,⟨gc,gq,gw,gr,gl⟩,wr,pl,mi⟩ i),.agg (smD (skR ⟨di,st,q,s0,⟨c,⟨n,d,a,p,f⟩,l⟩,⟨gc,gq,gw,gr,gl⟩,wr,pl,mi⟩ i)),.int .i64 (skE ⟨di,st,q,s0,⟨c,⟨n,d,a,p,f⟩,l⟩,⟨gc,gq,gw,gr,gl⟩,wr,pl,mi⟩ i)]) [] []:=by
 refine sE (md:=fun _=>0) (L:=[(61,ZgF),(65,Zh8),(52,ZaB),(91,ZdV),(92,ZjZ),(93,Zfd),(58,Zcm),(53,ZgG),(94,ZjS)]) [] 2720119987622162846539767 (Za ZeQ (Za ZgC (Za Zbb (Za Zdy (Za Zj1 (Za Zjb (Za Zc6 (Za ZgH (Za ZjU Zb))))))))) Tryz.func35 rfl rfl rfl ?_
 simp (maxSteps:=1000000) only [↓Zn,Ze,Zd,Zm,gSt,gS0,Ya,Yb,↓reduceIte,reduceCtorEq,Yc,Yd,Ye,Yf,Yg,Yj,Yk,Yl,Ym,Yn,ZeP,ZgB,Zx,Zdx,Zj0,Zja,Zc5,ZV,ZjT,gE1,Tryz.ntmps35,Tryz.results35,gTT]
 refine ⟨⟨hl,hg⟩,fun h=>?_,fun h=>⟨fun h2=>?_,fun h2=>?_⟩⟩
 ·have e:skE ⟨di,st,q,s0,⟨c,⟨n,d,a,p,f⟩,l⟩,⟨gc,gq,gw,gr,gl⟩,wr,pl,mi⟩ i=1:=Zno (show smP _=false from h)
  obtain ⟨e1,e2,e3,e4⟩:=Ze1 (x:=⟨di,st,q,s0,⟨c,⟨n,d,a,p,f⟩,l⟩,⟨gc,gq,gw,gr,gl⟩,wr,pl,mi⟩) (i:=i) (by rw [e]; decide)
  simp [e,e1,e2,e3,e4,sm0,rs0,rg0,Zw]
 ·have hP:smP ⟨di,st,q,s0,⟨c,⟨n,d,a,p,f⟩,l⟩,⟨gc,gq,gw,gr,gl⟩,wr,pl,mi⟩=true:=by unfold smP; simpa using h
  have e:skE ⟨di,st,q,s0,⟨c,⟨n,d,a,p,f⟩,l⟩,⟨gc,gq,gw,gr,gl⟩,wr,pl,mi⟩ i=2:=Znp hP h2
  obtain ⟨e1,e2,e3,e4⟩:=Ze1 (x:=⟨di,st,q,s0,⟨c,⟨n,d,a,p,f⟩,l⟩,⟨gc,gq,gw,gr,gl⟩,wr,pl,mi⟩) (i:=i) (by rw [e]; decide)
  simp [e,e1,e2,e3,e4,sm0,rs0,rg0,Zw]
 have hP:smP ⟨di,st,q,s0,⟨c,⟨n,d,a,p,f⟩,l⟩,⟨gc,gq,gw,gr,gl⟩,wr,pl,mi⟩=true:=by unfold smP; simpa using h
 have hgo:=Zqq hP h2
 have hv:smV ⟨di,st,q,s0,⟨c,⟨n,d,a,p,f⟩,l⟩,⟨gc,gq,gw,gr,gl⟩,wr,pl,mi⟩=true∧di=1:=by unfold smP at hP; simpa using hP
 have hb:=Zan (Zag hv.1).1
 simp only at hb hgo
 have hi:0≤i∧i≤65536:=by simp only [Bool.or_eq_false_iff,decide_eq_false_iff_not] at h2; omega
 have hN:smN ⟨di,st,q,s0,⟨c,⟨n,d,a,p,f⟩,l⟩,⟨gc,gq,gw,gr,gl⟩,wr,pl,mi⟩=waN ⟨c,⟨n,d,a,p,f⟩,l⟩:=by unfold smN; rw [if_neg (by rw [hv.1]; decide),if_neg (by show ¬ di=2; omega)]
 have hw:=Zec hb.2.2.2.1 hl
 have hma:maN ⟨n,d,a,p,f⟩ (smN ⟨di,st,q,s0,⟨c,⟨n,d,a,p,f⟩,l⟩,⟨gc,gq,gw,gr,gl⟩,wr,pl,mi⟩)=((mkN ⟨n,d,a,p,f⟩ (waN ⟨c,⟨n,d,a,p,f⟩,l⟩):Nat):Int):=by rw [hN]; exact ZAZ (ZA hb.2.2.2.1).1 hw.2
 have hK:(if i < maN ⟨n,d,a,p,f⟩ (smN ⟨di,st,q,s0,⟨c,⟨n,d,a,p,f⟩,l⟩,⟨gc,gq,gw,gr,gl⟩,wr,pl,mi⟩) then i else maN ⟨n,d,a,p,f⟩ (smN ⟨di,st,q,s0,⟨c,⟨n,d,a,p,f⟩,l⟩,⟨gc,gq,gw,gr,gl⟩,wr,pl,mi⟩))=skK ⟨di,st,q,s0,⟨c,⟨n,d,a,p,f⟩,l⟩,⟨gc,gq,gw,gr,gl⟩,wr,pl,mi⟩ i:=by
  rw [hma]
  show _=min ((mkN ⟨n,d,a,p,f⟩ (waN ⟨c,⟨n,d,a,p,f⟩,l⟩):Nat):Int) i
  split <;> omega
 have hKi:=Zmh (x:=⟨di,st,q,s0,⟨c,⟨n,d,a,p,f⟩,l⟩,⟨gc,gq,gw,gr,gl⟩,wr,pl,mi⟩) hi.1
 obtain ⟨⟨k1,k2⟩,k3,k4,k5⟩:=ZW (ZA hb.2.2.2.1).2 hl
 simp only at k1 k2 k3
 have hcc:(c.toNat:Int)=c:=by omega
 have hii:(i.toNat:Int)=i:=by omega
 have hmi:i*c=((i.toNat*c.toNat:Nat):Int):=by rw [Int.natCast_mul,hcc,hii]
 have hib:=Nat.mul_le_mul (show i.toNat≤65536 by omega) (show c.toNat≤8 by omega)
 refine ⟨fun c3=>⟨by kernel_rfl,⟨hl,hg⟩,hl,fun c6=>?_,fun c6=>?_⟩,fun c3=>⟨fun c5=>⟨hl,?_⟩,fun c5=>⟨by kernel_rfl,⟨hl,hg⟩,?_⟩⟩⟩
 ·have hs:st=3:=by simpa using c3
  rw [hK] at c6 ⊢
  have e:skE ⟨di,st,q,s0,⟨c,⟨n,d,a,p,f⟩,l⟩,⟨gc,gq,gw,gr,gl⟩,wr,pl,mi⟩ i=tkE ⟨c,⟨n,d,a,p,f⟩,l⟩ (skK ⟨di,st,q,s0,⟨c,⟨n,d,a,p,f⟩,l⟩,⟨gc,gq,gw,gr,gl⟩,wr,pl,mi⟩ i):=by rw [hgo,if_pos hs]
  have h7:skE ⟨di,st,q,s0,⟨c,⟨n,d,a,p,f⟩,l⟩,⟨gc,gq,gw,gr,gl⟩,wr,pl,mi⟩ i≠0:=by rw [e]; exact h3 hs
  obtain ⟨e1,e2,e3,e4⟩:=Ze1 (x:=⟨di,st,q,s0,⟨c,⟨n,d,a,p,f⟩,l⟩,⟨gc,gq,gw,gr,gl⟩,wr,pl,mi⟩) (i:=i) h7
  rw [← e]
  simp [e1,e2,e3,e4,sm0,rs0,rg0,Zw]
 ·have hs:st=3:=by simpa using c3
  rw [hK] at c6
  exact absurd (by simpa using c6) (h3 hs)
 ·have hs:st=5:=by simpa using c5
  have e:skE ⟨di,st,q,s0,⟨c,⟨n,d,a,p,f⟩,l⟩,⟨gc,gq,gw,gr,gl⟩,wr,pl,mi⟩ i=fiE ⟨c,⟨n,d,a,p,f⟩,l⟩ i:=by rw [hgo,if_neg (by omega),if_pos hs]
  have h7:skE ⟨di,st,q,s0,⟨c,⟨n,d,a,p,f⟩,l⟩,⟨gc,gq,gw,gr,gl⟩,wr,pl,mi⟩ i≠0:=by rw [e]; exact h5 hs
  obtain ⟨e1,e2,e3,e4⟩:=Ze1 (x:=⟨di,st,q,s0,⟨c,⟨n,d,a,p,f⟩,l⟩,⟨gc,gq,gw,gr,gl⟩,wr,pl,mi⟩) (i:=i) h7
  rw [← e]
  refine ⟨fun _=>⟨fun _=>?_,fun c7=>?_⟩,fun _=>⟨fun _=>?_,fun c7=>?_⟩⟩
  ·simp [e1,e2,e3,e4,sm0,rs0,rg0,Zw]
  ·exact absurd (by simpa using c7) h7
  ·simp [e1,e2,e3,e4,sm0,rs0,rg0,Zw]
  ·exact absurd (by simpa using c7) h7
 ·have hs3:¬ st=3:=by simpa using c3
  have hs5:¬ st=5:=by simpa using c5
  have e:skE ⟨di,st,q,s0,⟨c,⟨n,d,a,p,f⟩,l⟩,⟨gc,gq,gw,gr,gl⟩,wr,pl,mi⟩ i=0:=by rw [hgo,if_neg hs3,if_neg hs5]
  obtain ⟨f1,f2,f3⟩:=ZBw (c:=c) (n:=i) ⟨k1,k2⟩ hi
  have eM:skM ⟨di,st,q,s0,⟨c,⟨n,d,a,p,f⟩,l⟩,⟨gc,gq,gw,gr,gl⟩,wr,pl,mi⟩ i=0:=by unfold skM; rw [if_neg hs3,if_neg hs5]
  have eX:skX ⟨di,st,q,s0,⟨c,⟨n,d,a,p,f⟩,l⟩,⟨gc,gq,gw,gr,gl⟩,wr,pl,mi⟩ i=0:=by unfold skX; rw [if_neg (fun h=>hs3 h.2)]
  have eR:skR ⟨di,st,q,s0,⟨c,⟨n,d,a,p,f⟩,l⟩,⟨gc,gq,gw,gr,gl⟩,wr,pl,mi⟩ i=⟨di,st,q,s0,⟨c,⟨n,d,a,p,f⟩,l⟩,⟨gc,gq,gw,gr,gl⟩,wr,pl,mi⟩:=by unfold skR; rw [if_pos e,if_neg (by simp [hs3,hs5])]
  have eO:skO ⟨di,st,q,s0,⟨c,⟨n,d,a,p,f⟩,l⟩,⟨gc,gq,gw,gr,gl⟩,wr,pl,mi⟩ i=List.replicate (i.toNat*c.toNat) 0:=by unfold skO; rw [if_pos e,eM]; simp [ZcQ]
  have eC:skC ⟨di,st,q,s0,⟨c,⟨n,d,a,p,f⟩,l⟩,⟨gc,gq,gw,gr,gl⟩,wr,pl,mi⟩ i=c:=by unfold skC; rw [if_pos e]
  rw [f1,f3,e,eX,eR,eO,eC]
theorem ZtN (di st q s0 c n d a p f:Int) (l:List Int) (gc gq gw gr:Int) (gl:List Int) (wr pl mi:Int) (i:Int) (hl:l.length≤1000000) (hg:gl.length≤1000000) (hs:st=3) (h3:tkE ⟨c,⟨n,d,a,p,f⟩,l⟩ (skK ⟨di,st,q,s0,⟨c,⟨n,d,a,p,f⟩,l⟩,⟨gc,gq,gw,gr,gl⟩,wr,pl,mi⟩ i)=0):Spec Tryz.prog 0 35 [.agg (smC ⟨di,st,q,s0,⟨c,⟨n,d,a,p,f⟩,l⟩,⟨gc,gq,gw,gr,gl⟩,wr,pl,mi⟩),vI .i64 i] [] [] (.tup [.agg [.int .i64 (skC ⟨di,st,q,s0,⟨c,⟨n,d,a,p,f⟩,l⟩,⟨gc,gq,gw,gr,gl⟩,wr,pl,mi⟩ i),.list (LI .i32 (skO ⟨di,st,q,s0,⟨c,⟨n,d,a,p,f⟩,l⟩,⟨gc,gq,gw,gr,gl⟩,wr,pl,mi⟩ i))],.int .i64 (skX ⟨di,st,q,s0,⟨c,⟨n,d,a,p,f⟩,l⟩,⟨gc,gq,gw,gr,gl⟩,wr,pl,mi⟩ i),.agg (smD (skR ⟨di,st,q,s0,⟨c,⟨n,d,a,p,f⟩,l⟩,⟨gc,gq,gw,gr,gl⟩,wr,pl,mi⟩ i)),.int .i64 (skE ⟨di,st,q,s0,⟨c,⟨n,d,a,p,f⟩,l⟩,⟨gc,gq,gw,gr,gl⟩,wr,pl,mi⟩ i)]) [] []:=by
 refine sE (md:=fun s=>if s=99 then 3 else 0) (L:=[(61,ZgF),(65,Zh8),(52,ZaB),(91,ZdV),(92,Zhq),(93,Zfd),(58,Zcm),(53,ZgG),(94,ZjS)]) [] 2720119987622162846539767 (Za ZeQ (Za ZgC (Za Zbb (Za Zdy (Za ZlJ (Za Zjb (Za Zc6 (Za ZgH (Za ZjU Zb))))))))) Tryz.func35 rfl rfl rfl ?_
 simp (maxSteps:=1000000) only [↓Zn,Ze,Zd,Zm,gSt,gS0,Ya,Yb,↓reduceIte,reduceCtorEq,Yc,Yd,Ye,Yf,Yg,Yj,Yk,Yl,Ym,Yn,ZeP,ZgB,Zx,Zdx,ZlI,Zja,Zc5,ZV,ZjT,gE1,Tryz.ntmps35,Tryz.results35,gTT]
 refine ⟨⟨hl,hg⟩,fun h=>?_,fun h=>⟨fun h2=>?_,fun h2=>?_⟩⟩
 ·have e:skE ⟨di,st,q,s0,⟨c,⟨n,d,a,p,f⟩,l⟩,⟨gc,gq,gw,gr,gl⟩,wr,pl,mi⟩ i=1:=Zno (show smP _=false from h)
  obtain ⟨e1,e2,e3,e4⟩:=Ze1 (x:=⟨di,st,q,s0,⟨c,⟨n,d,a,p,f⟩,l⟩,⟨gc,gq,gw,gr,gl⟩,wr,pl,mi⟩) (i:=i) (by rw [e]; decide)
  simp [e,e1,e2,e3,e4,sm0,rs0,rg0,Zw]
 ·have hP:smP ⟨di,st,q,s0,⟨c,⟨n,d,a,p,f⟩,l⟩,⟨gc,gq,gw,gr,gl⟩,wr,pl,mi⟩=true:=by unfold smP; simpa using h
  have e:skE ⟨di,st,q,s0,⟨c,⟨n,d,a,p,f⟩,l⟩,⟨gc,gq,gw,gr,gl⟩,wr,pl,mi⟩ i=2:=Znp hP h2
  obtain ⟨e1,e2,e3,e4⟩:=Ze1 (x:=⟨di,st,q,s0,⟨c,⟨n,d,a,p,f⟩,l⟩,⟨gc,gq,gw,gr,gl⟩,wr,pl,mi⟩) (i:=i) (by rw [e]; decide)
  simp [e,e1,e2,e3,e4,sm0,rs0,rg0,Zw]
 have hP:smP ⟨di,st,q,s0,⟨c,⟨n,d,a,p,f⟩,l⟩,⟨gc,gq,gw,gr,gl⟩,wr,pl,mi⟩=true:=by unfold smP; simpa using h
 have hgo:=Zqq hP h2
 have hv:smV ⟨di,st,q,s0,⟨c,⟨n,d,a,p,f⟩,l⟩,⟨gc,gq,gw,gr,gl⟩,wr,pl,mi⟩=true∧di=1:=by unfold smP at hP; simpa using hP
 have hb:=Zan (Zag hv.1).1
 simp only at hb hgo
 have hi:0≤i∧i≤65536:=by simp only [Bool.or_eq_false_iff,decide_eq_false_iff_not] at h2; omega
 have hN:smN ⟨di,st,q,s0,⟨c,⟨n,d,a,p,f⟩,l⟩,⟨gc,gq,gw,gr,gl⟩,wr,pl,mi⟩=waN ⟨c,⟨n,d,a,p,f⟩,l⟩:=by unfold smN; rw [if_neg (by rw [hv.1]; decide),if_neg (by show ¬ di=2; omega)]
 have hw:=Zec hb.2.2.2.1 hl
 have hma:maN ⟨n,d,a,p,f⟩ (smN ⟨di,st,q,s0,⟨c,⟨n,d,a,p,f⟩,l⟩,⟨gc,gq,gw,gr,gl⟩,wr,pl,mi⟩)=((mkN ⟨n,d,a,p,f⟩ (waN ⟨c,⟨n,d,a,p,f⟩,l⟩):Nat):Int):=by rw [hN]; exact ZAZ (ZA hb.2.2.2.1).1 hw.2
 have hK:(if i < maN ⟨n,d,a,p,f⟩ (smN ⟨di,st,q,s0,⟨c,⟨n,d,a,p,f⟩,l⟩,⟨gc,gq,gw,gr,gl⟩,wr,pl,mi⟩) then i else maN ⟨n,d,a,p,f⟩ (smN ⟨di,st,q,s0,⟨c,⟨n,d,a,p,f⟩,l⟩,⟨gc,gq,gw,gr,gl⟩,wr,pl,mi⟩))=skK ⟨di,st,q,s0,⟨c,⟨n,d,a,p,f⟩,l⟩,⟨gc,gq,gw,gr,gl⟩,wr,pl,mi⟩ i:=by
  rw [hma]
  show _=min ((mkN ⟨n,d,a,p,f⟩ (waN ⟨c,⟨n,d,a,p,f⟩,l⟩):Nat):Int) i
  split <;> omega
 have hKi:=Zmh (x:=⟨di,st,q,s0,⟨c,⟨n,d,a,p,f⟩,l⟩,⟨gc,gq,gw,gr,gl⟩,wr,pl,mi⟩) hi.1
 obtain ⟨⟨k1,k2⟩,k3,k4,k5⟩:=ZW (ZA hb.2.2.2.1).2 hl
 simp only at k1 k2 k3
 have hcc:(c.toNat:Int)=c:=by omega
 have hii:(i.toNat:Int)=i:=by omega
 have hmi:i*c=((i.toNat*c.toNat:Nat):Int):=by rw [Int.natCast_mul,hcc,hii]
 have hib:=Nat.mul_le_mul (show i.toNat≤65536 by omega) (show c.toNat≤8 by omega)
 refine ⟨fun c3=>⟨by kernel_rfl,⟨hl,hg⟩,⟨hl,?_⟩,fun c6=>?_,fun c6=>⟨by kernel_rfl,?_⟩⟩,fun c3=>?_⟩
 ·rw [hK]; exact h3
 ·rw [hK,h3] at c6; exact absurd c6 (by decide)
 ·rw [hK]
  have e:skE ⟨di,st,q,s0,⟨c,⟨n,d,a,p,f⟩,l⟩,⟨gc,gq,gw,gr,gl⟩,wr,pl,mi⟩ i=0:=by rw [hgo,if_pos hs]; exact h3
  have eM:skM ⟨di,st,q,s0,⟨c,⟨n,d,a,p,f⟩,l⟩,⟨gc,gq,gw,gr,gl⟩,wr,pl,mi⟩ i=skK ⟨di,st,q,s0,⟨c,⟨n,d,a,p,f⟩,l⟩,⟨gc,gq,gw,gr,gl⟩,wr,pl,mi⟩ i:=if_pos hs
  have eX:skX ⟨di,st,q,s0,⟨c,⟨n,d,a,p,f⟩,l⟩,⟨gc,gq,gw,gr,gl⟩,wr,pl,mi⟩ i=i - skK ⟨di,st,q,s0,⟨c,⟨n,d,a,p,f⟩,l⟩,⟨gc,gq,gw,gr,gl⟩,wr,pl,mi⟩ i:=if_pos ⟨e,hs⟩
  have eS:skS ⟨di,st,q,s0,⟨c,⟨n,d,a,p,f⟩,l⟩,⟨gc,gq,gw,gr,gl⟩,wr,pl,mi⟩ i=st:=if_neg (by show ¬ (st=5∧_); omega)
  have eC:tkC ⟨c,⟨n,d,a,p,f⟩,l⟩ (skK ⟨di,st,q,s0,⟨c,⟨n,d,a,p,f⟩,l⟩,⟨gc,gq,gw,gr,gl⟩,wr,pl,mi⟩ i)=c:=if_pos h3
  have eO:tkO ⟨c,⟨n,d,a,p,f⟩,l⟩ (skK ⟨di,st,q,s0,⟨c,⟨n,d,a,p,f⟩,l⟩,⟨gc,gq,gw,gr,gl⟩,wr,pl,mi⟩ i)=ZcQ ⟨c,⟨n,d,a,p,f⟩,l⟩ (skK ⟨di,st,q,s0,⟨c,⟨n,d,a,p,f⟩,l⟩,⟨gc,gq,gw,gr,gl⟩,wr,pl,mi⟩ i).toNat:=if_pos h3
  have eT:tkR ⟨c,⟨n,d,a,p,f⟩,l⟩ (skK ⟨di,st,q,s0,⟨c,⟨n,d,a,p,f⟩,l⟩,⟨gc,gq,gw,gr,gl⟩,wr,pl,mi⟩ i)=poR ⟨c,⟨n,d,a,p,f⟩,l⟩ (skK ⟨di,st,q,s0,⟨c,⟨n,d,a,p,f⟩,l⟩,⟨gc,gq,gw,gr,gl⟩,wr,pl,mi⟩ i):=if_pos h3
  have eR:skR ⟨di,st,q,s0,⟨c,⟨n,d,a,p,f⟩,l⟩,⟨gc,gq,gw,gr,gl⟩,wr,pl,mi⟩ i=⟨di,st,q,s0,poR ⟨c,⟨n,d,a,p,f⟩,l⟩ (skK ⟨di,st,q,s0,⟨c,⟨n,d,a,p,f⟩,l⟩,⟨gc,gq,gw,gr,gl⟩,wr,pl,mi⟩ i),⟨gc,gq,gw,gr,gl⟩,wr,IntKind.i64.wrap (pl+i),IntKind.i64.wrap (mi+(i - skK ⟨di,st,q,s0,⟨c,⟨n,d,a,p,f⟩,l⟩,⟨gc,gq,gw,gr,gl⟩,wr,pl,mi⟩ i))⟩:=by
   unfold skR
   rw [if_pos e,if_pos (Or.inl hs),eM,eX,eS]
  have eC2:skC ⟨di,st,q,s0,⟨c,⟨n,d,a,p,f⟩,l⟩,⟨gc,gq,gw,gr,gl⟩,wr,pl,mi⟩ i=c:=if_pos e
  have eO2:skO ⟨di,st,q,s0,⟨c,⟨n,d,a,p,f⟩,l⟩,⟨gc,gq,gw,gr,gl⟩,wr,pl,mi⟩ i=ZcQ ⟨c,⟨n,d,a,p,f⟩,l⟩ (skK ⟨di,st,q,s0,⟨c,⟨n,d,a,p,f⟩,l⟩,⟨gc,gq,gw,gr,gl⟩,wr,pl,mi⟩ i).toNat++List.replicate ((i.toNat - (skK ⟨di,st,q,s0,⟨c,⟨n,d,a,p,f⟩,l⟩,⟨gc,gq,gw,gr,gl⟩,wr,pl,mi⟩ i).toNat)*c.toNat) 0:=by
   unfold skO
   rw [if_pos e,eM]
  have hol:(ZcQ ⟨c,⟨n,d,a,p,f⟩,l⟩ (skK ⟨di,st,q,s0,⟨c,⟨n,d,a,p,f⟩,l⟩,⟨gc,gq,gw,gr,gl⟩,wr,pl,mi⟩ i).toNat).length=(skK ⟨di,st,q,s0,⟨c,⟨n,d,a,p,f⟩,l⟩,⟨gc,gq,gw,gr,gl⟩,wr,pl,mi⟩ i).toNat*c.toNat:=Zd9 _ _
  have hle:=Nat.mul_le_mul_right c.toNat (show (skK ⟨di,st,q,s0,⟨c,⟨n,d,a,p,f⟩,l⟩,⟨gc,gq,gw,gr,gl⟩,wr,pl,mi⟩ i).toNat≤i.toNat by omega)
  rw [eC,eO,eT,e,eC2,eO2,eR,eX,IntWalk.i64_in (i - skK ⟨di,st,q,s0,⟨c,⟨n,d,a,p,f⟩,l⟩,⟨gc,gq,gw,gr,gl⟩,wr,pl,mi⟩ i) (by omega),hmi,hol]
  refine ⟨⟨by omega,by omega⟩,?_⟩
  rw [show (((i.toNat*c.toNat:Nat):Int) - (((skK ⟨di,st,q,s0,⟨c,⟨n,d,a,p,f⟩,l⟩,⟨gc,gq,gw,gr,gl⟩,wr,pl,mi⟩ i).toNat*c.toNat:Nat):Int)).toNat=(i.toNat - (skK ⟨di,st,q,s0,⟨c,⟨n,d,a,p,f⟩,l⟩,⟨gc,gq,gw,gr,gl⟩,wr,pl,mi⟩ i).toNat)*c.toNat by rw [Nat.sub_mul]; omega]
 ·exact absurd hs (by simpa using c3)
theorem ZtO (di st q s0 c n d a p f:Int) (l:List Int) (gc gq gw gr:Int) (gl:List Int) (wr pl mi:Int) (i:Int) (hl:l.length≤1000000) (hg:gl.length≤1000000) (hs:st=5) (h5:fiE ⟨c,⟨n,d,a,p,f⟩,l⟩ i=0):Spec Tryz.prog 0 35 [.agg (smC ⟨di,st,q,s0,⟨c,⟨n,d,a,p,f⟩,l⟩,⟨gc,gq,gw,gr,gl⟩,wr,pl,mi⟩),vI .i64 i] [] [] (.tup [.agg [.int .i64 (skC ⟨di,st,q,s0,⟨c,⟨n,d,a,p,f⟩,l⟩,⟨gc,gq,gw,gr,gl⟩,wr,pl,mi⟩ i),.list (LI .i32 (skO ⟨di,st,q,s0,⟨c,⟨n,d,a,p,f⟩,l⟩,⟨gc,gq,gw,gr,gl⟩,wr,pl,mi⟩ i))],.int .i64 (skX ⟨di,st,q,s0,⟨c,⟨n,d,a,p,f⟩,l⟩,⟨gc,gq,gw,gr,gl⟩,wr,pl,mi⟩ i),.agg (smD (skR ⟨di,st,q,s0,⟨c,⟨n,d,a,p,f⟩,l⟩,⟨gc,gq,gw,gr,gl⟩,wr,pl,mi⟩ i)),.int .i64 (skE ⟨di,st,q,s0,⟨c,⟨n,d,a,p,f⟩,l⟩,⟨gc,gq,gw,gr,gl⟩,wr,pl,mi⟩ i)]) [] []:=by
 refine sE (md:=fun s=>if s=99 then 3 else 0) (L:=[(61,ZgF),(65,Zh8),(52,ZaB),(91,ZdV),(92,ZjZ),(93,Zez),(58,Zcm),(53,ZgG),(94,ZjS)]) [] 2720119987622162846539767 (Za ZeQ (Za ZgC (Za Zbb (Za Zdy (Za Zj1 (Za Zob (Za Zc6 (Za ZgH (Za ZjU Zb))))))))) Tryz.func35 rfl rfl rfl ?_
 simp (maxSteps:=1000000) only [↓Zn,Ze,Zd,Zm,gSt,gS0,Ya,Yb,↓reduceIte,reduceCtorEq,Yc,Yd,Ye,Yf,Yg,Yj,Yk,Yl,Ym,Yn,ZeP,ZgB,Zx,Zdx,Zj0,Zoa,Zc5,ZV,ZjT,gE1,Tryz.ntmps35,Tryz.results35,gTT]
 refine ⟨⟨hl,hg⟩,fun h=>?_,fun h=>⟨fun h2=>?_,fun h2=>?_⟩⟩
 ·have e:skE ⟨di,st,q,s0,⟨c,⟨n,d,a,p,f⟩,l⟩,⟨gc,gq,gw,gr,gl⟩,wr,pl,mi⟩ i=1:=Zno (show smP _=false from h)
  obtain ⟨e1,e2,e3,e4⟩:=Ze1 (x:=⟨di,st,q,s0,⟨c,⟨n,d,a,p,f⟩,l⟩,⟨gc,gq,gw,gr,gl⟩,wr,pl,mi⟩) (i:=i) (by rw [e]; decide)
  simp [e,e1,e2,e3,e4,sm0,rs0,rg0,Zw]
 ·have hP:smP ⟨di,st,q,s0,⟨c,⟨n,d,a,p,f⟩,l⟩,⟨gc,gq,gw,gr,gl⟩,wr,pl,mi⟩=true:=by unfold smP; simpa using h
  have e:skE ⟨di,st,q,s0,⟨c,⟨n,d,a,p,f⟩,l⟩,⟨gc,gq,gw,gr,gl⟩,wr,pl,mi⟩ i=2:=Znp hP h2
  obtain ⟨e1,e2,e3,e4⟩:=Ze1 (x:=⟨di,st,q,s0,⟨c,⟨n,d,a,p,f⟩,l⟩,⟨gc,gq,gw,gr,gl⟩,wr,pl,mi⟩) (i:=i) (by rw [e]; decide)
  simp [e,e1,e2,e3,e4,sm0,rs0,rg0,Zw]
 have hP:smP ⟨di,st,q,s0,⟨c,⟨n,d,a,p,f⟩,l⟩,⟨gc,gq,gw,gr,gl⟩,wr,pl,mi⟩=true:=by unfold smP; simpa using h
 have hgo:=Zqq hP h2
 have hv:smV ⟨di,st,q,s0,⟨c,⟨n,d,a,p,f⟩,l⟩,⟨gc,gq,gw,gr,gl⟩,wr,pl,mi⟩=true∧di=1:=by unfold smP at hP; simpa using hP
 have hb:=Zan (Zag hv.1).1
 simp only at hb hgo
 have hi:0≤i∧i≤65536:=by simp only [Bool.or_eq_false_iff,decide_eq_false_iff_not] at h2; omega
 have hN:smN ⟨di,st,q,s0,⟨c,⟨n,d,a,p,f⟩,l⟩,⟨gc,gq,gw,gr,gl⟩,wr,pl,mi⟩=waN ⟨c,⟨n,d,a,p,f⟩,l⟩:=by unfold smN; rw [if_neg (by rw [hv.1]; decide),if_neg (by show ¬ di=2; omega)]
 have hw:=Zec hb.2.2.2.1 hl
 have hma:maN ⟨n,d,a,p,f⟩ (smN ⟨di,st,q,s0,⟨c,⟨n,d,a,p,f⟩,l⟩,⟨gc,gq,gw,gr,gl⟩,wr,pl,mi⟩)=((mkN ⟨n,d,a,p,f⟩ (waN ⟨c,⟨n,d,a,p,f⟩,l⟩):Nat):Int):=by rw [hN]; exact ZAZ (ZA hb.2.2.2.1).1 hw.2
 have hK:(if i < maN ⟨n,d,a,p,f⟩ (smN ⟨di,st,q,s0,⟨c,⟨n,d,a,p,f⟩,l⟩,⟨gc,gq,gw,gr,gl⟩,wr,pl,mi⟩) then i else maN ⟨n,d,a,p,f⟩ (smN ⟨di,st,q,s0,⟨c,⟨n,d,a,p,f⟩,l⟩,⟨gc,gq,gw,gr,gl⟩,wr,pl,mi⟩))=skK ⟨di,st,q,s0,⟨c,⟨n,d,a,p,f⟩,l⟩,⟨gc,gq,gw,gr,gl⟩,wr,pl,mi⟩ i:=by
  rw [hma]
  show _=min ((mkN ⟨n,d,a,p,f⟩ (waN ⟨c,⟨n,d,a,p,f⟩,l⟩):Nat):Int) i
  split <;> omega
 have hKi:=Zmh (x:=⟨di,st,q,s0,⟨c,⟨n,d,a,p,f⟩,l⟩,⟨gc,gq,gw,gr,gl⟩,wr,pl,mi⟩) hi.1
 obtain ⟨⟨k1,k2⟩,k3,k4,k5⟩:=ZW (ZA hb.2.2.2.1).2 hl
 simp only at k1 k2 k3
 have hcc:(c.toNat:Int)=c:=by omega
 have hii:(i.toNat:Int)=i:=by omega
 have hmi:i*c=((i.toNat*c.toNat:Nat):Int):=by rw [Int.natCast_mul,hcc,hii]
 have hib:=Nat.mul_le_mul (show i.toNat≤65536 by omega) (show c.toNat≤8 by omega)
 have hs3:¬ st=3:=by omega
 have e:skE ⟨di,st,q,s0,⟨c,⟨n,d,a,p,f⟩,l⟩,⟨gc,gq,gw,gr,gl⟩,wr,pl,mi⟩ i=0:=by rw [hgo,if_neg hs3,if_pos hs]; exact h5
 have hct:=ZuJ hb.2.2.2.1 hl hi.1
 have eM:skM ⟨di,st,q,s0,⟨c,⟨n,d,a,p,f⟩,l⟩,⟨gc,gq,gw,gr,gl⟩,wr,pl,mi⟩ i=cnt ⟨c,⟨n,d,a,p,f⟩,l⟩ i:=by unfold skM; rw [if_neg hs3,if_pos hs]
 have eX:skX ⟨di,st,q,s0,⟨c,⟨n,d,a,p,f⟩,l⟩,⟨gc,gq,gw,gr,gl⟩,wr,pl,mi⟩ i=0:=by unfold skX; rw [if_neg (fun h=>hs3 h.2)]
 have eC:fiC ⟨c,⟨n,d,a,p,f⟩,l⟩ i=c:=if_pos h5
 have eO:fiO ⟨c,⟨n,d,a,p,f⟩,l⟩ i=ZcQ ⟨c,⟨n,d,a,p,f⟩,l⟩ (cnt ⟨c,⟨n,d,a,p,f⟩,l⟩ i).toNat:=if_pos h5
 have eT:fiR ⟨c,⟨n,d,a,p,f⟩,l⟩ i=poR ⟨c,⟨n,d,a,p,f⟩,l⟩ (cnt ⟨c,⟨n,d,a,p,f⟩,l⟩ i):=if_pos h5
 have eS:skS ⟨di,st,q,s0,⟨c,⟨n,d,a,p,f⟩,l⟩,⟨gc,gq,gw,gr,gl⟩,wr,pl,mi⟩ i=if (poR ⟨c,⟨n,d,a,p,f⟩,l⟩ (cnt ⟨c,⟨n,d,a,p,f⟩,l⟩ i)).l.length=0 then 6 else st:=by
  unfold skS
  rw [eM]
  simp [hs]
 have eR:skR ⟨di,st,q,s0,⟨c,⟨n,d,a,p,f⟩,l⟩,⟨gc,gq,gw,gr,gl⟩,wr,pl,mi⟩ i=⟨di,skS ⟨di,st,q,s0,⟨c,⟨n,d,a,p,f⟩,l⟩,⟨gc,gq,gw,gr,gl⟩,wr,pl,mi⟩ i,q,s0,poR ⟨c,⟨n,d,a,p,f⟩,l⟩ (cnt ⟨c,⟨n,d,a,p,f⟩,l⟩ i),⟨gc,gq,gw,gr,gl⟩,wr,IntKind.i64.wrap (pl+i),IntKind.i64.wrap (mi+0)⟩:=by
  unfold skR
  rw [if_pos e,if_pos (Or.inr hs),eM,eX]
 have eC2:skC ⟨di,st,q,s0,⟨c,⟨n,d,a,p,f⟩,l⟩,⟨gc,gq,gw,gr,gl⟩,wr,pl,mi⟩ i=c:=if_pos e
 have eO2:skO ⟨di,st,q,s0,⟨c,⟨n,d,a,p,f⟩,l⟩,⟨gc,gq,gw,gr,gl⟩,wr,pl,mi⟩ i=ZcQ ⟨c,⟨n,d,a,p,f⟩,l⟩ (cnt ⟨c,⟨n,d,a,p,f⟩,l⟩ i).toNat++List.replicate ((i.toNat - (cnt ⟨c,⟨n,d,a,p,f⟩,l⟩ i).toNat)*c.toNat) 0:=by
  unfold skO
  rw [if_pos e,eM]
 have hol:(ZcQ ⟨c,⟨n,d,a,p,f⟩,l⟩ (cnt ⟨c,⟨n,d,a,p,f⟩,l⟩ i).toNat).length=(cnt ⟨c,⟨n,d,a,p,f⟩,l⟩ i).toNat*c.toNat:=Zd9 _ _
 have hle:=Nat.mul_le_mul_right c.toNat (show (cnt ⟨c,⟨n,d,a,p,f⟩,l⟩ i).toNat≤i.toNat by omega)
 have hsub:(((i.toNat*c.toNat:Nat):Int) - (((cnt ⟨c,⟨n,d,a,p,f⟩,l⟩ i).toNat*c.toNat:Nat):Int)).toNat=(i.toNat - (cnt ⟨c,⟨n,d,a,p,f⟩,l⟩ i).toNat)*c.toNat:=by rw [Nat.sub_mul]; omega
 refine ⟨fun c3=>absurd (by simpa using c3) hs3,fun c3=>⟨fun c5=>⟨⟨hl,h5⟩,fun c6=>⟨fun c7=>?_,fun c7=>⟨by kernel_rfl,?_⟩⟩,fun c6=>⟨fun c7=>?_,fun c7=>⟨by kernel_rfl,?_⟩⟩⟩,fun c5=>absurd hs (by simpa using c5)⟩⟩
 ·rw [h5] at c7; exact absurd c7 (by decide)
 ·rw [eT] at c6
  have c8:(poR ⟨c,⟨n,d,a,p,f⟩,l⟩ (cnt ⟨c,⟨n,d,a,p,f⟩,l⟩ i)).l.length=0:=by simpa using c6
  rw [eC,eO,eT,e,eC2,eO2,eR,eX,eS,if_pos c8,hmi,hol]
  refine ⟨⟨by omega,by omega⟩,?_⟩
  rw [hsub]
 ·rw [h5] at c7; exact absurd c7 (by decide)
 ·rw [eT] at c6
  have c8:¬ (poR ⟨c,⟨n,d,a,p,f⟩,l⟩ (cnt ⟨c,⟨n,d,a,p,f⟩,l⟩ i)).l.length=0:=by
   intro h8
   rw [h8] at c6
   exact absurd c6 (by decide)
  rw [eC,eO,eT,e,eC2,eO2,eR,eX,eS,if_neg c8,hmi,hol]
  refine ⟨⟨by omega,by omega⟩,?_⟩
  rw [hsub]
theorem Zyc (di st q s0 c n d a p f:Int) (l:List Int) (gc gq gw gr:Int) (gl:List Int) (wr pl mi:Int) (i:Int) (hl:l.length≤1000000) (hg:gl.length≤1000000):Spec Tryz.prog 0 35 [.agg [.d (.int .i64 di),.d (.int .i64 st),.d (.int .i64 q),.d (.int .i64 s0),.d (.int .i64 c),.d (.int .i64 n),.d (.int .i64 d),.d (.int .i64 a),.d (.int .i64 p),.d (.int .i64 f),.d (.list (LI .i32 l)),.d (.int .i64 gc),.d (.int .i64 gq),.d (.int .i64 gw),.d (.int .i64 gr),.d (.list (LI .i32 gl)),.d (.int .i64 wr),.d (.int .i64 pl),.d (.int .i64 mi)],.c (.d (.int .i64 i))] [] [] (.tup [.agg [.int .i64 (skC ⟨di,st,q,s0,⟨c,⟨n,d,a,p,f⟩,l⟩,⟨gc,gq,gw,gr,gl⟩,wr,pl,mi⟩ i),.list (LI .i32 (skO ⟨di,st,q,s0,⟨c,⟨n,d,a,p,f⟩,l⟩,⟨gc,gq,gw,gr,gl⟩,wr,pl,mi⟩ i))],.int .i64 (skX ⟨di,st,q,s0,⟨c,⟨n,d,a,p,f⟩,l⟩,⟨gc,gq,gw,gr,gl⟩,wr,pl,mi⟩ i),.agg (smD (skR ⟨di,st,q,s0,⟨c,⟨n,d,a,p,f⟩,l⟩,⟨gc,gq,gw,gr,gl⟩,wr,pl,mi⟩ i)),.int .i64 (skE ⟨di,st,q,s0,⟨c,⟨n,d,a,p,f⟩,l⟩,⟨gc,gq,gw,gr,gl⟩,wr,pl,mi⟩ i)]) [] []:=by
 by_cases h3:st=3∧tkE ⟨c,⟨n,d,a,p,f⟩,l⟩ (skK ⟨di,st,q,s0,⟨c,⟨n,d,a,p,f⟩,l⟩,⟨gc,gq,gw,gr,gl⟩,wr,pl,mi⟩ i)=0
 ·exact ZtN di st q s0 c n d a p f l gc gq gw gr gl wr pl mi i hl hg h3.1 h3.2
 by_cases h5:st=5∧fiE ⟨c,⟨n,d,a,p,f⟩,l⟩ i=0
 ·exact ZtO di st q s0 c n d a p f l gc gq gw gr gl wr pl mi i hl hg h5.1 h5.2
 ·exact ZtM di st q s0 c n d a p f l gc gq gw gr gl wr pl mi i hl hg (fun h h2=>h3 ⟨h,h2⟩) (fun h h2=>h5 ⟨h,h2⟩)
def ZjX:List V→Zf→Zr→Name→Option Ent
 | [.agg [.d (.int .i64 di),.d (.int .i64 st),.d (.int .i64 q),.d (.int .i64 s0),.d (.int .i64 c),.d (.int .i64 n),.d (.int .i64 d),.d (.int .i64 a),.d (.int .i64 p),.d (.int .i64 f),.d (.list q_l),.d (.int .i64 gc),.d (.int .i64 gq),.d (.int .i64 gw),.d (.int .i64 gr),.d (.list q_gl),.d (.int .i64 wr),.d (.int .i64 pl),.d (.int .i64 mi)],.c (.d (.int .i64 i))],[],[],_=>some ⟨(Zc q_l).length≤1000000∧(Zc q_gl).length≤1000000∧q_l=LI .i32 (Zc q_l)∧q_gl=LI .i32 (Zc q_gl),.tup [.agg [.int .i64 (skC ⟨di,st,q,s0,⟨c,⟨n,d,a,p,f⟩,(Zc q_l)⟩,⟨gc,gq,gw,gr,(Zc q_gl)⟩,wr,pl,mi⟩ i),.list (LI .i32 (skO ⟨di,st,q,s0,⟨c,⟨n,d,a,p,f⟩,(Zc q_l)⟩,⟨gc,gq,gw,gr,(Zc q_gl)⟩,wr,pl,mi⟩ i))],.int .i64 (skX ⟨di,st,q,s0,⟨c,⟨n,d,a,p,f⟩,(Zc q_l)⟩,⟨gc,gq,gw,gr,(Zc q_gl)⟩,wr,pl,mi⟩ i),.agg (smD (skR ⟨di,st,q,s0,⟨c,⟨n,d,a,p,f⟩,(Zc q_l)⟩,⟨gc,gq,gw,gr,(Zc q_gl)⟩,wr,pl,mi⟩ i)),.int .i64 (skE ⟨di,st,q,s0,⟨c,⟨n,d,a,p,f⟩,(Zc q_l)⟩,⟨gc,gq,gw,gr,(Zc q_gl)⟩,wr,pl,mi⟩ i)],[],[]⟩
 | _,_,_,_=>none
def ZbD:=And.intro (@ZjX.eq_1) (@ZjX.eq_1)
theorem ZwG:Snd Tryz.prog 35 ZjX:=by
 intro vs b k n e h hn hp
 unfold ZjX at h
 split at h
 ·cases h; obtain ⟨hp0,hp1,hq0,hq1⟩:=hp; obtain ⟨_,rfl⟩:=Zq hq0; obtain ⟨_,rfl⟩:=Zq hq1; simp only [Zi,Zo,Zj,Zp] at hp0 hp1 ⊢; exact (Zyc _ _ _ _ _ _ _ _ _ _ _ _ _ _ _ _ _ _ _ _ hp0 hp1).lift rfl _
 ·cases h
end Go.Vam
