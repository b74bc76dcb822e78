/- A part of the proof. Conditions: none. -/
import Derived.Test.YtmpbpijnbmpbhaaGreatSMd
set_option linter.unusedVariables false
set_option linter.defProp false
set_option linter.unusedSimpArgs false
set_option maxRecDepth 40000
set_option maxHeartbeats 4000000
namespace Go.Vam
open Go.Proofs
open Nat renaming reduceShiftRight→Ya,reduceMod→Yb,reduceEqDiff→Yc,reduceLT→Yd,reduceLeDiff→Ye,reduceAdd→Yf,reduceMul→Yg
open Int renaming reduceLE→Yj,reduceLT→Yk,reduceNeg→Yl,reduceAdd→Ym,reduceToNat→Yn
theorem ZiD {x:Rs} (h:phV x.p=true) (ha:x.l.all Zc2=true):∀ n:Nat,n≤65536→(Zbo x n).all Zc2=true
 | 0,_=>rfl
 | n+1,hn=>by
  have e:Zbo x (n+1)=Zbo x n++ZiB x n x.c.toNat:=rfl
  rw [e,List.all_append,ZiD h ha n (by omega),Bool.true_and,List.all_eq_true]
  intro z hz
  unfold ZiB at hz
  rw [List.mem_map] at hz
  obtain ⟨j,_,rfl⟩:=hz
  have hp:=ZcG h
  have hq:=Zbm h (n:=(n:Int)) (by omega)
  have:=ZDx (a:=gx x (qN x.p n) j) (b:=gx x (qN x.p n+1) j) (f:=fAt x.p n) (P:=prt x.p) (by omega) ⟨hq.2.1,hq.2.2.1⟩ (Ze0 ha _) (Ze0 ha _)
  simp only [Zc2,Bool.and_eq_true,decide_eq_true_eq]
  exact this
theorem Zqx (di st q s0 c n d a p f:Int) (l:List Int) (gc gq gw gr:Int) (gl:List Int) (wr pl mi:Int) (i:Int) (hl:l.length≤1000000) (hg:gl.length≤1000000) (h3:(st==3)=true) (h5:(st==5)=false):Spec Tryz.prog 0 148 [.agg [.d (.int .i64 di),.d (.int .i64 st),.d (.int .i64 q),.d (.int .i64 s0),.d (.int .i64 c),.d (.int .i64 n),.d (.int .i64 d),.d (.int .i64 a),.d (.int .i64 p),.d (.int .i64 f),.d (.list (LI .i32 l)),.d (.int .i64 gc),.d (.int .i64 gq),.d (.int .i64 gw),.d (.int .i64 gr),.d (.list (LI .i32 gl)),.d (.int .i64 wr),.d (.int .i64 pl),.d (.int .i64 mi)],vI .i64 i] [] [] (.tup [.agg [.int .i64 (skC ⟨di,st,q,s0,⟨c,⟨n,d,a,p,f⟩,l⟩,⟨gc,gq,gw,gr,gl⟩,wr,pl,mi⟩ i),.list (LI .i32 (skO ⟨di,st,q,s0,⟨c,⟨n,d,a,p,f⟩,l⟩,⟨gc,gq,gw,gr,gl⟩,wr,pl,mi⟩ i))],.int .i64 (skX ⟨di,st,q,s0,⟨c,⟨n,d,a,p,f⟩,l⟩,⟨gc,gq,gw,gr,gl⟩,wr,pl,mi⟩ i),.agg (smD (skR ⟨di,st,q,s0,⟨c,⟨n,d,a,p,f⟩,l⟩,⟨gc,gq,gw,gr,gl⟩,wr,pl,mi⟩ i)),.int .i64 (skE ⟨di,st,q,s0,⟨c,⟨n,d,a,p,f⟩,l⟩,⟨gc,gq,gw,gr,gl⟩,wr,pl,mi⟩ i)]) [] []:=by
 refine sE (md:=fun _=>0) (L:=[(206,Zb9),(99,ZcR),(208,ZZ),(101,ZeJ),(209,Zcx),(20,ZbY),(12,ZbS),(18,Zgk)]) [(12,[0,0,0,0,0,40564857911824187691483439325175,0,0,0,0,0,0]),(15,[0,0,0,0,0,40564857920696530033082542350327,0,0,0,0,0,0]),(23,[0,0,0,0,0,72894980154228623808952154867392503,0,0,0,0,0,0])] 40564857911823646133628248023031 (Za ZcV (Za ZdO (Za ZR (Za Zfi (Za Zez (Za ZbN (Za ZdR (Za Zeq Zb)))))))) Tryz.func148 rfl rfl rfl ?_
 simp (maxSteps:=1000000) only [↓Zo,Ze,Zd,Zn,gSt,gS0,Ya,Yb,↓reduceIte,reduceCtorEq,Yc,Yd,Ye,Yf,Yg,Yj,Yk,Yl,Ym,Yn,ZcU,ZdN,ZQ,Zfh,Zey,ZbM,ZdQ,Zak,gE1,gE2,gE3,ZM,Zs,ZF,Zr,ZN,Zz,ZL,Zt,Zm,ZG,ZE,ZC,h3,h5,Tryz.ntmps148,Tryz.results148,gTT]
 have hs:st=3:=by simpa using h3
 refine ⟨⟨hl,hg⟩,fun h=>?_,fun h=>⟨fun h2=>?_,fun h2=>?_⟩⟩
 ·have e:skE ⟨di,st,q,s0,⟨c,⟨n,d,a,p,f⟩,l⟩,⟨gc,gq,gw,gr,gl⟩,wr,pl,mi⟩ i=1:=ZfX (show smP _=false from h)
  obtain ⟨e1,e2,e3,e4⟩:=Zbh (x:=⟨di,st,q,s0,⟨c,⟨n,d,a,p,f⟩,l⟩,⟨gc,gq,gw,gr,gl⟩,wr,pl,mi⟩) (i:=i) (by rw [e]; decide)
  simp [e,e1,e2,e3,e4,sm0,rs0,rg0,Zy]
 ·have hP:smP ⟨di,st,q,s0,⟨c,⟨n,d,a,p,f⟩,l⟩,⟨gc,gq,gw,gr,gl⟩,wr,pl,mi⟩=true:=by simpa using h
  have e:skE ⟨di,st,q,s0,⟨c,⟨n,d,a,p,f⟩,l⟩,⟨gc,gq,gw,gr,gl⟩,wr,pl,mi⟩ i=2:=ZfY hP h2
  obtain ⟨e1,e2,e3,e4⟩:=Zbh (x:=⟨di,st,q,s0,⟨c,⟨n,d,a,p,f⟩,l⟩,⟨gc,gq,gw,gr,gl⟩,wr,pl,mi⟩) (i:=i) (by rw [e]; decide)
  simp [e,e1,e2,e3,e4,sm0,rs0,rg0,Zy]
 have hP:smP ⟨di,st,q,s0,⟨c,⟨n,d,a,p,f⟩,l⟩,⟨gc,gq,gw,gr,gl⟩,wr,pl,mi⟩=true:=by simpa using h
 have hgo:=Zih hP h2
 have hv:smV ⟨di,st,q,s0,⟨c,⟨n,d,a,p,f⟩,l⟩,⟨gc,gq,gw,gr,gl⟩,wr,pl,mi⟩=true∧di=1:=by unfold smP at hP; simpa using hP
 have hb:=Zaa (Zac hv.1).1
 simp only at hb hgo
 have hi:0≤i∧i≤65536:=by simp only [Bool.or_eq_false_iff,decide_eq_false_iff_not] at h2; omega
 have hN:smN ⟨di,st,q,s0,⟨c,⟨n,d,a,p,f⟩,l⟩,⟨gc,gq,gw,gr,gl⟩,wr,pl,mi⟩=waN ⟨c,⟨n,d,a,p,f⟩,l⟩:=by unfold smN; rw [if_neg (by rw [hv.1]; decide),if_neg (by show ¬ di=2; omega)]
 have hw:=ZcK hb.2.2.2.1 hl
 have hma:maN ⟨n,d,a,p,f⟩ (smN ⟨di,st,q,s0,⟨c,⟨n,d,a,p,f⟩,l⟩,⟨gc,gq,gw,gr,gl⟩,wr,pl,mi⟩)=((mkN ⟨n,d,a,p,f⟩ (waN ⟨c,⟨n,d,a,p,f⟩,l⟩):Nat):Int):=by rw [hN]; exact ZlQ (ZD hb.2.2.2.1).1 hw.2
 have hK:(if i < maN ⟨n,d,a,p,f⟩ (smN ⟨di,st,q,s0,⟨c,⟨n,d,a,p,f⟩,l⟩,⟨gc,gq,gw,gr,gl⟩,wr,pl,mi⟩) then i else maN ⟨n,d,a,p,f⟩ (smN ⟨di,st,q,s0,⟨c,⟨n,d,a,p,f⟩,l⟩,⟨gc,gq,gw,gr,gl⟩,wr,pl,mi⟩))=skK ⟨di,st,q,s0,⟨c,⟨n,d,a,p,f⟩,l⟩,⟨gc,gq,gw,gr,gl⟩,wr,pl,mi⟩ i:=by
  rw [hma]
  show _=min ((mkN ⟨n,d,a,p,f⟩ (waN ⟨c,⟨n,d,a,p,f⟩,l⟩):Nat):Int) i
  split <;> omega
 have hKi:=Zg0 (x:=⟨di,st,q,s0,⟨c,⟨n,d,a,p,f⟩,l⟩,⟨gc,gq,gw,gr,gl⟩,wr,pl,mi⟩) hi.1
 obtain ⟨⟨k1,k2⟩,k3,k4,k5⟩:=ZW (ZD hb.2.2.2.1).2 hl
 simp only at k1 k2 k3
 have hcc:(c.toNat:Int)=c:=by omega
 have hii:(i.toNat:Int)=i:=by omega
 have hmi:i*c=((i.toNat*c.toNat:Nat):Int):=by rw [Int.natCast_mul,hcc,hii]
 have hib:=Nat.mul_le_mul (show i.toNat≤65536 by omega) (show c.toNat≤8 by omega)
 refine ⟨by kernel_rfl,⟨hl,hg⟩,hl,fun c6=>?_,fun c6=>⟨?_,by kernel_rfl,?_,?_⟩⟩
 ·rw [hK] at c6 ⊢
  have h6:tkE ⟨c,⟨n,d,a,p,f⟩,l⟩ (skK ⟨di,st,q,s0,⟨c,⟨n,d,a,p,f⟩,l⟩,⟨gc,gq,gw,gr,gl⟩,wr,pl,mi⟩ i)≠0:=by simpa using c6
  have e:skE ⟨di,st,q,s0,⟨c,⟨n,d,a,p,f⟩,l⟩,⟨gc,gq,gw,gr,gl⟩,wr,pl,mi⟩ i=tkE ⟨c,⟨n,d,a,p,f⟩,l⟩ (skK ⟨di,st,q,s0,⟨c,⟨n,d,a,p,f⟩,l⟩,⟨gc,gq,gw,gr,gl⟩,wr,pl,mi⟩ i):=by rw [hgo,if_pos hs]
  have h7:skE ⟨di,st,q,s0,⟨c,⟨n,d,a,p,f⟩,l⟩,⟨gc,gq,gw,gr,gl⟩,wr,pl,mi⟩ i≠0:=by rw [e]; exact h6
  obtain ⟨e1,e2,e3,e4⟩:=Zbh (x:=⟨di,st,q,s0,⟨c,⟨n,d,a,p,f⟩,l⟩,⟨gc,gq,gw,gr,gl⟩,wr,pl,mi⟩) (i:=i) h7
  rw [← e]
  simp [e1,e2,e3,e4,sm0,rs0,rg0,Zy]
 all_goals
  rw [hK] at c6 ⊢
  have ht:tkE ⟨c,⟨n,d,a,p,f⟩,l⟩ (skK ⟨di,st,q,s0,⟨c,⟨n,d,a,p,f⟩,l⟩,⟨gc,gq,gw,gr,gl⟩,wr,pl,mi⟩ i)=0:=by simpa using c6
  have e:skE ⟨di,st,q,s0,⟨c,⟨n,d,a,p,f⟩,l⟩,⟨gc,gq,gw,gr,gl⟩,wr,pl,mi⟩ i=0:=by rw [hgo,if_pos hs]; exact ht
  have eM:skM ⟨di,st,q,s0,⟨c,⟨n,d,a,p,f⟩,l⟩,⟨gc,gq,gw,gr,gl⟩,wr,pl,mi⟩ i=skK ⟨di,st,q,s0,⟨c,⟨n,d,a,p,f⟩,l⟩,⟨gc,gq,gw,gr,gl⟩,wr,pl,mi⟩ i:=if_pos hs
  have eX:skX ⟨di,st,q,s0,⟨c,⟨n,d,a,p,f⟩,l⟩,⟨gc,gq,gw,gr,gl⟩,wr,pl,mi⟩ i=i - skK ⟨di,st,q,s0,⟨c,⟨n,d,a,p,f⟩,l⟩,⟨gc,gq,gw,gr,gl⟩,wr,pl,mi⟩ i:=if_pos ⟨e,hs⟩
  have eS:skS ⟨di,st,q,s0,⟨c,⟨n,d,a,p,f⟩,l⟩,⟨gc,gq,gw,gr,gl⟩,wr,pl,mi⟩ i=st:=if_neg (by show ¬ (st=5∧_); omega)
  have eC:tkC ⟨c,⟨n,d,a,p,f⟩,l⟩ (skK ⟨di,st,q,s0,⟨c,⟨n,d,a,p,f⟩,l⟩,⟨gc,gq,gw,gr,gl⟩,wr,pl,mi⟩ i)=c:=if_pos ht
  have eO:tkO ⟨c,⟨n,d,a,p,f⟩,l⟩ (skK ⟨di,st,q,s0,⟨c,⟨n,d,a,p,f⟩,l⟩,⟨gc,gq,gw,gr,gl⟩,wr,pl,mi⟩ i)=Zbo ⟨c,⟨n,d,a,p,f⟩,l⟩ (skK ⟨di,st,q,s0,⟨c,⟨n,d,a,p,f⟩,l⟩,⟨gc,gq,gw,gr,gl⟩,wr,pl,mi⟩ i).toNat:=if_pos ht
  have eT:tkR ⟨c,⟨n,d,a,p,f⟩,l⟩ (skK ⟨di,st,q,s0,⟨c,⟨n,d,a,p,f⟩,l⟩,⟨gc,gq,gw,gr,gl⟩,wr,pl,mi⟩ i)=poR ⟨c,⟨n,d,a,p,f⟩,l⟩ (skK ⟨di,st,q,s0,⟨c,⟨n,d,a,p,f⟩,l⟩,⟨gc,gq,gw,gr,gl⟩,wr,pl,mi⟩ i):=if_pos ht
  have eR:skR ⟨di,st,q,s0,⟨c,⟨n,d,a,p,f⟩,l⟩,⟨gc,gq,gw,gr,gl⟩,wr,pl,mi⟩ i=⟨di,st,q,s0,poR ⟨c,⟨n,d,a,p,f⟩,l⟩ (skK ⟨di,st,q,s0,⟨c,⟨n,d,a,p,f⟩,l⟩,⟨gc,gq,gw,gr,gl⟩,wr,pl,mi⟩ i),⟨gc,gq,gw,gr,gl⟩,wr,IntKind.i64.wrap (pl+i),IntKind.i64.wrap (mi+(i - skK ⟨di,st,q,s0,⟨c,⟨n,d,a,p,f⟩,l⟩,⟨gc,gq,gw,gr,gl⟩,wr,pl,mi⟩ i))⟩:=by
   unfold skR
   rw [if_pos e,if_pos (Or.inl hs),eM,eX,eS]
  have eC2:skC ⟨di,st,q,s0,⟨c,⟨n,d,a,p,f⟩,l⟩,⟨gc,gq,gw,gr,gl⟩,wr,pl,mi⟩ i=c:=if_pos e
  have eO2:skO ⟨di,st,q,s0,⟨c,⟨n,d,a,p,f⟩,l⟩,⟨gc,gq,gw,gr,gl⟩,wr,pl,mi⟩ i=Zbo ⟨c,⟨n,d,a,p,f⟩,l⟩ (skK ⟨di,st,q,s0,⟨c,⟨n,d,a,p,f⟩,l⟩,⟨gc,gq,gw,gr,gl⟩,wr,pl,mi⟩ i).toNat++List.replicate ((i.toNat - (skK ⟨di,st,q,s0,⟨c,⟨n,d,a,p,f⟩,l⟩,⟨gc,gq,gw,gr,gl⟩,wr,pl,mi⟩ i).toNat)*c.toNat) 0:=by
   unfold skO
   rw [if_pos e,eM]
  have hol:(Zbo ⟨c,⟨n,d,a,p,f⟩,l⟩ (skK ⟨di,st,q,s0,⟨c,⟨n,d,a,p,f⟩,l⟩,⟨gc,gq,gw,gr,gl⟩,wr,pl,mi⟩ i).toNat).length=(skK ⟨di,st,q,s0,⟨c,⟨n,d,a,p,f⟩,l⟩,⟨gc,gq,gw,gr,gl⟩,wr,pl,mi⟩ i).toNat*c.toNat:=Zbp _ _
  have hle:=Nat.mul_le_mul_right c.toNat (show (skK ⟨di,st,q,s0,⟨c,⟨n,d,a,p,f⟩,l⟩,⟨gc,gq,gw,gr,gl⟩,wr,pl,mi⟩ i).toNat≤i.toNat by omega)
  have hbl:ZaR c (Zbo ⟨c,⟨n,d,a,p,f⟩,l⟩ (skK ⟨di,st,q,s0,⟨c,⟨n,d,a,p,f⟩,l⟩,⟨gc,gq,gw,gr,gl⟩,wr,pl,mi⟩ i).toNat)=true:=Zbg ⟨k1,k2⟩ hol (by omega) (ZiD (ZD hb.2.2.2.1).1 k5 _ (by omega))
  have hdv:(Zbo ⟨c,⟨n,d,a,p,f⟩,l⟩ (skK ⟨di,st,q,s0,⟨c,⟨n,d,a,p,f⟩,l⟩,⟨gc,gq,gw,gr,gl⟩,wr,pl,mi⟩ i).toNat).length / c.toNat=(skK ⟨di,st,q,s0,⟨c,⟨n,d,a,p,f⟩,l⟩,⟨gc,gq,gw,gr,gl⟩,wr,pl,mi⟩ i).toNat:=by rw [hol,Nat.mul_div_cancel _ (by omega)]
  have hsil:=(Zm0 (c:=c) (n:=i - skK ⟨di,st,q,s0,⟨c,⟨n,d,a,p,f⟩,l⟩,⟨gc,gq,gw,gr,gl⟩,wr,pl,mi⟩ i) ⟨k1,k2⟩ (by omega)).2.2
  have hKc:(((skK ⟨di,st,q,s0,⟨c,⟨n,d,a,p,f⟩,l⟩,⟨gc,gq,gw,gr,gl⟩,wr,pl,mi⟩ i).toNat:Nat):Int)=skK ⟨di,st,q,s0,⟨c,⟨n,d,a,p,f⟩,l⟩,⟨gc,gq,gw,gr,gl⟩,wr,pl,mi⟩ i:=by omega
  have hin:(i - skK ⟨di,st,q,s0,⟨c,⟨n,d,a,p,f⟩,l⟩,⟨gc,gq,gw,gr,gl⟩,wr,pl,mi⟩ i).toNat=i.toNat - (skK ⟨di,st,q,s0,⟨c,⟨n,d,a,p,f⟩,l⟩,⟨gc,gq,gw,gr,gl⟩,wr,pl,mi⟩ i).toNat:=by omega
  have hsub:(i.toNat - (skK ⟨di,st,q,s0,⟨c,⟨n,d,a,p,f⟩,l⟩,⟨gc,gq,gw,gr,gl⟩,wr,pl,mi⟩ i).toNat)*c.toNat=i.toNat*c.toNat - (skK ⟨di,st,q,s0,⟨c,⟨n,d,a,p,f⟩,l⟩,⟨gc,gq,gw,gr,gl⟩,wr,pl,mi⟩ i).toNat*c.toNat:=Nat.sub_mul ..
 ·rw [eO,hol]; omega
 ·rw [eC,eO,if_pos hbl,hdv,hKc,IntWalk.i64_in (i - skK ⟨di,st,q,s0,⟨c,⟨n,d,a,p,f⟩,l⟩,⟨gc,gq,gw,gr,gl⟩,wr,pl,mi⟩ i) (by omega),hsil,List.length_replicate,hol,hin,hsub]; omega
 ·rw [eC,eO,if_pos hbl,hdv,hKc,IntWalk.i64_in (i - skK ⟨di,st,q,s0,⟨c,⟨n,d,a,p,f⟩,l⟩,⟨gc,gq,gw,gr,gl⟩,wr,pl,mi⟩ i) (by omega),hsil,hin,eT,e,eC2,eO2,eR,eX]
theorem Zqy (di st q s0 c n d a p f:Int) (l:List Int) (gc gq gw gr:Int) (gl:List Int) (wr pl mi:Int) (i:Int) (hl:l.length≤1000000) (hg:gl.length≤1000000) (h3:(st==3)=false) (h5:(st==5)=true):Spec Tryz.prog 0 148 [.agg [.d (.int .i64 di),.d (.int .i64 st),.d (.int .i64 q),.d (.int .i64 s0),.d (.int .i64 c),.d (.int .i64 n),.d (.int .i64 d),.d (.int .i64 a),.d (.int .i64 p),.d (.int .i64 f),.d (.list (LI .i32 l)),.d (.int .i64 gc),.d (.int .i64 gq),.d (.int .i64 gw),.d (.int .i64 gr),.d (.list (LI .i32 gl)),.d (.int .i64 wr),.d (.int .i64 pl),.d (.int .i64 mi)],vI .i64 i] [] [] (.tup [.agg [.int .i64 (skC ⟨di,st,q,s0,⟨c,⟨n,d,a,p,f⟩,l⟩,⟨gc,gq,gw,gr,gl⟩,wr,pl,mi⟩ i),.list (LI .i32 (skO ⟨di,st,q,s0,⟨c,⟨n,d,a,p,f⟩,l⟩,⟨gc,gq,gw,gr,gl⟩,wr,pl,mi⟩ i))],.int .i64 (skX ⟨di,st,q,s0,⟨c,⟨n,d,a,p,f⟩,l⟩,⟨gc,gq,gw,gr,gl⟩,wr,pl,mi⟩ i),.agg (smD (skR ⟨di,st,q,s0,⟨c,⟨n,d,a,p,f⟩,l⟩,⟨gc,gq,gw,gr,gl⟩,wr,pl,mi⟩ i)),.int .i64 (skE ⟨di,st,q,s0,⟨c,⟨n,d,a,p,f⟩,l⟩,⟨gc,gq,gw,gr,gl⟩,wr,pl,mi⟩ i)]) [] []:=by
 refine sE (md:=fun _=>0) (L:=[(206,Zb9),(99,ZcR),(208,ZZ),(101,ZeJ),(209,Zcx),(20,ZbY),(12,ZbS),(18,Zgk)]) [(12,[0,0,0,0,0,40564857911824187691483439325175,0,0,0,0,0,0]),(15,[0,0,0,0,0,40564857920696530033082542350327,0,0,0,0,0,0]),(23,[0,0,0,0,0,72894980154228623808952154867392503,0,0,0,0,0,0])] 40564857911823646133628248023031 (Za ZcV (Za ZdO (Za ZR (Za Zfi (Za Zez (Za ZbN (Za ZdR (Za Zeq Zb)))))))) Tryz.func148 rfl rfl rfl ?_
 simp (maxSteps:=1000000) only [↓Zo,Ze,Zd,Zn,gSt,gS0,Ya,Yb,↓reduceIte,reduceCtorEq,Yc,Yd,Ye,Yf,Yg,Yj,Yk,Yl,Ym,Yn,ZcU,ZdN,ZQ,Zfh,Zey,ZbM,ZdQ,Zak,gE1,gE2,gE3,ZM,Zs,ZF,Zr,ZN,Zz,ZL,Zt,Zm,ZG,ZE,ZC,h3,h5,Tryz.ntmps148,Tryz.results148,gTT]
 have hs:st=5:=by simpa using h5
 refine ⟨⟨hl,hg⟩,fun h=>?_,fun h=>⟨fun h2=>?_,fun h2=>?_⟩⟩
 ·have e:skE ⟨di,st,q,s0,⟨c,⟨n,d,a,p,f⟩,l⟩,⟨gc,gq,gw,gr,gl⟩,wr,pl,mi⟩ i=1:=ZfX (show smP _=false from h)
  obtain ⟨e1,e2,e3,e4⟩:=Zbh (x:=⟨di,st,q,s0,⟨c,⟨n,d,a,p,f⟩,l⟩,⟨gc,gq,gw,gr,gl⟩,wr,pl,mi⟩) (i:=i) (by rw [e]; decide)
  simp [e,e1,e2,e3,e4,sm0,rs0,rg0,Zy]
 ·have hP:smP ⟨di,st,q,s0,⟨c,⟨n,d,a,p,f⟩,l⟩,⟨gc,gq,gw,gr,gl⟩,wr,pl,mi⟩=true:=by simpa using h
  have e:skE ⟨di,st,q,s0,⟨c,⟨n,d,a,p,f⟩,l⟩,⟨gc,gq,gw,gr,gl⟩,wr,pl,mi⟩ i=2:=ZfY hP h2
  obtain ⟨e1,e2,e3,e4⟩:=Zbh (x:=⟨di,st,q,s0,⟨c,⟨n,d,a,p,f⟩,l⟩,⟨gc,gq,gw,gr,gl⟩,wr,pl,mi⟩) (i:=i) (by rw [e]; decide)
  simp [e,e1,e2,e3,e4,sm0,rs0,rg0,Zy]
 have hP:smP ⟨di,st,q,s0,⟨c,⟨n,d,a,p,f⟩,l⟩,⟨gc,gq,gw,gr,gl⟩,wr,pl,mi⟩=true:=by simpa using h
 have hgo:=Zih hP h2
 have hv:smV ⟨di,st,q,s0,⟨c,⟨n,d,a,p,f⟩,l⟩,⟨gc,gq,gw,gr,gl⟩,wr,pl,mi⟩=true∧di=1:=by unfold smP at hP; simpa using hP
 have hb:=Zaa (Zac hv.1).1
 simp only at hb hgo
 have hi:0≤i∧i≤65536:=by simp only [Bool.or_eq_false_iff,decide_eq_false_iff_not] at h2; omega
 have hN:smN ⟨di,st,q,s0,⟨c,⟨n,d,a,p,f⟩,l⟩,⟨gc,gq,gw,gr,gl⟩,wr,pl,mi⟩=waN ⟨c,⟨n,d,a,p,f⟩,l⟩:=by unfold smN; rw [if_neg (by rw [hv.1]; decide),if_neg (by show ¬ di=2; omega)]
 have hw:=ZcK hb.2.2.2.1 hl
 have hma:maN ⟨n,d,a,p,f⟩ (smN ⟨di,st,q,s0,⟨c,⟨n,d,a,p,f⟩,l⟩,⟨gc,gq,gw,gr,gl⟩,wr,pl,mi⟩)=((mkN ⟨n,d,a,p,f⟩ (waN ⟨c,⟨n,d,a,p,f⟩,l⟩):Nat):Int):=by rw [hN]; exact ZlQ (ZD hb.2.2.2.1).1 hw.2
 have hK:(if i < maN ⟨n,d,a,p,f⟩ (smN ⟨di,st,q,s0,⟨c,⟨n,d,a,p,f⟩,l⟩,⟨gc,gq,gw,gr,gl⟩,wr,pl,mi⟩) then i else maN ⟨n,d,a,p,f⟩ (smN ⟨di,st,q,s0,⟨c,⟨n,d,a,p,f⟩,l⟩,⟨gc,gq,gw,gr,gl⟩,wr,pl,mi⟩))=skK ⟨di,st,q,s0,⟨c,⟨n,d,a,p,f⟩,l⟩,⟨gc,gq,gw,gr,gl⟩,wr,pl,mi⟩ i:=by
  rw [hma]
  show _=min ((mkN ⟨n,d,a,p,f⟩ (waN ⟨c,⟨n,d,a,p,f⟩,l⟩):Nat):Int) i
  split <;> omega
 have hKi:=Zg0 (x:=⟨di,st,q,s0,⟨c,⟨n,d,a,p,f⟩,l⟩,⟨gc,gq,gw,gr,gl⟩,wr,pl,mi⟩) hi.1
 obtain ⟨⟨k1,k2⟩,k3,k4,k5⟩:=ZW (ZD hb.2.2.2.1).2 hl
 simp only at k1 k2 k3
 have hcc:(c.toNat:Int)=c:=by omega
 have hii:(i.toNat:Int)=i:=by omega
 have hmi:i*c=((i.toNat*c.toNat:Nat):Int):=by rw [Int.natCast_mul,hcc,hii]
 have hib:=Nat.mul_le_mul (show i.toNat≤65536 by omega) (show c.toNat≤8 by omega)
 have hct:=Zj5 hb.2.2.2.1 hl hi.1
 refine ⟨hl,fun c6=>?_,fun c6=>?_⟩
 ·have h6:fiE ⟨c,⟨n,d,a,p,f⟩,l⟩ i≠0:=by simpa using c6
  have e:skE ⟨di,st,q,s0,⟨c,⟨n,d,a,p,f⟩,l⟩,⟨gc,gq,gw,gr,gl⟩,wr,pl,mi⟩ i=fiE ⟨c,⟨n,d,a,p,f⟩,l⟩ i:=by rw [hgo,if_neg (by omega),if_pos hs]
  have h7:skE ⟨di,st,q,s0,⟨c,⟨n,d,a,p,f⟩,l⟩,⟨gc,gq,gw,gr,gl⟩,wr,pl,mi⟩ i≠0:=by rw [e]; exact h6
  obtain ⟨e1,e2,e3,e4⟩:=Zbh (x:=⟨di,st,q,s0,⟨c,⟨n,d,a,p,f⟩,l⟩,⟨gc,gq,gw,gr,gl⟩,wr,pl,mi⟩) (i:=i) h7
  rw [← e]
  simp [e1,e2,e3,e4,sm0,rs0,rg0,Zy]
 have hs3:¬ st=3:=by omega
 have hf:fiE ⟨c,⟨n,d,a,p,f⟩,l⟩ i=0:=by simpa using c6
 have e:skE ⟨di,st,q,s0,⟨c,⟨n,d,a,p,f⟩,l⟩,⟨gc,gq,gw,gr,gl⟩,wr,pl,mi⟩ i=0:=by rw [hgo,if_neg hs3,if_pos hs]; exact hf
 have eM:skM ⟨di,st,q,s0,⟨c,⟨n,d,a,p,f⟩,l⟩,⟨gc,gq,gw,gr,gl⟩,wr,pl,mi⟩ i=cnt ⟨c,⟨n,d,a,p,f⟩,l⟩ i:=by unfold skM; rw [if_neg hs3,if_pos hs]
 have eX:skX ⟨di,st,q,s0,⟨c,⟨n,d,a,p,f⟩,l⟩,⟨gc,gq,gw,gr,gl⟩,wr,pl,mi⟩ i=0:=by unfold skX; rw [if_neg (fun h=>hs3 h.2)]
 have eC:fiC ⟨c,⟨n,d,a,p,f⟩,l⟩ i=c:=if_pos hf
 have eO:fiO ⟨c,⟨n,d,a,p,f⟩,l⟩ i=Zbo ⟨c,⟨n,d,a,p,f⟩,l⟩ (cnt ⟨c,⟨n,d,a,p,f⟩,l⟩ i).toNat:=if_pos hf
 have eT:fiR ⟨c,⟨n,d,a,p,f⟩,l⟩ i=poR ⟨c,⟨n,d,a,p,f⟩,l⟩ (cnt ⟨c,⟨n,d,a,p,f⟩,l⟩ i):=if_pos hf
 have eS:skS ⟨di,st,q,s0,⟨c,⟨n,d,a,p,f⟩,l⟩,⟨gc,gq,gw,gr,gl⟩,wr,pl,mi⟩ i=if (poR ⟨c,⟨n,d,a,p,f⟩,l⟩ (cnt ⟨c,⟨n,d,a,p,f⟩,l⟩ i)).l.length=0 then 6 else st:=by
  unfold skS
  rw [eM]
  simp [hs]
 have eR:skR ⟨di,st,q,s0,⟨c,⟨n,d,a,p,f⟩,l⟩,⟨gc,gq,gw,gr,gl⟩,wr,pl,mi⟩ i=⟨di,skS ⟨di,st,q,s0,⟨c,⟨n,d,a,p,f⟩,l⟩,⟨gc,gq,gw,gr,gl⟩,wr,pl,mi⟩ i,q,s0,poR ⟨c,⟨n,d,a,p,f⟩,l⟩ (cnt ⟨c,⟨n,d,a,p,f⟩,l⟩ i),⟨gc,gq,gw,gr,gl⟩,wr,IntKind.i64.wrap (pl+i),IntKind.i64.wrap (mi+0)⟩:=by
  unfold skR
  rw [if_pos e,if_pos (Or.inr hs),eM,eX]
 have eC2:skC ⟨di,st,q,s0,⟨c,⟨n,d,a,p,f⟩,l⟩,⟨gc,gq,gw,gr,gl⟩,wr,pl,mi⟩ i=c:=if_pos e
 have eO2:skO ⟨di,st,q,s0,⟨c,⟨n,d,a,p,f⟩,l⟩,⟨gc,gq,gw,gr,gl⟩,wr,pl,mi⟩ i=Zbo ⟨c,⟨n,d,a,p,f⟩,l⟩ (cnt ⟨c,⟨n,d,a,p,f⟩,l⟩ i).toNat++List.replicate ((i.toNat - (cnt ⟨c,⟨n,d,a,p,f⟩,l⟩ i).toNat)*c.toNat) 0:=by
  unfold skO
  rw [if_pos e,eM]
 have hol:(Zbo ⟨c,⟨n,d,a,p,f⟩,l⟩ (cnt ⟨c,⟨n,d,a,p,f⟩,l⟩ i).toNat).length=(cnt ⟨c,⟨n,d,a,p,f⟩,l⟩ i).toNat*c.toNat:=Zbp _ _
 have hle:=Nat.mul_le_mul_right c.toNat (show (cnt ⟨c,⟨n,d,a,p,f⟩,l⟩ i).toNat≤i.toNat by omega)
 have hbl:ZaR c (Zbo ⟨c,⟨n,d,a,p,f⟩,l⟩ (cnt ⟨c,⟨n,d,a,p,f⟩,l⟩ i).toNat)=true:=Zbg ⟨k1,k2⟩ hol (by omega) (ZiD (ZD hb.2.2.2.1).1 k5 _ (by omega))
 have hdv:(Zbo ⟨c,⟨n,d,a,p,f⟩,l⟩ (cnt ⟨c,⟨n,d,a,p,f⟩,l⟩ i).toNat).length / c.toNat=(cnt ⟨c,⟨n,d,a,p,f⟩,l⟩ i).toNat:=by rw [hol,Nat.mul_div_cancel _ (by omega)]
 have hsil:=(Zm0 (c:=c) (n:=i - cnt ⟨c,⟨n,d,a,p,f⟩,l⟩ i) ⟨k1,k2⟩ (by omega)).2.2
 have hKc:(((cnt ⟨c,⟨n,d,a,p,f⟩,l⟩ i).toNat:Nat):Int)=cnt ⟨c,⟨n,d,a,p,f⟩,l⟩ i:=by omega
 have hin:(i - cnt ⟨c,⟨n,d,a,p,f⟩,l⟩ i).toNat=i.toNat - (cnt ⟨c,⟨n,d,a,p,f⟩,l⟩ i).toNat:=by omega
 have hsub:(i.toNat - (cnt ⟨c,⟨n,d,a,p,f⟩,l⟩ i).toNat)*c.toNat=i.toNat*c.toNat - (cnt ⟨c,⟨n,d,a,p,f⟩,l⟩ i).toNat*c.toNat:=Nat.sub_mul ..
 refine ⟨fun c7=>⟨?_,by kernel_rfl,?_,?_⟩,fun c7=>⟨?_,by kernel_rfl,?_,?_⟩⟩
 ·rw [eO,hol]; omega
 ·rw [eC,eO,if_pos hbl,hdv,hKc,IntWalk.i64_in (i - cnt ⟨c,⟨n,d,a,p,f⟩,l⟩ i) (by omega),hsil,List.length_replicate,hol,hin,hsub]; omega
 ·rw [eT] at c7
  have c8:(poR ⟨c,⟨n,d,a,p,f⟩,l⟩ (cnt ⟨c,⟨n,d,a,p,f⟩,l⟩ i)).l.length=0:=by simpa using c7
  rw [eC,eO,if_pos hbl,hdv,hKc,IntWalk.i64_in (i - cnt ⟨c,⟨n,d,a,p,f⟩,l⟩ i) (by omega),hsil,hin,eT,e,eC2,eO2,eR,eX,eS,if_pos c8]
 ·rw [eO,hol]; omega
 ·rw [eC,eO,if_pos hbl,hdv,hKc,IntWalk.i64_in (i - cnt ⟨c,⟨n,d,a,p,f⟩,l⟩ i) (by omega),hsil,List.length_replicate,hol,hin,hsub]; omega
 ·rw [eT] at c7
  have c8:¬ (poR ⟨c,⟨n,d,a,p,f⟩,l⟩ (cnt ⟨c,⟨n,d,a,p,f⟩,l⟩ i)).l.length=0:=by
   intro h8
   rw [h8] at c7
   exact absurd c7 (by decide)
  rw [eC,eO,if_pos hbl,hdv,hKc,IntWalk.i64_in (i - cnt ⟨c,⟨n,d,a,p,f⟩,l⟩ i) (by omega),hsil,hin,eT,e,eC2,eO2,eR,eX,eS,if_neg c8]
theorem Zqw (di st q s0 c n d a p f:Int) (l:List Int) (gc gq gw gr:Int) (gl:List Int) (wr pl mi:Int) (i:Int) (hl:l.length≤1000000) (hg:gl.length≤1000000) (h3:(st==3)=false) (h5:(st==5)=false):Spec Tryz.prog 0 148 [.agg [.d (.int .i64 di),.d (.int .i64 st),.d (.int .i64 q),.d (.int .i64 s0),.d (.int .i64 c),.d (.int .i64 n),.d (.int .i64 d),.d (.int .i64 a),.d (.int .i64 p),.d (.int .i64 f),.d (.list (LI .i32 l)),.d (.int .i64 gc),.d (.int .i64 gq),.d (.int .i64 gw),.d (.int .i64 gr),.d (.list (LI .i32 gl)),.d (.int .i64 wr),.d (.int .i64 pl),.d (.int .i64 mi)],vI .i64 i] [] [] (.tup [.agg [.int .i64 (skC ⟨di,st,q,s0,⟨c,⟨n,d,a,p,f⟩,l⟩,⟨gc,gq,gw,gr,gl⟩,wr,pl,mi⟩ i),.list (LI .i32 (skO ⟨di,st,q,s0,⟨c,⟨n,d,a,p,f⟩,l⟩,⟨gc,gq,gw,gr,gl⟩,wr,pl,mi⟩ i))],.int .i64 (skX ⟨di,st,q,s0,⟨c,⟨n,d,a,p,f⟩,l⟩,⟨gc,gq,gw,gr,gl⟩,wr,pl,mi⟩ i),.agg (smD (skR ⟨di,st,q,s0,⟨c,⟨n,d,a,p,f⟩,l⟩,⟨gc,gq,gw,gr,gl⟩,wr,pl,mi⟩ i)),.int .i64 (skE ⟨di,st,q,s0,⟨c,⟨n,d,a,p,f⟩,l⟩,⟨gc,gq,gw,gr,gl⟩,wr,pl,mi⟩ i)]) [] []:=by
 refine sE (md:=fun _=>0) (L:=[(206,Zb9),(99,ZcR),(208,ZZ),(101,ZeJ),(209,Zcx),(20,ZbY),(12,ZbS),(18,Zgk)]) [(12,[0,0,0,0,0,40564857911824187691483439325175,0,0,0,0,0,0]),(15,[0,0,0,0,0,40564857920696530033082542350327,0,0,0,0,0,0]),(23,[0,0,0,0,0,72894980154228623808952154867392503,0,0,0,0,0,0])] 40564857911823646133628248023031 (Za ZcV (Za ZdO (Za ZR (Za Zfi (Za Zez (Za ZbN (Za ZdR (Za Zeq Zb)))))))) Tryz.func148 rfl rfl rfl ?_
 simp (maxSteps:=1000000) only [↓Zo,Ze,Zd,Zn,gSt,gS0,Ya,Yb,↓reduceIte,reduceCtorEq,Yc,Yd,Ye,Yf,Yg,Yj,Yk,Yl,Ym,Yn,ZcU,ZdN,ZQ,Zfh,Zey,ZbM,ZdQ,Zak,gE1,gE2,gE3,ZM,Zs,ZF,Zr,ZN,Zz,ZL,Zt,Zm,ZG,ZE,ZC,h3,h5,Tryz.ntmps148,Tryz.results148,gTT]
 refine ⟨⟨hl,hg⟩,fun h=>?_,fun h=>⟨fun h2=>?_,fun h2=>?_⟩⟩
 ·have e:skE ⟨di,st,q,s0,⟨c,⟨n,d,a,p,f⟩,l⟩,⟨gc,gq,gw,gr,gl⟩,wr,pl,mi⟩ i=1:=ZfX (show smP _=false from h)
  obtain ⟨e1,e2,e3,e4⟩:=Zbh (x:=⟨di,st,q,s0,⟨c,⟨n,d,a,p,f⟩,l⟩,⟨gc,gq,gw,gr,gl⟩,wr,pl,mi⟩) (i:=i) (by rw [e]; decide)
  simp [e,e1,e2,e3,e4,sm0,rs0,rg0,Zy]
 ·have hP:smP ⟨di,st,q,s0,⟨c,⟨n,d,a,p,f⟩,l⟩,⟨gc,gq,gw,gr,gl⟩,wr,pl,mi⟩=true:=by simpa using h
  have e:skE ⟨di,st,q,s0,⟨c,⟨n,d,a,p,f⟩,l⟩,⟨gc,gq,gw,gr,gl⟩,wr,pl,mi⟩ i=2:=ZfY hP h2
  obtain ⟨e1,e2,e3,e4⟩:=Zbh (x:=⟨di,st,q,s0,⟨c,⟨n,d,a,p,f⟩,l⟩,⟨gc,gq,gw,gr,gl⟩,wr,pl,mi⟩) (i:=i) (by rw [e]; decide)
  simp [e,e1,e2,e3,e4,sm0,rs0,rg0,Zy]
 have hP:smP ⟨di,st,q,s0,⟨c,⟨n,d,a,p,f⟩,l⟩,⟨gc,gq,gw,gr,gl⟩,wr,pl,mi⟩=true:=by simpa using h
 have hgo:=Zih hP h2
 have hv:smV ⟨di,st,q,s0,⟨c,⟨n,d,a,p,f⟩,l⟩,⟨gc,gq,gw,gr,gl⟩,wr,pl,mi⟩=true∧di=1:=by unfold smP at hP; simpa using hP
 have hb:=Zaa (Zac hv.1).1
 simp only at hb hgo
 have hi:0≤i∧i≤65536:=by simp only [Bool.or_eq_false_iff,decide_eq_false_iff_not] at h2; omega
 have hN:smN ⟨di,st,q,s0,⟨c,⟨n,d,a,p,f⟩,l⟩,⟨gc,gq,gw,gr,gl⟩,wr,pl,mi⟩=waN ⟨c,⟨n,d,a,p,f⟩,l⟩:=by unfold smN; rw [if_neg (by rw [hv.1]; decide),if_neg (by show ¬ di=2; omega)]
 have hw:=ZcK hb.2.2.2.1 hl
 have hma:maN ⟨n,d,a,p,f⟩ (smN ⟨di,st,q,s0,⟨c,⟨n,d,a,p,f⟩,l⟩,⟨gc,gq,gw,gr,gl⟩,wr,pl,mi⟩)=((mkN ⟨n,d,a,p,f⟩ (waN ⟨c,⟨n,d,a,p,f⟩,l⟩):Nat):Int):=by rw [hN]; exact ZlQ (ZD hb.2.2.2.1).1 hw.2
 have hK:(if i < maN ⟨n,d,a,p,f⟩ (smN ⟨di,st,q,s0,⟨c,⟨n,d,a,p,f⟩,l⟩,⟨gc,gq,gw,gr,gl⟩,wr,pl,mi⟩) then i else maN ⟨n,d,a,p,f⟩ (smN ⟨di,st,q,s0,⟨c,⟨n,d,a,p,f⟩,l⟩,⟨gc,gq,gw,gr,gl⟩,wr,pl,mi⟩))=skK ⟨di,st,q,s0,⟨c,⟨n,d,a,p,f⟩,l⟩,⟨gc,gq,gw,gr,gl⟩,wr,pl,mi⟩ i:=by
  rw [hma]
  show _=min ((mkN ⟨n,d,a,p,f⟩ (waN ⟨c,⟨n,d,a,p,f⟩,l⟩):Nat):Int) i
  split <;> omega
 have hKi:=Zg0 (x:=⟨di,st,q,s0,⟨c,⟨n,d,a,p,f⟩,l⟩,⟨gc,gq,gw,gr,gl⟩,wr,pl,mi⟩) hi.1
 obtain ⟨⟨k1,k2⟩,k3,k4,k5⟩:=ZW (ZD hb.2.2.2.1).2 hl
 simp only at k1 k2 k3
 have hcc:(c.toNat:Int)=c:=by omega
 have hii:(i.toNat:Int)=i:=by omega
 have hmi:i*c=((i.toNat*c.toNat:Nat):Int):=by rw [Int.natCast_mul,hcc,hii]
 have hib:=Nat.mul_le_mul (show i.toNat≤65536 by omega) (show c.toNat≤8 by omega)
 have hs3:¬ st=3:=by simpa using h3
 have hs5:¬ st=5:=by simpa using h5
 have e:skE ⟨di,st,q,s0,⟨c,⟨n,d,a,p,f⟩,l⟩,⟨gc,gq,gw,gr,gl⟩,wr,pl,mi⟩ i=0:=by rw [hgo,if_neg hs3,if_neg hs5]
 obtain ⟨f1,f2,f3⟩:=Zm0 (c:=c) (n:=i) ⟨k1,k2⟩ hi
 have eM:skM ⟨di,st,q,s0,⟨c,⟨n,d,a,p,f⟩,l⟩,⟨gc,gq,gw,gr,gl⟩,wr,pl,mi⟩ i=0:=by unfold skM; rw [if_neg hs3,if_neg hs5]
 have eX:skX ⟨di,st,q,s0,⟨c,⟨n,d,a,p,f⟩,l⟩,⟨gc,gq,gw,gr,gl⟩,wr,pl,mi⟩ i=0:=by unfold skX; rw [if_neg (fun h=>hs3 h.2)]
 have eR:skR ⟨di,st,q,s0,⟨c,⟨n,d,a,p,f⟩,l⟩,⟨gc,gq,gw,gr,gl⟩,wr,pl,mi⟩ i=⟨di,st,q,s0,⟨c,⟨n,d,a,p,f⟩,l⟩,⟨gc,gq,gw,gr,gl⟩,wr,pl,mi⟩:=by unfold skR; rw [if_pos e,if_neg (by simp [hs3,hs5])]
 have eO:skO ⟨di,st,q,s0,⟨c,⟨n,d,a,p,f⟩,l⟩,⟨gc,gq,gw,gr,gl⟩,wr,pl,mi⟩ i=List.replicate (i.toNat*c.toNat) 0:=by unfold skO; rw [if_pos e,eM]; simp [Zbo]
 have eC:skC ⟨di,st,q,s0,⟨c,⟨n,d,a,p,f⟩,l⟩,⟨gc,gq,gw,gr,gl⟩,wr,pl,mi⟩ i=c:=by unfold skC; rw [if_pos e]
 have e0:IntKind.i64.wrap (i - if ZaR c []=true then ((0 / c.toNat:Nat):Int) else 0)=i:=by
  rw [Nat.zero_div]
  split <;> (rw [IntWalk.i64_in _ (by omega)]; omega)
 refine ⟨by kernel_rfl,?_,?_⟩
 ·rw [e0,f3,List.length_replicate]; omega
 ·rw [e0,f3,e,eX,eR,eO,eC]
theorem Zs1 (di st q s0 c n d a p f:Int) (l:List Int) (gc gq gw gr:Int) (gl:List Int) (wr pl mi:Int) (i:Int) (hl:l.length≤1000000) (hg:gl.length≤1000000):Spec Tryz.prog 0 148 [.agg [.d (.int .i64 di),.d (.int .i64 st),.d (.int .i64 q),.d (.int .i64 s0),.d (.int .i64 c),.d (.int .i64 n),.d (.int .i64 d),.d (.int .i64 a),.d (.int .i64 p),.d (.int .i64 f),.d (.list (LI .i32 l)),.d (.int .i64 gc),.d (.int .i64 gq),.d (.int .i64 gw),.d (.int .i64 gr),.d (.list (LI .i32 gl)),.d (.int .i64 wr),.d (.int .i64 pl),.d (.int .i64 mi)],.c (.d (.int .i64 i))] [] [] (.tup [.agg [.int .i64 (skC ⟨di,st,q,s0,⟨c,⟨n,d,a,p,f⟩,l⟩,⟨gc,gq,gw,gr,gl⟩,wr,pl,mi⟩ i),.list (LI .i32 (skO ⟨di,st,q,s0,⟨c,⟨n,d,a,p,f⟩,l⟩,⟨gc,gq,gw,gr,gl⟩,wr,pl,mi⟩ i))],.int .i64 (skX ⟨di,st,q,s0,⟨c,⟨n,d,a,p,f⟩,l⟩,⟨gc,gq,gw,gr,gl⟩,wr,pl,mi⟩ i),.agg (smD (skR ⟨di,st,q,s0,⟨c,⟨n,d,a,p,f⟩,l⟩,⟨gc,gq,gw,gr,gl⟩,wr,pl,mi⟩ i)),.int .i64 (skE ⟨di,st,q,s0,⟨c,⟨n,d,a,p,f⟩,l⟩,⟨gc,gq,gw,gr,gl⟩,wr,pl,mi⟩ i)]) [] []:=by
 cases h3:(st==3) with
 | true=>exact Zqx di st q s0 c n d a p f l gc gq gw gr gl wr pl mi i hl hg h3 (by simp at h3; simp [h3])
 | false =>
  cases h5:(st==5) with
  | true=>exact Zqy di st q s0 c n d a p f l gc gq gw gr gl wr pl mi i hl hg h3 h5
  | false=>exact Zqw di st q s0 c n d a p f l gc gq gw gr gl wr pl mi i hl hg h3 h5
def ZgE:List V→Zf→Zw→Name→Option Ent
 | [.agg [.d (.int .i64 di),.d (.int .i64 st),.d (.int .i64 q),.d (.int .i64 s0),.d (.int .i64 c),.d (.int .i64 n),.d (.int .i64 d),.d (.int .i64 a),.d (.int .i64 p),.d (.int .i64 f),.d (.list q_l),.d (.int .i64 gc),.d (.int .i64 gq),.d (.int .i64 gw),.d (.int .i64 gr),.d (.list q_gl),.d (.int .i64 wr),.d (.int .i64 pl),.d (.int .i64 mi)],.c (.d (.int .i64 i))],[],[],_=>some ⟨(Zc q_l).length≤1000000∧(Zc q_gl).length≤1000000∧q_l=LI .i32 (Zc q_l)∧q_gl=LI .i32 (Zc q_gl),.tup [.agg [.int .i64 (skC ⟨di,st,q,s0,⟨c,⟨n,d,a,p,f⟩,(Zc q_l)⟩,⟨gc,gq,gw,gr,(Zc q_gl)⟩,wr,pl,mi⟩ i),.list (LI .i32 (skO ⟨di,st,q,s0,⟨c,⟨n,d,a,p,f⟩,(Zc q_l)⟩,⟨gc,gq,gw,gr,(Zc q_gl)⟩,wr,pl,mi⟩ i))],.int .i64 (skX ⟨di,st,q,s0,⟨c,⟨n,d,a,p,f⟩,(Zc q_l)⟩,⟨gc,gq,gw,gr,(Zc q_gl)⟩,wr,pl,mi⟩ i),.agg (smD (skR ⟨di,st,q,s0,⟨c,⟨n,d,a,p,f⟩,(Zc q_l)⟩,⟨gc,gq,gw,gr,(Zc q_gl)⟩,wr,pl,mi⟩ i)),.int .i64 (skE ⟨di,st,q,s0,⟨c,⟨n,d,a,p,f⟩,(Zc q_l)⟩,⟨gc,gq,gw,gr,(Zc q_gl)⟩,wr,pl,mi⟩ i)],[],[]⟩
 | _,_,_,_=>none
def ZrF:=And.intro (@ZgE.eq_1) (@ZgE.eq_1)
theorem ZrG:Snd Tryz.prog 148 ZgE:=by
 intro vs b k n e h hn hp
 unfold ZgE at h
 split at h
 ·cases h; obtain ⟨hp0,hp1,hq0,hq1⟩:=hp; obtain ⟨_,rfl⟩:=Zu hq0; obtain ⟨_,rfl⟩:=Zu hq1; simp only [Zi,Zp,Zj,Zq] at hp0 hp1 ⊢; exact (Zs1 _ _ _ _ _ _ _ _ _ _ _ _ _ _ _ _ _ _ _ _ hp0 hp1).lift rfl _
 ·cases h
end Go.Vam
