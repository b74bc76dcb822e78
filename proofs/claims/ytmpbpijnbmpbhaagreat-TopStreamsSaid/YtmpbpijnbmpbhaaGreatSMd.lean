/- A part of the proof. Conditions: none. -/
import Derived.Test.YtmpbpijnbmpbhaaGreatSDq
set_option linter.unusedVariables false
set_option linter.defProp false
set_option linter.unusedSimpArgs false
set_option maxRecDepth 40000
set_option maxHeartbeats 4000000
namespace Go.Vam
open Go.Proofs
open Nat renaming reduceShiftRight→Ya,reduceMod→Yb,reduceEqDiff→Yc,reduceLT→Yd,reduceLeDiff→Ye,reduceAdd→Yf,reduceMul→Yg
open Int renaming reduceLE→Yj,reduceLT→Yk,reduceNeg→Yl,reduceAdd→Ym,reduceToNat→Yn
theorem ZG0 {x:Sm} (h:smV x=true):x.di=1∨x.di=2:=by
 rcases (Zac h).2 with h2 | h2
 ·exact .inl h2.1
 ·exact .inr h2.1
theorem ZGN (x:Rg):noG x=(x.c==0 && x.q==0 && x.w==0 && x.r==0 && x.l==[]):=by
 unfold noG
 cases x.l <;> rfl
theorem ZD3 {k:Int} {y:List Int} (hb:ZaR k y=true) (hy:y.length≤1000000):0≤swN k y∧swN k y≤65536:=by
 obtain ⟨_,_,k4,_⟩:=ZW hb hy
 exact ⟨Int.natCast_nonneg _,Int.ofNat_le.2 k4⟩
theorem ZD2 {x:Sm} {k:Int} {y:List Int} (hl:x.r.l.length≤1000000) (hy:y.length≤1000000) (h:swE x k y=0):smP x=true∧ZaR k y=true∧k=x.r.c∧x.st≤4∧swN k y≤smO x∧feE x.r k y=0:=by
 unfold swE at h
 split at h
 ·cases h
 ·rename_i h1
  split at h
  ·cases h
  ·rename_i h2
   split at h
   ·cases h
   ·rename_i h3
    split at h
    ·cases h
    ·rename_i h4
     simp only [Bool.or_eq_true,Bool.not_eq_true',not_or,Bool.not_eq_false] at h1
     have hk:k=x.r.c:=by simpa using h2
     refine ⟨h1.1,h1.2,hk,by omega,by omega,?_⟩
     have hv:smV x=true∧x.di=1:=by have:=h1.1; unfold smP at this; simpa using this
     have hb:=Zaa (Zac hv.1).1
     have hn:=ZAr hv.1 hl
     obtain ⟨w1,w2,w3⟩:=ZcK hb.2.2.2.1 hl
     obtain ⟨⟨k1,k2⟩,k3,k4,k5⟩:=ZW (ZD hb.2.2.2.1).2 hl
     obtain ⟨_,m3,m4,m5⟩:=ZW h1.2 hy
     have hO:smO x=x.q - smN x:=if_neg (by rw [hv.1]; decide)
     have hN:smN x=waN x.r:=by unfold smN; rw [if_neg (by rw [hv.1]; decide),if_neg (by omega)]
     have hsw:swN k y=((y.length / k.toNat:Nat):Int):=rfl
     have hdv:(x.r.l.length+y.length) / x.r.c.toNat=x.r.l.length / x.r.c.toNat+y.length / x.r.c.toNat:=by
      rw [hk] at m3
      have:x.r.l.length+y.length=(x.r.l.length / x.r.c.toNat+y.length / x.r.c.toNat)*x.r.c.toNat:=by rw [Nat.add_mul]; omega
      rw [this,Nat.mul_div_cancel _ (by omega)]
     unfold feE
     rw [if_neg (by rw [hb.2.2.2.1,h1.2]; decide),if_neg (by simpa using hk),if_neg]
     rw [hdv]
     rw [hk] at hsw h4
     omega
theorem Zk5 (di st q s0 c n d a p f:Int) (l:List Int) (gc gq gw gr:Int) (gl:List Int) (wr pl mi:Int) (hl:l.length≤1000000) (hg:gl.length≤1000000):Spec Tryz.prog 0 145 [.agg [.d (.int .i64 di),.d (.int .i64 st),.d (.int .i64 q),.d (.int .i64 s0),.d (.int .i64 c),.d (.int .i64 n),.d (.int .i64 d),.d (.int .i64 a),.d (.int .i64 p),.d (.int .i64 f),.d (.list (LI .i32 l)),.d (.int .i64 gc),.d (.int .i64 gq),.d (.int .i64 gw),.d (.int .i64 gr),.d (.list (LI .i32 gl)),.d (.int .i64 wr),.d (.int .i64 pl),.d (.int .i64 mi)]] [] [] (vB (smV ⟨di,st,q,s0,⟨c,⟨n,d,a,p,f⟩,l⟩,⟨gc,gq,gw,gr,gl⟩,wr,pl,mi⟩)) [] []:=by
 refine sE (md:=fun _=>0) (L:=[(97,ZaO),(100,ZaB),(205,Zgy),(204,ZaN)]) [(1,[0,0,0,0,0,151131868352893142695751,0,0,0,0,0,151131868352893142681607,0,0,0,0,0,151131868352893141647367,0,0,0,0,0,151131868352893075587079,0,0,0,0,0,151131868352888847728647,0,0,0,0,0,151131868352618264788999,0,0,0,0,0,151131868335850712465415,0,0,0,0,0,151131867226993235853319,0,0,0,0,0,151131796295299104768007,0,0,0,0]),(5,[0,0,0,0,0,301065851262499771383815,0,0,0,0,0,226688579157302859268103,0]),(7,[0,0,0,0,0,633810944134994756586790977543,0,0,0,0,0,632587511205544751861988327431,0,0,0,0,0,565738749084134217017435619335,0,0,0])] 151130715431388535848967 (Za Zbd (Za ZaH (Za Zrw (Za Zbc Zb)))) Tryz.func145 rfl rfl rfl ?_
 simp (maxSteps:=1000000) only [↓Zo,Ze,Zd,Zn,gSt,gS0,Ya,Yb,↓reduceIte,reduceCtorEq,Yc,Yd,Ye,Yf,Yg,Yj,Yk,Yl,Ym,Yn,Zaq,ZV,Zrv,Zbb,gE1,gE2,gE3,ZM,Zs,ZF,Zr,ZN,Zz,ZL,Zt,Zm,ZG,ZE,ZC,Tryz.ntmps145,Tryz.results145,gTT]
 refine ⟨fun _=>hl,fun h=>Ziu fun h1=>?_,fun h=>?_⟩
 ·have h2:=Zaa (Zac h1).1
  simp only at h2
  have ha:(a != 0)=false:=by simp [h2.2.2.2.2.1]
  rw [h2.2.2.2.1,ha] at h
  simp only [Bool.not_true,Bool.or_false,Bool.or_eq_true,decide_eq_true_eq] at h
  omega
 have hB:smB ⟨di,st,q,s0,⟨c,⟨n,d,a,p,f⟩,l⟩,⟨gc,gq,gw,gr,gl⟩,wr,pl,mi⟩=true:=by
  simp only [Bool.or_eq_false_iff,decide_eq_false_iff_not,Bool.not_eq_false',bne_eq_false_iff_eq] at h
  simp only [smB,Bool.and_eq_true,decide_eq_true_eq,beq_iff_eq]
  obtain ⟨⟨⟨⟨⟨⟨⟨⟨⟨⟨h1,h2⟩,h3⟩,h4⟩,h5⟩,h6⟩,h7⟩,h8⟩,h9⟩,h10⟩,h11⟩:=h
  exact ⟨⟨⟨⟨⟨⟨⟨⟨⟨⟨by omega,by omega⟩,by omega⟩,by omega⟩,by omega⟩,by omega⟩,h7⟩,h8⟩,by omega⟩,by omega⟩,by omega⟩
 refine ⟨fun h=>⟨by kernel_rfl,hl,fun _=>by omega,?_⟩,fun h=>⟨fun h2=>⟨hg,?_⟩,fun h2=>?_⟩⟩
 ·have hd:di=1:=by simpa using h
  unfold smV
  rw [hB,if_pos hd,ZGN]
  rfl
 ·have hd:di=2:=by simpa using h2
  have hd1:¬ di=1:=by omega
  unfold smV
  rw [hB,if_neg hd1,if_pos hd]
  rfl
 ·have hd:¬ di=2:=by simpa using h2
  have hd1:¬ di=1:=by simpa using h
  unfold smV
  rw [hB,if_neg hd1,if_neg hd]
  rfl
def ZY:List V→Zf→Zw→Name→Option Ent
 | [.agg [.d (.int .i64 di),.d (.int .i64 st),.d (.int .i64 q),.d (.int .i64 s0),.d (.int .i64 c),.d (.int .i64 n),.d (.int .i64 d),.d (.int .i64 a),.d (.int .i64 p),.d (.int .i64 f),.d (.list q_l),.d (.int .i64 gc),.d (.int .i64 gq),.d (.int .i64 gw),.d (.int .i64 gr),.d (.list q_gl),.d (.int .i64 wr),.d (.int .i64 pl),.d (.int .i64 mi)]],[],[],_=>some ⟨(Zc q_l).length≤1000000∧(Zc q_gl).length≤1000000∧q_l=LI .i32 (Zc q_l)∧q_gl=LI .i32 (Zc q_gl),vB (smV ⟨di,st,q,s0,⟨c,⟨n,d,a,p,f⟩,(Zc q_l)⟩,⟨gc,gq,gw,gr,(Zc q_gl)⟩,wr,pl,mi⟩),[],[]⟩
 | _,_,_,_=>none
def ZO:=And.intro (@ZY.eq_1) (@ZY.eq_1)
theorem ZP:Snd Tryz.prog 145 ZY:=by
 intro vs b k n e h hn hp
 unfold ZY at h
 split at h
 ·cases h; obtain ⟨hp0,hp1,hq0,hq1⟩:=hp; obtain ⟨_,rfl⟩:=Zu hq0; obtain ⟨_,rfl⟩:=Zu hq1; simp only [Zi,Zp,Zj,Zq] at hp0 hp1 ⊢; exact (Zk5 _ _ _ _ _ _ _ _ _ _ _ _ _ _ _ _ _ _ _ hp0 hp1).lift rfl _
 ·cases h
theorem Zqu (di ch n d q s0:Int):Spec Tryz.prog 0 68 [vI .i64 di,vI .i64 ch,.agg [.d (.int .i64 n),.d (.int .i64 d)],vI .i64 q,vI .i64 s0] [] [] (.tup [.agg (smD (snR di ch n d q s0)),.int .i64 (snE di ch n d q s0)]) [] []:=by
 refine sE (md:=fun _=>0) (L:=[(38,Zfg),(144,ZgA),(145,ZY)]) [] 34393300127 (Za Zjo (Za Zry (Za ZP Zb))) Tryz.func68 rfl rfl rfl ?_
 simp (maxSteps:=1000000) only [↓Zo,Ze,Zd,Zn,gSt,gS0,Ya,Yb,↓reduceIte,reduceCtorEq,Yc,Yd,Ye,Yf,Yg,Yj,Yk,Yl,Ym,Yn,Zjn,Zrx,ZO,gE1,gE2,gE3,ZM,Zs,ZF,Zr,ZN,Zz,ZL,Zt,Zm,ZG,ZE,ZC,Tryz.ntmps68,Tryz.results68,gTT]
 have hr:(nwR ch n d).l.length≤1000000:=by
  unfold nwR
  split <;> exact Nat.zero_le _
 have hg:(rnR ch q).l.length≤1000000:=by
  unfold rnR
  split <;> exact Nat.zero_le _
 refine ⟨fun h=>⟨⟨hr,hg⟩,fun h2=>?_,fun h2=>?_⟩,fun h=>⟨hr,fun h2=>?_,fun h2=>?_⟩⟩
 ·have hd:di=2:=by simpa using h
  have e:smV (snS di ch n d q s0)=false:=by unfold snS; rw [if_pos hd]; exact h2
  simp [snR,snE,e,sm0,rs0,rg0,Zy]
 ·have hd:di=2:=by simpa using h
  have e:smV (snS di ch n d q s0)=true:=by unfold snS; rw [if_pos hd]; simpa using h2
  unfold snR snE
  rw [if_pos e,if_pos e]
  unfold snS
  rw [if_pos hd]
 ·have hd:¬ di=2:=by simpa using h
  have e:smV (snS di ch n d q s0)=false:=by unfold snS; rw [if_neg hd]; exact h2
  simp [snR,snE,e,sm0,rs0,rg0,Zy]
 ·have hd:¬ di=2:=by simpa using h
  have e:smV (snS di ch n d q s0)=true:=by unfold snS; rw [if_neg hd]; simpa [rg0] using h2
  unfold snR snE
  rw [if_pos e,if_pos e]
  unfold snS
  rw [if_neg hd]
  rfl
def ZeG:List V→Zf→Zw→Name→Option Ent
 | [.c (.d (.int .i64 di)),.c (.d (.int .i64 ch)),.agg [.d (.int .i64 n),.d (.int .i64 d)],.c (.d (.int .i64 q)),.c (.d (.int .i64 s0))],[],[],_=>some ⟨True,.tup [.agg (smD (snR di ch n d q s0)),.int .i64 (snE di ch n d q s0)],[],[]⟩
 | _,_,_,_=>none
def ZeH:=And.intro (@ZeG.eq_1) (@ZeG.eq_1)
theorem Zor:Snd Tryz.prog 68 ZeG:=by
 intro vs b k n e h hn hp
 unfold ZeG at h
 split at h
 ·cases h; exact (Zqu _ _ _ _ _ _).lift rfl _
 ·cases h
theorem Zk6 (di st q s0 c n d a p f:Int) (l:List Int) (gc gq gw gr:Int) (gl:List Int) (wr pl mi:Int) (hl:l.length≤1000000) (hg:gl.length≤1000000):Spec Tryz.prog 0 208 [.agg [.d (.int .i64 di),.d (.int .i64 st),.d (.int .i64 q),.d (.int .i64 s0),.d (.int .i64 c),.d (.int .i64 n),.d (.int .i64 d),.d (.int .i64 a),.d (.int .i64 p),.d (.int .i64 f),.d (.list (LI .i32 l)),.d (.int .i64 gc),.d (.int .i64 gq),.d (.int .i64 gw),.d (.int .i64 gr),.d (.list (LI .i32 gl)),.d (.int .i64 wr),.d (.int .i64 pl),.d (.int .i64 mi)]] [] [] (vI .i64 (smN ⟨di,st,q,s0,⟨c,⟨n,d,a,p,f⟩,l⟩,⟨gc,gq,gw,gr,gl⟩,wr,pl,mi⟩)) [] []:=by
 refine spec_of_E (X:=⟨Tryz.prog,tt,Tryz.f208.ntmps,1,fun _=>0,(tab [(145,ZY),(247,Zcz),(100,ZaB)])⟩) (M:=[]) (m:=143) rfl rfl ⟨Zah,ZU (Za ZP (Za ZeE (Za ZaH Zb))) _ rfl rfl⟩ ZB Tryz.func208 rfl (by decide) (by show (1:Nat)≤_; exact Nat.le_of_ble_eq_true rfl) ⟨by simp [V.has,C.has,ZH],by simp [C.has],by simp⟩ ?_
 simp (maxSteps:=1000000) only [↓Zo,Ze,Zd,Zn,gSt,gS0,Ya,Yb,↓reduceIte,reduceCtorEq,Yc,Yd,Ye,Yf,Yg,Yj,Yk,Yl,Ym,Yn,ZO,ZeD,ZV,gE1,gE2,gE3,ZM,Zs,ZF,Zr,ZN,Zz,ZL,Zt,Zm,ZG,ZE,ZC,Tryz.ntmps208,Tryz.results208,gTT]
 refine ⟨⟨hl,hg⟩,fun h=>by simp [smN,h],fun h=>?_⟩
 have hv:smV ⟨di,st,q,s0,⟨c,⟨n,d,a,p,f⟩,l⟩,⟨gc,gq,gw,gr,gl⟩,wr,pl,mi⟩=true:=by simpa using h
 have hdi:=ZG0 hv
 simp only at hdi
 refine ⟨fun h2=>⟨hl,?_⟩,fun h2=>⟨hg,?_⟩⟩
 ·have hd:di=1:=by simpa using h2
  unfold smN
  rw [if_neg (by rw [hv]; decide),if_neg (by show ¬ di=2; omega)]
 ·have hd:di=2:=by
   have:¬ di=1:=by simpa using h2
   omega
  unfold smN
  rw [if_neg (by rw [hv]; decide),if_pos hd]
def ZZ:List V→Zf→Zw→Name→Option Ent
 | [.agg [.d (.int .i64 di),.d (.int .i64 st),.d (.int .i64 q),.d (.int .i64 s0),.d (.int .i64 c),.d (.int .i64 n),.d (.int .i64 d),.d (.int .i64 a),.d (.int .i64 p),.d (.int .i64 f),.d (.list q_l),.d (.int .i64 gc),.d (.int .i64 gq),.d (.int .i64 gw),.d (.int .i64 gr),.d (.list q_gl),.d (.int .i64 wr),.d (.int .i64 pl),.d (.int .i64 mi)]],[],[],_=>some ⟨(Zc q_l).length≤1000000∧(Zc q_gl).length≤1000000∧q_l=LI .i32 (Zc q_l)∧q_gl=LI .i32 (Zc q_gl),vI .i64 (smN ⟨di,st,q,s0,⟨c,⟨n,d,a,p,f⟩,(Zc q_l)⟩,⟨gc,gq,gw,gr,(Zc q_gl)⟩,wr,pl,mi⟩),[],[]⟩
 | _,_,_,_=>none
def ZQ:=And.intro (@ZZ.eq_1) (@ZZ.eq_1)
theorem ZR:Snd Tryz.prog 208 ZZ:=by
 intro vs b k n e h hn hp
 unfold ZZ at h
 split at h
 ·cases h; obtain ⟨hp0,hp1,hq0,hq1⟩:=hp; obtain ⟨_,rfl⟩:=Zu hq0; obtain ⟨_,rfl⟩:=Zu hq1; simp only [Zi,Zp,Zj,Zq] at hp0 hp1 ⊢; exact (Zk6 _ _ _ _ _ _ _ _ _ _ _ _ _ _ _ _ _ _ _ hp0 hp1).lift rfl _
 ·cases h
theorem Zs0 (di st q s0 c n d a p f:Int) (l:List Int) (gc gq gw gr:Int) (gl:List Int) (wr pl mi:Int) (hl:l.length≤1000000) (hg:gl.length≤1000000):Spec Tryz.prog 0 207 [.agg [.d (.int .i64 di),.d (.int .i64 st),.d (.int .i64 q),.d (.int .i64 s0),.d (.int .i64 c),.d (.int .i64 n),.d (.int .i64 d),.d (.int .i64 a),.d (.int .i64 p),.d (.int .i64 f),.d (.list (LI .i32 l)),.d (.int .i64 gc),.d (.int .i64 gq),.d (.int .i64 gw),.d (.int .i64 gr),.d (.list (LI .i32 gl)),.d (.int .i64 wr),.d (.int .i64 pl),.d (.int .i64 mi)]] [] [] (vI .i64 (smO ⟨di,st,q,s0,⟨c,⟨n,d,a,p,f⟩,l⟩,⟨gc,gq,gw,gr,gl⟩,wr,pl,mi⟩)) [] []:=by
 refine sE (md:=fun _=>0) (L:=[(145,ZY),(208,ZZ)]) [] 39 (Za ZP (Za ZR Zb)) Tryz.func207 rfl rfl rfl ?_
 simp (maxSteps:=1000000) only [↓Zo,Ze,Zd,Zn,gSt,gS0,Ya,Yb,↓reduceIte,reduceCtorEq,Yc,Yd,Ye,Yf,Yg,Yj,Yk,Yl,Ym,Yn,ZO,ZQ,gE1,gE2,gE3,ZM,Zs,ZF,Zr,ZN,Zz,ZL,Zt,Zm,ZG,ZE,ZC,Tryz.ntmps207,Tryz.results207,gTT]
 refine ⟨⟨hl,hg⟩,fun h=>by simp [smO,h],fun h=>⟨by kernel_rfl,⟨hl,hg⟩,?_⟩⟩
 have hv:smV ⟨di,st,q,s0,⟨c,⟨n,d,a,p,f⟩,l⟩,⟨gc,gq,gw,gr,gl⟩,wr,pl,mi⟩=true:=by simpa using h
 have hn:=ZAr hv hl
 simp only at hn
 rw [IntWalk.i64_in (q - _) (by omega)]
 unfold smO
 rw [if_neg (by rw [hv]; decide)]
def ZgD:List V→Zf→Zw→Name→Option Ent
 | [.agg [.d (.int .i64 di),.d (.int .i64 st),.d (.int .i64 q),.d (.int .i64 s0),.d (.int .i64 c),.d (.int .i64 n),.d (.int .i64 d),.d (.int .i64 a),.d (.int .i64 p),.d (.int .i64 f),.d (.list q_l),.d (.int .i64 gc),.d (.int .i64 gq),.d (.int .i64 gw),.d (.int .i64 gr),.d (.list q_gl),.d (.int .i64 wr),.d (.int .i64 pl),.d (.int .i64 mi)]],[],[],_=>some ⟨(Zc q_l).length≤1000000∧(Zc q_gl).length≤1000000∧q_l=LI .i32 (Zc q_l)∧q_gl=LI .i32 (Zc q_gl),vI .i64 (smO ⟨di,st,q,s0,⟨c,⟨n,d,a,p,f⟩,(Zc q_l)⟩,⟨gc,gq,gw,gr,(Zc q_gl)⟩,wr,pl,mi⟩),[],[]⟩
 | _,_,_,_=>none
def ZrD:=And.intro (@ZgD.eq_1) (@ZgD.eq_1)
theorem ZrE:Snd Tryz.prog 207 ZgD:=by
 intro vs b k n e h hn hp
 unfold ZgD at h
 split at h
 ·cases h; obtain ⟨hp0,hp1,hq0,hq1⟩:=hp; obtain ⟨_,rfl⟩:=Zu hq0; obtain ⟨_,rfl⟩:=Zu hq1; simp only [Zi,Zp,Zj,Zq] at hp0 hp1 ⊢; exact (Zs0 _ _ _ _ _ _ _ _ _ _ _ _ _ _ _ _ _ _ _ hp0 hp1).lift rfl _
 ·cases h
theorem Zqv (di st q s0 c n d a p f:Int) (l:List Int) (gc gq gw gr:Int) (gl:List Int) (wr pl mi:Int) (hl:l.length≤1000000) (hg:gl.length≤1000000):Spec Tryz.prog 0 206 [.agg [.d (.int .i64 di),.d (.int .i64 st),.d (.int .i64 q),.d (.int .i64 s0),.d (.int .i64 c),.d (.int .i64 n),.d (.int .i64 d),.d (.int .i64 a),.d (.int .i64 p),.d (.int .i64 f),.d (.list (LI .i32 l)),.d (.int .i64 gc),.d (.int .i64 gq),.d (.int .i64 gw),.d (.int .i64 gr),.d (.list (LI .i32 gl)),.d (.int .i64 wr),.d (.int .i64 pl),.d (.int .i64 mi)]] [] [] (vB (smP ⟨di,st,q,s0,⟨c,⟨n,d,a,p,f⟩,l⟩,⟨gc,gq,gw,gr,gl⟩,wr,pl,mi⟩)) [] []:=by
 refine sE (md:=fun _=>0) (L:=[(145,ZY)]) [] 7 (Za ZP Zb) Tryz.func206 rfl rfl rfl ?_
 simp (maxSteps:=1000000) only [↓Zo,Ze,Zd,Zn,gSt,gS0,Ya,Yb,↓reduceIte,reduceCtorEq,Yc,Yd,Ye,Yf,Yg,Yj,Yk,Yl,Ym,Yn,ZO,gE1,gE2,gE3,ZM,Zs,ZF,Zr,ZN,Zz,ZL,Zt,Zm,ZG,ZE,ZC,Tryz.ntmps206,Tryz.results206,gTT]
 exact ⟨⟨hl,hg⟩,rfl⟩
def Zb9:List V→Zf→Zw→Name→Option Ent
 | [.agg [.d (.int .i64 di),.d (.int .i64 st),.d (.int .i64 q),.d (.int .i64 s0),.d (.int .i64 c),.d (.int .i64 n),.d (.int .i64 d),.d (.int .i64 a),.d (.int .i64 p),.d (.int .i64 f),.d (.list q_l),.d (.int .i64 gc),.d (.int .i64 gq),.d (.int .i64 gw),.d (.int .i64 gr),.d (.list q_gl),.d (.int .i64 wr),.d (.int .i64 pl),.d (.int .i64 mi)]],[],[],_=>some ⟨(Zc q_l).length≤1000000∧(Zc q_gl).length≤1000000∧q_l=LI .i32 (Zc q_l)∧q_gl=LI .i32 (Zc q_gl),vB (smP ⟨di,st,q,s0,⟨c,⟨n,d,a,p,f⟩,(Zc q_l)⟩,⟨gc,gq,gw,gr,(Zc q_gl)⟩,wr,pl,mi⟩),[],[]⟩
 | _,_,_,_=>none
def ZcU:=And.intro (@Zb9.eq_1) (@Zb9.eq_1)
theorem ZcV:Snd Tryz.prog 206 Zb9:=by
 intro vs b k n e h hn hp
 unfold Zb9 at h
 split at h
 ·cases h; obtain ⟨hp0,hp1,hq0,hq1⟩:=hp; obtain ⟨_,rfl⟩:=Zu hq0; obtain ⟨_,rfl⟩:=Zu hq1; simp only [Zi,Zp,Zj,Zq] at hp0 hp1 ⊢; exact (Zqv _ _ _ _ _ _ _ _ _ _ _ _ _ _ _ _ _ _ _ hp0 hp1).lift rfl _
 ·cases h
theorem Zk4 (di st q s0 c n d a p f:Int) (l:List Int) (gc gq gw gr:Int) (gl:List Int) (wr pl mi:Int) (hl:l.length≤1000000) (hg:gl.length≤1000000):Spec Tryz.prog 0 210 [.agg [.d (.int .i64 di),.d (.int .i64 st),.d (.int .i64 q),.d (.int .i64 s0),.d (.int .i64 c),.d (.int .i64 n),.d (.int .i64 d),.d (.int .i64 a),.d (.int .i64 p),.d (.int .i64 f),.d (.list (LI .i32 l)),.d (.int .i64 gc),.d (.int .i64 gq),.d (.int .i64 gw),.d (.int .i64 gr),.d (.list (LI .i32 gl)),.d (.int .i64 wr),.d (.int .i64 pl),.d (.int .i64 mi)]] [] [] (vB (smR ⟨di,st,q,s0,⟨c,⟨n,d,a,p,f⟩,l⟩,⟨gc,gq,gw,gr,gl⟩,wr,pl,mi⟩)) [] []:=by
 refine sE (md:=fun _=>0) (L:=[(145,ZY)]) [] 7 (Za ZP Zb) Tryz.func210 rfl rfl rfl ?_
 simp (maxSteps:=1000000) only [↓Zo,Ze,Zd,Zn,gSt,gS0,Ya,Yb,↓reduceIte,reduceCtorEq,Yc,Yd,Ye,Yf,Yg,Yj,Yk,Yl,Ym,Yn,ZO,gE1,gE2,gE3,ZM,Zs,ZF,Zr,ZN,Zz,ZL,Zt,Zm,ZG,ZE,ZC,Tryz.ntmps210,Tryz.results210,gTT]
 exact ⟨⟨hl,hg⟩,rfl⟩
def ZbT:List V→Zf→Zw→Name→Option Ent
 | [.agg [.d (.int .i64 di),.d (.int .i64 st),.d (.int .i64 q),.d (.int .i64 s0),.d (.int .i64 c),.d (.int .i64 n),.d (.int .i64 d),.d (.int .i64 a),.d (.int .i64 p),.d (.int .i64 f),.d (.list q_l),.d (.int .i64 gc),.d (.int .i64 gq),.d (.int .i64 gw),.d (.int .i64 gr),.d (.list q_gl),.d (.int .i64 wr),.d (.int .i64 pl),.d (.int .i64 mi)]],[],[],_=>some ⟨(Zc q_l).length≤1000000∧(Zc q_gl).length≤1000000∧q_l=LI .i32 (Zc q_l)∧q_gl=LI .i32 (Zc q_gl),vB (smR ⟨di,st,q,s0,⟨c,⟨n,d,a,p,f⟩,(Zc q_l)⟩,⟨gc,gq,gw,gr,(Zc q_gl)⟩,wr,pl,mi⟩),[],[]⟩
 | _,_,_,_=>none
def Zfr:=And.intro (@ZbT.eq_1) (@ZbT.eq_1)
theorem Zfs:Snd Tryz.prog 210 ZbT:=by
 intro vs b k n e h hn hp
 unfold ZbT at h
 split at h
 ·cases h; obtain ⟨hp0,hp1,hq0,hq1⟩:=hp; obtain ⟨_,rfl⟩:=Zu hq0; obtain ⟨_,rfl⟩:=Zu hq1; simp only [Zi,Zp,Zj,Zq] at hp0 hp1 ⊢; exact (Zk4 _ _ _ _ _ _ _ _ _ _ _ _ _ _ _ _ _ _ _ hp0 hp1).lift rfl _
 ·cases h
theorem ZqA (di st q s0 c n d a p f:Int) (l:List Int) (gc gq gw gr:Int) (gl:List Int) (wr pl mi:Int) (k:Int) (y:List Int) (hl:l.length≤1000000) (hg:gl.length≤1000000) (hy:y.length≤1000000):Spec Tryz.prog 0 146 [.agg [.d (.int .i64 di),.d (.int .i64 st),.d (.int .i64 q),.d (.int .i64 s0),.d (.int .i64 c),.d (.int .i64 n),.d (.int .i64 d),.d (.int .i64 a),.d (.int .i64 p),.d (.int .i64 f),.d (.list (LI .i32 l)),.d (.int .i64 gc),.d (.int .i64 gq),.d (.int .i64 gw),.d (.int .i64 gr),.d (.list (LI .i32 gl)),.d (.int .i64 wr),.d (.int .i64 pl),.d (.int .i64 mi)],.agg [.d (.int .i64 k),.d (.list (LI .i32 y))]] [] [] (.tup [.agg (smD (swR ⟨di,st,q,s0,⟨c,⟨n,d,a,p,f⟩,l⟩,⟨gc,gq,gw,gr,gl⟩,wr,pl,mi⟩ k y)),.int .i64 (swE ⟨di,st,q,s0,⟨c,⟨n,d,a,p,f⟩,l⟩,⟨gc,gq,gw,gr,gl⟩,wr,pl,mi⟩ k y)]) [] []:=by
 refine sE (md:=fun _=>0) (L:=[(206,Zb9),(30,ZaW),(20,ZbY),(207,ZgD),(98,Zho)]) [] 72127964996960767 (Za ZcV (Za ZaY (Za ZbN (Za ZrE (Za Zlp Zb))))) Tryz.func146 rfl rfl rfl ?_
 simp (maxSteps:=1000000) only [↓Zo,Ze,Zd,Zn,gSt,gS0,Ya,Yb,↓reduceIte,reduceCtorEq,Yc,Yd,Ye,Yf,Yg,Yj,Yk,Yl,Ym,Yn,ZcU,ZaX,ZbM,ZrD,Zlo,gE1,gE2,gE3,ZM,Zs,ZF,Zr,ZN,Zz,ZL,Zt,Zm,ZG,ZE,ZC,Tryz.ntmps146,Tryz.results146,gTT]
 refine ⟨⟨hl,hg⟩,fun _=>hy,fun h=>?_,fun h=>⟨fun h2=>?_,fun h2=>⟨fun h3=>?_,fun h3=>⟨by kernel_rfl,hy,⟨hl,hg⟩,fun h4=>?_,fun h4=>⟨⟨hl,hy⟩,fun h5=>?_,fun h5=>⟨fun _=>hy,fun h6=>⟨by kernel_rfl,hy,?_⟩,fun h6=>⟨by kernel_rfl,hy,?_⟩⟩⟩⟩⟩⟩⟩
 ·have e:swE ⟨di,st,q,s0,⟨c,⟨n,d,a,p,f⟩,l⟩,⟨gc,gq,gw,gr,gl⟩,wr,pl,mi⟩ k y=1:=by unfold swE; rw [if_pos h]
  simp [swR,e,sm0,rs0,rg0,Zy]
 ·have hk:k≠c:=by simpa using h2
  have e:swE ⟨di,st,q,s0,⟨c,⟨n,d,a,p,f⟩,l⟩,⟨gc,gq,gw,gr,gl⟩,wr,pl,mi⟩ k y=11:=by unfold swE; rw [if_neg (by rw [h]; decide),if_pos hk]
  simp [swR,e,sm0,rs0,rg0,Zy]
 ·have hk:k=c:=by simpa using h2
  have e:swE ⟨di,st,q,s0,⟨c,⟨n,d,a,p,f⟩,l⟩,⟨gc,gq,gw,gr,gl⟩,wr,pl,mi⟩ k y=9:=by unfold swE; rw [if_neg (by rw [h]; decide),if_neg (by simpa using hk),if_pos (of_decide_eq_true h3)]
  simp [swR,e,sm0,rs0,rg0,Zy]
 all_goals
  have hk:k=c:=by simpa using h2
  have hb:ZaR k y=true:=by
   simp only [Bool.or_eq_false_iff,Bool.not_eq_false'] at h
   exact h.2
  have hN:swN k y=((y.length / k.toNat:Nat):Int):=rfl
  rw [if_pos hb,← hN] at h4
 ·have e:swE ⟨di,st,q,s0,⟨c,⟨n,d,a,p,f⟩,l⟩,⟨gc,gq,gw,gr,gl⟩,wr,pl,mi⟩ k y=10:=by unfold swE; rw [if_neg (by rw [h]; decide),if_neg (by simpa using hk),if_neg (of_decide_eq_false h3),if_pos (of_decide_eq_true h4)]
  simp [swR,e,sm0,rs0,rg0,Zy]
 all_goals
  have e:swE ⟨di,st,q,s0,⟨c,⟨n,d,a,p,f⟩,l⟩,⟨gc,gq,gw,gr,gl⟩,wr,pl,mi⟩ k y=0:=by unfold swE; rw [if_neg (by rw [h]; decide),if_neg (by simpa using hk),if_neg (of_decide_eq_false h3),if_neg (of_decide_eq_false h4)]
 ·exact absurd (ZD2 (x:=⟨di,st,q,s0,⟨c,⟨n,d,a,p,f⟩,l⟩,⟨gc,gq,gw,gr,gl⟩,wr,pl,mi⟩) hl hy e).2.2.2.2.2 (by simpa using h5)
 all_goals
  rw [if_pos hb,← hN] at h6 ⊢
 ·have h7:st=1∧0 < swN k y:=by simpa using h6
  have e2:swR ⟨di,st,q,s0,⟨c,⟨n,d,a,p,f⟩,l⟩,⟨gc,gq,gw,gr,gl⟩,wr,pl,mi⟩ k y=⟨di,2,q,s0,feR ⟨c,⟨n,d,a,p,f⟩,l⟩ k y,⟨gc,gq,gw,gr,gl⟩,IntKind.i64.wrap (wr+swN k y),pl,mi⟩:=by unfold swR; rw [if_pos e,if_pos h7]
  rw [e2,e]
 ·have h7:¬ (st=1∧0 < swN k y):=by
   intro h7
   rw [Bool.and_eq_false_iff] at h6
   rcases h6 with h6 | h6
   ·simp at h6; exact h6 h7.1
   ·have:=of_decide_eq_false h6; omega
  have e2:swR ⟨di,st,q,s0,⟨c,⟨n,d,a,p,f⟩,l⟩,⟨gc,gq,gw,gr,gl⟩,wr,pl,mi⟩ k y=⟨di,st,q,s0,feR ⟨c,⟨n,d,a,p,f⟩,l⟩ k y,⟨gc,gq,gw,gr,gl⟩,IntKind.i64.wrap (wr+swN k y),pl,mi⟩:=by unfold swR; rw [if_pos e,if_neg h7]
  rw [e2,e]
def ZeI:List V→Zf→Zw→Name→Option Ent
 | [.agg [.d (.int .i64 di),.d (.int .i64 st),.d (.int .i64 q),.d (.int .i64 s0),.d (.int .i64 c),.d (.int .i64 n),.d (.int .i64 d),.d (.int .i64 a),.d (.int .i64 p),.d (.int .i64 f),.d (.list q_l),.d (.int .i64 gc),.d (.int .i64 gq),.d (.int .i64 gw),.d (.int .i64 gr),.d (.list q_gl),.d (.int .i64 wr),.d (.int .i64 pl),.d (.int .i64 mi)],.agg [.d (.int .i64 k),.d (.list q_y)]],[],[],_=>some ⟨(Zc q_l).length≤1000000∧(Zc q_gl).length≤1000000∧(Zc q_y).length≤1000000∧q_l=LI .i32 (Zc q_l)∧q_gl=LI .i32 (Zc q_gl)∧q_y=LI .i32 (Zc q_y),.tup [.agg (smD (swR ⟨di,st,q,s0,⟨c,⟨n,d,a,p,f⟩,(Zc q_l)⟩,⟨gc,gq,gw,gr,(Zc q_gl)⟩,wr,pl,mi⟩ k (Zc q_y))),.int .i64 (swE ⟨di,st,q,s0,⟨c,⟨n,d,a,p,f⟩,(Zc q_l)⟩,⟨gc,gq,gw,gr,(Zc q_gl)⟩,wr,pl,mi⟩ k (Zc q_y))],[],[]⟩
 | _,_,_,_=>none
def Zos:=And.intro (@ZeI.eq_1) (@ZeI.eq_1)
theorem Zot:Snd Tryz.prog 146 ZeI:=by
 intro vs b k n e h hn hp
 unfold ZeI at h
 split at h
 ·cases h; obtain ⟨hp0,hp1,hp2,hq0,hq1,hq2⟩:=hp; obtain ⟨_,rfl⟩:=Zu hq0; obtain ⟨_,rfl⟩:=Zu hq1; obtain ⟨_,rfl⟩:=Zu hq2; simp only [Zi,Zp,Zj,Zq] at hp0 hp1 hp2 ⊢; exact (ZqA _ _ _ _ _ _ _ _ _ _ _ _ _ _ _ _ _ _ _ _ _ hp0 hp1 hp2).lift rfl _
 ·cases h
theorem ZsZ (di st q s0 c n d a p f:Int) (l:List Int) (gc gq gw gr:Int) (gl:List Int) (wr pl mi:Int) (i:Int) (hl:l.length≤1000000) (hg:gl.length≤1000000):Spec Tryz.prog 0 150 [.agg [.d (.int .i64 di),.d (.int .i64 st),.d (.int .i64 q),.d (.int .i64 s0),.d (.int .i64 c),.d (.int .i64 n),.d (.int .i64 d),.d (.int .i64 a),.d (.int .i64 p),.d (.int .i64 f),.d (.list (LI .i32 l)),.d (.int .i64 gc),.d (.int .i64 gq),.d (.int .i64 gw),.d (.int .i64 gr),.d (.list (LI .i32 gl)),.d (.int .i64 wr),.d (.int .i64 pl),.d (.int .i64 mi)],vI .i64 i] [] [] (.tup [.agg [.int .i64 (srC ⟨di,st,q,s0,⟨c,⟨n,d,a,p,f⟩,l⟩,⟨gc,gq,gw,gr,gl⟩,wr,pl,mi⟩ i),.list (LI .i32 (srO ⟨di,st,q,s0,⟨c,⟨n,d,a,p,f⟩,l⟩,⟨gc,gq,gw,gr,gl⟩,wr,pl,mi⟩ i))],.agg (smD (srR ⟨di,st,q,s0,⟨c,⟨n,d,a,p,f⟩,l⟩,⟨gc,gq,gw,gr,gl⟩,wr,pl,mi⟩ i)),.int .i64 (srE ⟨di,st,q,s0,⟨c,⟨n,d,a,p,f⟩,l⟩,⟨gc,gq,gw,gr,gl⟩,wr,pl,mi⟩ i)]) [] []:=by
 refine sE (md:=fun _=>0) (L:=[(210,ZbT),(208,ZZ),(212,ZeF)]) [(8,[0,0,0,0,0,8263655507447,0,0,0,0,0,7696719824375,0,0,0])] 138429943 (Za Zfs (Za ZR (Za Zoo Zb))) Tryz.func150 rfl rfl rfl ?_
 simp (maxSteps:=1000000) only [↓Zo,Ze,Zd,Zn,gSt,gS0,Ya,Yb,↓reduceIte,reduceCtorEq,Yc,Yd,Ye,Yf,Yg,Yj,Yk,Yl,Ym,Yn,Zfr,ZQ,Zon,gE1,gE2,gE3,ZM,Zs,ZF,Zr,ZN,Zz,ZL,Zt,Zm,ZG,ZE,ZC,Tryz.ntmps150,Tryz.results150,gTT]
 refine ⟨⟨hl,hg⟩,fun h=>?_,fun h=>⟨fun h2=>?_,fun h2=>⟨fun h3=>?_,fun h3=>⟨⟨hl,hg⟩,hg,by kernel_rfl,?_⟩⟩⟩⟩
 ·have e:srE ⟨di,st,q,s0,⟨c,⟨n,d,a,p,f⟩,l⟩,⟨gc,gq,gw,gr,gl⟩,wr,pl,mi⟩ i=1:=by unfold srE; rw [if_pos h]
  simp [srC,srO,srR,e,sm0,rs0,rg0,Zy]
 ·have hv:smR ⟨di,st,q,s0,⟨c,⟨n,d,a,p,f⟩,l⟩,⟨gc,gq,gw,gr,gl⟩,wr,pl,mi⟩=true:=by simpa using h
  have e:srE ⟨di,st,q,s0,⟨c,⟨n,d,a,p,f⟩,l⟩,⟨gc,gq,gw,gr,gl⟩,wr,pl,mi⟩ i=2:=by unfold srE; rw [if_neg (by rw [hv]; decide),if_pos h2]
  simp [srC,srO,srR,e,sm0,rs0,rg0,Zy]
 ·have hv:smR ⟨di,st,q,s0,⟨c,⟨n,d,a,p,f⟩,l⟩,⟨gc,gq,gw,gr,gl⟩,wr,pl,mi⟩=true:=by simpa using h
  have hs7:st=7:=by simpa using h3
  have e:srE ⟨di,st,q,s0,⟨c,⟨n,d,a,p,f⟩,l⟩,⟨gc,gq,gw,gr,gl⟩,wr,pl,mi⟩ i=9:=by unfold srE; rw [if_neg (by rw [hv]; decide),if_neg (by rw [h2]; decide),if_pos hs7]
  simp [srC,srO,srR,e,sm0,rs0,rg0,Zy]
 have hv:smR ⟨di,st,q,s0,⟨c,⟨n,d,a,p,f⟩,l⟩,⟨gc,gq,gw,gr,gl⟩,wr,pl,mi⟩=true:=by simpa using h
 have hs7:¬ st=7:=by simpa using h3
 have e:srE ⟨di,st,q,s0,⟨c,⟨n,d,a,p,f⟩,l⟩,⟨gc,gq,gw,gr,gl⟩,wr,pl,mi⟩ i=0:=by unfold srE; rw [if_neg (by rw [hv]; decide),if_neg (by rw [h2]; decide),if_neg hs7]
 have eK:(if smN ⟨di,st,q,s0,⟨c,⟨n,d,a,p,f⟩,l⟩,⟨gc,gq,gw,gr,gl⟩,wr,pl,mi⟩ < i then smN ⟨di,st,q,s0,⟨c,⟨n,d,a,p,f⟩,l⟩,⟨gc,gq,gw,gr,gl⟩,wr,pl,mi⟩ else i)=srN ⟨di,st,q,s0,⟨c,⟨n,d,a,p,f⟩,l⟩,⟨gc,gq,gw,gr,gl⟩,wr,pl,mi⟩ i:=by unfold srN; split <;> omega
 rw [eK]
 simp [srC,srO,srR,e]
def ZgC:List V→Zf→Zw→Name→Option Ent
 | [.agg [.d (.int .i64 di),.d (.int .i64 st),.d (.int .i64 q),.d (.int .i64 s0),.d (.int .i64 c),.d (.int .i64 n),.d (.int .i64 d),.d (.int .i64 a),.d (.int .i64 p),.d (.int .i64 f),.d (.list q_l),.d (.int .i64 gc),.d (.int .i64 gq),.d (.int .i64 gw),.d (.int .i64 gr),.d (.list q_gl),.d (.int .i64 wr),.d (.int .i64 pl),.d (.int .i64 mi)],.c (.d (.int .i64 i))],[],[],_=>some ⟨(Zc q_l).length≤1000000∧(Zc q_gl).length≤1000000∧q_l=LI .i32 (Zc q_l)∧q_gl=LI .i32 (Zc q_gl),.tup [.agg [.int .i64 (srC ⟨di,st,q,s0,⟨c,⟨n,d,a,p,f⟩,(Zc q_l)⟩,⟨gc,gq,gw,gr,(Zc q_gl)⟩,wr,pl,mi⟩ i),.list (LI .i32 (srO ⟨di,st,q,s0,⟨c,⟨n,d,a,p,f⟩,(Zc q_l)⟩,⟨gc,gq,gw,gr,(Zc q_gl)⟩,wr,pl,mi⟩ i))],.agg (smD (srR ⟨di,st,q,s0,⟨c,⟨n,d,a,p,f⟩,(Zc q_l)⟩,⟨gc,gq,gw,gr,(Zc q_gl)⟩,wr,pl,mi⟩ i)),.int .i64 (srE ⟨di,st,q,s0,⟨c,⟨n,d,a,p,f⟩,(Zc q_l)⟩,⟨gc,gq,gw,gr,(Zc q_gl)⟩,wr,pl,mi⟩ i)],[],[]⟩
 | _,_,_,_=>none
def ZrB:=And.intro (@ZgC.eq_1) (@ZgC.eq_1)
theorem ZrC:Snd Tryz.prog 150 ZgC:=by
 intro vs b k n e h hn hp
 unfold ZgC at h
 split at h
 ·cases h; obtain ⟨hp0,hp1,hq0,hq1⟩:=hp; obtain ⟨_,rfl⟩:=Zu hq0; obtain ⟨_,rfl⟩:=Zu hq1; simp only [Zi,Zp,Zj,Zq] at hp0 hp1 ⊢; exact (ZsZ _ _ _ _ _ _ _ _ _ _ _ _ _ _ _ _ _ _ _ _ hp0 hp1).lift rfl _
 ·cases h
theorem Zqt (di st q s0 c n d a p f:Int) (l:List Int) (gc gq gw gr:Int) (gl:List Int) (wr pl mi:Int) (hl:l.length≤1000000) (hg:gl.length≤1000000):Spec Tryz.prog 0 213 [.agg [.d (.int .i64 di),.d (.int .i64 st),.d (.int .i64 q),.d (.int .i64 s0),.d (.int .i64 c),.d (.int .i64 n),.d (.int .i64 d),.d (.int .i64 a),.d (.int .i64 p),.d (.int .i64 f),.d (.list (LI .i32 l)),.d (.int .i64 gc),.d (.int .i64 gq),.d (.int .i64 gw),.d (.int .i64 gr),.d (.list (LI .i32 gl)),.d (.int .i64 wr),.d (.int .i64 pl),.d (.int .i64 mi)]] [] [] (.agg (smC (smE ⟨di,st,q,s0,⟨c,⟨n,d,a,p,f⟩,l⟩,⟨gc,gq,gw,gr,gl⟩,wr,pl,mi⟩))) [] []:=by
 refine sE (md:=fun _=>0) (L:=[(38,Zfg),(248,Zdr)]) [(1,[0,0,0,0,0,155215,0,0,0,0,0,151559,0])] 131079 (Za Zjo (Za Zmq Zb)) Tryz.func213 rfl rfl rfl ?_
 simp (maxSteps:=1000000) only [↓Zo,Ze,Zd,Zn,gSt,gS0,Ya,Yb,↓reduceIte,reduceCtorEq,Yc,Yd,Ye,Yf,Yg,Yj,Yk,Yl,Ym,Yn,Zjn,Zmp,gE1,gE2,gE3,ZM,Zs,ZF,Zr,ZN,Zz,ZL,Zt,Zm,ZG,ZE,ZC,Tryz.ntmps213,Tryz.results213,gTT]
 refine ⟨fun h=>?_,fun h=>?_⟩
 ·have hd:di=2:=by simpa using h
  simp [smE,hd,hg]
 ·have hd:¬ di=2:=by simpa using h
  simp [smE,hd]
def ZaA:List V→Zf→Zw→Name→Option Ent
 | [.agg [.d (.int .i64 di),.d (.int .i64 st),.d (.int .i64 q),.d (.int .i64 s0),.d (.int .i64 c),.d (.int .i64 n),.d (.int .i64 d),.d (.int .i64 a),.d (.int .i64 p),.d (.int .i64 f),.d (.list q_l),.d (.int .i64 gc),.d (.int .i64 gq),.d (.int .i64 gw),.d (.int .i64 gr),.d (.list q_gl),.d (.int .i64 wr),.d (.int .i64 pl),.d (.int .i64 mi)]],[],[],_=>some ⟨(Zc q_l).length≤1000000∧(Zc q_gl).length≤1000000∧q_l=LI .i32 (Zc q_l)∧q_gl=LI .i32 (Zc q_gl),.agg (smC (smE ⟨di,st,q,s0,⟨c,⟨n,d,a,p,f⟩,(Zc q_l)⟩,⟨gc,gq,gw,gr,(Zc q_gl)⟩,wr,pl,mi⟩)),[],[]⟩
 | _,_,_,_=>none
def Zar:=And.intro (@ZaA.eq_1) (@ZaA.eq_1)
theorem Zas:Snd Tryz.prog 213 ZaA:=by
 intro vs b k n e h hn hp
 unfold ZaA at h
 split at h
 ·cases h; obtain ⟨hp0,hp1,hq0,hq1⟩:=hp; obtain ⟨_,rfl⟩:=Zu hq0; obtain ⟨_,rfl⟩:=Zu hq1; simp only [Zi,Zp,Zj,Zq] at hp0 hp1 ⊢; exact (Zqt _ _ _ _ _ _ _ _ _ _ _ _ _ _ _ _ _ _ _ hp0 hp1).lift rfl _
 ·cases h
theorem ZsY (di st q s0 c n d a p f:Int) (l:List Int) (gc gq gw gr:Int) (gl:List Int) (wr pl mi:Int) (k:Int) (y:List Int) (hl:l.length≤1000000) (hg:gl.length≤1000000) (hy:y.length≤1000000):Spec Tryz.prog 0 149 [.agg [.d (.int .i64 di),.d (.int .i64 st),.d (.int .i64 q),.d (.int .i64 s0),.d (.int .i64 c),.d (.int .i64 n),.d (.int .i64 d),.d (.int .i64 a),.d (.int .i64 p),.d (.int .i64 f),.d (.list (LI .i32 l)),.d (.int .i64 gc),.d (.int .i64 gq),.d (.int .i64 gw),.d (.int .i64 gr),.d (.list (LI .i32 gl)),.d (.int .i64 wr),.d (.int .i64 pl),.d (.int .i64 mi)],.agg [.d (.int .i64 k),.d (.list (LI .i32 y))]] [] [] (.tup [.int .i64 (gvL ⟨di,st,q,s0,⟨c,⟨n,d,a,p,f⟩,l⟩,⟨gc,gq,gw,gr,gl⟩,wr,pl,mi⟩ k y),.agg (smD (gvR ⟨di,st,q,s0,⟨c,⟨n,d,a,p,f⟩,l⟩,⟨gc,gq,gw,gr,gl⟩,wr,pl,mi⟩ k y)),.int .i64 (gvE ⟨di,st,q,s0,⟨c,⟨n,d,a,p,f⟩,l⟩,⟨gc,gq,gw,gr,gl⟩,wr,pl,mi⟩ k y)]) [] []:=by
 refine sE (md:=fun _=>0) (L:=[(210,ZbT),(30,ZaW),(39,Zdo),(211,Zds),(20,ZbY)]) [(7,[0,0,0,0,0,9010365787017215,0,0,0,0,0,9009949175189503,0]),(10,[0,0,0,0,0,12967641279369215,0,0,0,0,0,0])] 9009399419375615 (Za Zfs (Za ZaY (Za Zmn (Za Zms (Za ZbN Zb))))) Tryz.func149 rfl rfl rfl ?_
 simp (maxSteps:=1000000) only [↓Zo,Ze,Zd,Zn,gSt,gS0,Ya,Yb,↓reduceIte,reduceCtorEq,Yc,Yd,Ye,Yf,Yg,Yj,Yk,Yl,Ym,Yn,Zfr,ZaX,Zmm,Zmr,ZbM,gE1,gE2,gE3,ZM,Zs,ZF,Zr,ZN,Zz,ZL,Zt,Zm,ZG,ZE,ZC,Tryz.ntmps149,Tryz.results149,gTT]
 refine ⟨⟨hl,hg⟩,fun _=>hy,fun h=>?_,fun h=>⟨fun h2=>?_,fun h2=>⟨fun h3=>⟨by kernel_rfl,?_⟩,fun h3=>⟨⟨hl,hy⟩,fun h4=>?_,fun h4=>⟨⟨hg,?_⟩,fun h5=>?_,fun h5=>⟨by kernel_rfl,by kernel_rfl,hy,by kernel_rfl,?_⟩⟩⟩⟩⟩⟩
 ·have e:gvE ⟨di,st,q,s0,⟨c,⟨n,d,a,p,f⟩,l⟩,⟨gc,gq,gw,gr,gl⟩,wr,pl,mi⟩ k y=1:=by unfold gvE; rw [if_pos h]
  simp [gvL,gvR,e,sm0,rs0,rg0,Zy]
 ·have hk:k≠c:=by simpa using h2
  have e:gvE ⟨di,st,q,s0,⟨c,⟨n,d,a,p,f⟩,l⟩,⟨gc,gq,gw,gr,gl⟩,wr,pl,mi⟩ k y=11:=by unfold gvE; rw [if_neg (by rw [h]; decide),if_pos hk]
  simp [gvL,gvR,e,sm0,rs0,rg0,Zy]
 all_goals
  have hk:k=c:=by simpa using h2
  have hg0:gvE ⟨di,st,q,s0,⟨c,⟨n,d,a,p,f⟩,l⟩,⟨gc,gq,gw,gr,gl⟩,wr,pl,mi⟩ k y=if st≠3 then 0 else if cvE ⟨c,⟨n,d,a,p,f⟩,l⟩ k y≠0 then cvE ⟨c,⟨n,d,a,p,f⟩,l⟩ k y else rwE ⟨gc,gq,gw,gr,gl⟩ (cvC ⟨c,⟨n,d,a,p,f⟩,l⟩ k y) (cvO ⟨c,⟨n,d,a,p,f⟩,l⟩ k y):=by
   unfold gvE
   rw [if_neg (by rw [h]; decide),if_neg (by simpa using hk)]
 ·have hs:st≠3:=by simpa using h3
  have e:gvE ⟨di,st,q,s0,⟨c,⟨n,d,a,p,f⟩,l⟩,⟨gc,gq,gw,gr,gl⟩,wr,pl,mi⟩ k y=0:=by rw [hg0,if_pos hs]
  have e1:gvL ⟨di,st,q,s0,⟨c,⟨n,d,a,p,f⟩,l⟩,⟨gc,gq,gw,gr,gl⟩,wr,pl,mi⟩ k y=0:=by unfold gvL; rw [if_neg (fun h=>hs h.2)]
  have e2:gvR ⟨di,st,q,s0,⟨c,⟨n,d,a,p,f⟩,l⟩,⟨gc,gq,gw,gr,gl⟩,wr,pl,mi⟩ k y=⟨di,st,q,s0,⟨c,⟨n,d,a,p,f⟩,l⟩,⟨gc,gq,gw,gr,gl⟩,wr,pl,mi⟩:=by unfold gvR; rw [if_pos e,if_neg hs]
  rw [e,e1,e2]
 all_goals
  have hs:st=3:=by simpa using h3
  rw [if_neg (by simpa using hs)] at hg0
 ·have h6:cvE ⟨c,⟨n,d,a,p,f⟩,l⟩ k y≠0:=by simpa using h4
  have e:gvE ⟨di,st,q,s0,⟨c,⟨n,d,a,p,f⟩,l⟩,⟨gc,gq,gw,gr,gl⟩,wr,pl,mi⟩ k y=cvE ⟨c,⟨n,d,a,p,f⟩,l⟩ k y:=by rw [hg0,if_pos h6]
  have e0:gvE ⟨di,st,q,s0,⟨c,⟨n,d,a,p,f⟩,l⟩,⟨gc,gq,gw,gr,gl⟩,wr,pl,mi⟩ k y≠0:=by rw [e]; exact h6
  rw [← e]
  simp [gvL,gvR,e0,sm0,rs0,rg0,Zy]
 all_goals
  have h6:cvE ⟨c,⟨n,d,a,p,f⟩,l⟩ k y=0:=by simpa using h4
  rw [if_neg (by simpa using h6)] at hg0
 ·have:=Zy3 hl hy h6
  omega
 ·have h7:rwE ⟨gc,gq,gw,gr,gl⟩ (cvC ⟨c,⟨n,d,a,p,f⟩,l⟩ k y) (cvO ⟨c,⟨n,d,a,p,f⟩,l⟩ k y)≠0:=by simpa using h5
  have e0:gvE ⟨di,st,q,s0,⟨c,⟨n,d,a,p,f⟩,l⟩,⟨gc,gq,gw,gr,gl⟩,wr,pl,mi⟩ k y≠0:=by rw [hg0]; exact h7
  rw [← hg0]
  simp [gvL,gvR,e0,sm0,rs0,rg0,Zy]
 have hb:ZaR k y=true:=by
  simp only [Bool.or_eq_false_iff,Bool.not_eq_false'] at h
  exact h.2
 have h7:rwE ⟨gc,gq,gw,gr,gl⟩ (cvC ⟨c,⟨n,d,a,p,f⟩,l⟩ k y) (cvO ⟨c,⟨n,d,a,p,f⟩,l⟩ k y)=0:=by simpa using h5
 have e:gvE ⟨di,st,q,s0,⟨c,⟨n,d,a,p,f⟩,l⟩,⟨gc,gq,gw,gr,gl⟩,wr,pl,mi⟩ k y=0:=by rw [hg0]; exact h7
 have e1:gvL ⟨di,st,q,s0,⟨c,⟨n,d,a,p,f⟩,l⟩,⟨gc,gq,gw,gr,gl⟩,wr,pl,mi⟩ k y=rwL ⟨gc,gq,gw,gr,gl⟩ (cvC ⟨c,⟨n,d,a,p,f⟩,l⟩ k y) (cvO ⟨c,⟨n,d,a,p,f⟩,l⟩ k y):=if_pos ⟨e,hs⟩
 have e2:gvR ⟨di,st,q,s0,⟨c,⟨n,d,a,p,f⟩,l⟩,⟨gc,gq,gw,gr,gl⟩,wr,pl,mi⟩ k y=⟨di,st,q,s0,cvR ⟨c,⟨n,d,a,p,f⟩,l⟩ k y,rwR ⟨gc,gq,gw,gr,gl⟩ (cvC ⟨c,⟨n,d,a,p,f⟩,l⟩ k y) (cvO ⟨c,⟨n,d,a,p,f⟩,l⟩ k y),wr,IntKind.i64.wrap (pl+swN k y),IntKind.i64.wrap (mi+rwL ⟨gc,gq,gw,gr,gl⟩ (cvC ⟨c,⟨n,d,a,p,f⟩,l⟩ k y) (cvO ⟨c,⟨n,d,a,p,f⟩,l⟩ k y))⟩:=by
  unfold gvR
  rw [if_pos e,if_pos hs,e1]
 have e3:swN k y=((y.length / k.toNat:Nat):Int):=rfl
 rw [if_pos hb,e,e1,e2,e3]
def ZgB:List V→Zf→Zw→Name→Option Ent
 | [.agg [.d (.int .i64 di),.d (.int .i64 st),.d (.int .i64 q),.d (.int .i64 s0),.d (.int .i64 c),.d (.int .i64 n),.d (.int .i64 d),.d (.int .i64 a),.d (.int .i64 p),.d (.int .i64 f),.d (.list q_l),.d (.int .i64 gc),.d (.int .i64 gq),.d (.int .i64 gw),.d (.int .i64 gr),.d (.list q_gl),.d (.int .i64 wr),.d (.int .i64 pl),.d (.int .i64 mi)],.agg [.d (.int .i64 k),.d (.list q_y)]],[],[],_=>some ⟨(Zc q_l).length≤1000000∧(Zc q_gl).length≤1000000∧(Zc q_y).length≤1000000∧q_l=LI .i32 (Zc q_l)∧q_gl=LI .i32 (Zc q_gl)∧q_y=LI .i32 (Zc q_y),.tup [.int .i64 (gvL ⟨di,st,q,s0,⟨c,⟨n,d,a,p,f⟩,(Zc q_l)⟩,⟨gc,gq,gw,gr,(Zc q_gl)⟩,wr,pl,mi⟩ k (Zc q_y)),.agg (smD (gvR ⟨di,st,q,s0,⟨c,⟨n,d,a,p,f⟩,(Zc q_l)⟩,⟨gc,gq,gw,gr,(Zc q_gl)⟩,wr,pl,mi⟩ k (Zc q_y))),.int .i64 (gvE ⟨di,st,q,s0,⟨c,⟨n,d,a,p,f⟩,(Zc q_l)⟩,⟨gc,gq,gw,gr,(Zc q_gl)⟩,wr,pl,mi⟩ k (Zc q_y))],[],[]⟩
 | _,_,_,_=>none
def Zrz:=And.intro (@ZgB.eq_1) (@ZgB.eq_1)
theorem ZrA:Snd Tryz.prog 149 ZgB:=by
 intro vs b k n e h hn hp
 unfold ZgB at h
 split at h
 ·cases h; obtain ⟨hp0,hp1,hp2,hq0,hq1,hq2⟩:=hp; obtain ⟨_,rfl⟩:=Zu hq0; obtain ⟨_,rfl⟩:=Zu hq1; obtain ⟨_,rfl⟩:=Zu hq2; simp only [Zi,Zp,Zj,Zq] at hp0 hp1 hp2 ⊢; exact (ZsY _ _ _ _ _ _ _ _ _ _ _ _ _ _ _ _ _ _ _ _ _ hp0 hp1 hp2).lift rfl _
 ·cases h
end Go.Vam
