/- A part of the proof. Conditions: none. -/
import Derived.Test.YtmpbpijnbmpbhaaGreatSMf
import Derived.Test.YtmpbpijnbmpbhaaGreatSMb
section
set_option linter.unusedVariables false
set_option linter.defProp false
set_option linter.unusedSimpArgs false
set_option maxRecDepth 40000
set_option maxHeartbeats 4000000
namespace Go.Vam
open Go.Proofs
open Nat renaming reduceShiftRight→Ya,reduceMod→Yb,reduceEqDiff→Yc,reduceLT→Yd,reduceLeDiff→Ye,reduceAdd→Yf,reduceMul→Yg
open Int renaming reduceLE→Yj,reduceLT→Yk,reduceNeg→Yl,reduceAdd→Ym,reduceToNat→Yn
theorem okS.b {x:Sm} {di ch:Int} {k:Nat} (h:okS x di ch k):smB x=true:=(Zac h.v).1
theorem okS.up {x:Sm} {di ch:Int} {k:Nat} (h:okS x di ch k):okS x di ch (k+1) :=
 ⟨h.v,h.d,h.c,h.ll,h.gl,by have:=h.wr; omega,by have:=h.pl; omega,by have:=h.mi; omega,by have:=h.pp; omega⟩
theorem ZKm {x y:Rs} (hx:rsV x=true) (hy:rsV y=true) (hc:y.c=x.c) (hl:y.l.length≤x.l.length) (hx2:x.l.length≤1000000):waN y≤waN x:=by
 have e1:=(ZcK hx hx2).1
 have e2:=(ZcK hy (by omega)).1
 rw [e1,e2,hc]
 exact Int.ofNat_le.2 (Nat.div_le_div_right hl)
theorem ZK4 {x:Sm} {di ch k:Int} {n:Nat} {y:List Int} (h:okS x di ch n) (hn:n≤1000) (hy:y.length≤1000000) (he:swE x k y=0):okS (swR x k y) di ch (n+1):=by
 have hl:=h.ll
 obtain ⟨a1,a2,a3,a4,a5,a6⟩:=ZD2 (show x.r.l.length≤1000000 by omega) hy he
 have hd:x.di=1:=by unfold smP at a1; simp at a1; exact a1.2
 have hb:=Zaa h.b
 have hs:=ZD3 a2 hy
 obtain ⟨f1,f2,f3⟩:=Zo9 a6 (by omega) hy
 have hfl:=Zuy f2 (by omega)
 have h1:=h.wr; have h2:=h.pl; have h3:=h.mi; have h4:=h.pp
 have e:swR x k y=⟨x.di,if x.st=1∧0 < swN k y then 2 else x.st,x.q,x.s0,feR x.r k y,x.g,x.wr+swN k y,x.pl,x.mi⟩:=by
  unfold swR
  rw [if_pos he,IntWalk.i64_in (x.wr+swN k y) (by omega)]
 have hg:=(Zac h.v).2
 have hg1:waN x.r≤x.q∧noG x.g=true:=by
  rcases hg with hg | hg
  ·exact hg.2
  ·omega
 have hfc:(feR x.r k y).c=x.r.c:=by rw [f1]
 have hfp:(feR x.r k y).p=x.r.p:=by rw [f1]
 have hw:waN (feR x.r k y)=waN x.r+swN k y:=by
  rw [(ZcK f2 (by omega)).1,(ZcK hb.2.2.2.1 (show x.r.l.length≤1000000 by omega)).1,f1]
  obtain ⟨⟨k1,k2⟩,k3,k4,k5⟩:=ZW (ZD hb.2.2.2.1).2 (show x.r.l.length≤1000000 by omega)
  obtain ⟨_,m3,m4,m5⟩:=ZW a2 hy
  rw [a3] at m3 m4
  have hdv:(x.r.l++y).length / x.r.c.toNat=x.r.l.length / x.r.c.toNat+y.length / x.r.c.toNat:=by
   have:(x.r.l++y).length=(x.r.l.length / x.r.c.toNat+y.length / x.r.c.toNat)*x.r.c.toNat:=by rw [List.length_append,Nat.add_mul]; omega
   rw [this,Nat.mul_div_cancel _ (by omega)]
  show (((x.r.l++y).length / x.r.c.toNat:Nat):Int)=_
  rw [hdv,a3]
  unfold swN
  omega
 have hO:smO x=x.q - smN x:=if_neg (by rw [h.v]; decide)
 have hN:smN x=waN x.r:=by unfold smN; rw [if_neg (by rw [h.v]; decide),if_neg (by omega)]
 rw [e]
 refine ⟨ZpN (ZeZ ?_ hb.2.1 hb.2.2.1 f2 (by show (feR x.r k y).p.a=0; rw [hfp]; exact hb.2.2.2.2.1) (by show 0≤x.wr+swN k y; omega) hb.2.2.2.2.2.2.1 hb.2.2.2.2.2.2.2) hd (by show waN (feR x.r k y)≤x.q; omega) hg1.2,h.d,?_,hfl,h.gl,?_,?_,?_,?_⟩
 ·show 1≤(if x.st=1∧0 < swN k y then 2 else x.st)∧(if x.st=1∧0 < swN k y then 2 else x.st)≤7
  split <;> omega
 ·show (feR x.r k y).c=ch
  rw [hfc]; exact h.c
 ·show x.wr+swN k y≤_; omega
 ·show x.pl≤_; omega
 ·show x.mi≤_; omega
 ·show (feR x.r k y).p.p≤_; rw [hfp]; omega
theorem ZMK {x:Sm} {di ch:Int} {n:Nat} {i:Int} (h:okS x di ch n) (hi:poE x.r i=0):rsV (poR x.r i)=true∧(poR x.r i).c=ch∧(poR x.r i).l.length≤524288∧(poR x.r i).p.a=0∧waN (poR x.r i)≤waN x.r∧(poR x.r i).p.p≤62000000003*((n+1:Nat):Int):=by
 have hl:=h.ll
 have hb:=Zaa h.b
 obtain ⟨p1,p2,p3,p4,p5⟩:=ZFc hb.2.2.2.1 (by omega) hi
 have hq:=Zbm (ZD hb.2.2.2.1).1 p5
 have hp:=h.pp
 refine ⟨p1,by rw [p2]; exact h.c,by omega,by rw [p4]; exact hb.2.2.2.2.1,ZKm hb.2.2.2.1 p1 p2 p3 (by omega),?_⟩
 rw [p4]
 show x.r.p.p+qAt x.r.p i≤_
 omega
theorem ZAo {x:Sm} {i:Int} (h:skE x i=0):smV x=true∧x.di=1∧(0≤i∧i≤65536)∧(x.st=3→tkE x.r (skK x i)=0)∧(x.st=5→fiE x.r i=0):=by
 have hP:smP x=true:=by
  cases e:smP x with
  | true=>rfl
  | false=>rw [ZfX e] at h; cases h
 have hr:(decide (i < 0) || decide (65536 < i))=false:=by
  cases e:(decide (i < 0) || decide (65536 < i)) with
  | false=>rfl
  | true=>rw [ZfY hP e] at h; cases h
 have hv:smV x=true∧x.di=1:=by unfold smP at hP; simpa using hP
 rw [Zih hP hr] at h
 simp only [Bool.or_eq_false_iff,decide_eq_false_iff_not] at hr
 refine ⟨hv.1,hv.2,by omega,fun h3=>by rw [if_pos h3] at h; exact h,fun h5=>by rw [if_neg (by omega),if_pos h5] at h; exact h⟩
theorem ZGl {x:Rs} {i:Int} (h:fiE x i=0):rcE x i=0∧poE x (cnt x i)=0:=by
 unfold fiE at h
 split at h
 ·rename_i h1; exact absurd h h1
 ·rename_i h1; exact ⟨by simpa using h1,h⟩
theorem ZK2 {x:Sm} {i:Int} (h:skE x i=0) (hs:x.st=3∨x.st=5):poE x.r (skM x i)=0:=by
 obtain ⟨h1,h2,h3,h4,h5⟩:=ZAo h
 unfold skM
 rcases hs with hs | hs
 ·rw [if_pos hs]; exact (ZqM (h4 hs)).2.1
 ·rw [if_neg (by omega),if_pos hs]; exact (ZGl (h5 hs)).2
theorem ZGY {x:Sm} {i:Int} (h:skE x i=0):0≤skX x i∧skX x i≤65536:=by
 obtain ⟨h1,h2,h3,h4,h5⟩:=ZAo h
 unfold skX
 have:=Zg0 (x:=x) (i:=i) h3.1
 split <;> first | omega | exact ⟨by decide,by decide⟩
theorem ZGZ {x:Sm} {di ch i:Int} {n:Nat} (h:okS x di ch n) (hn:n≤1000) (he:skE x i=0):okS (skR x i) di ch (n+1):=by
 obtain ⟨h1,h2,h3,h4,h5⟩:=ZAo he
 have hb:=Zaa h.b
 have b1:=h.wr; have b2:=h.pl; have b3:=h.mi; have b4:=h.pp
 have hX:=ZGY he
 unfold skR
 rw [if_pos he]
 split
 ·rename_i hs
  obtain ⟨p1,p2,p3,p4,p5,p6⟩:=ZMK h (ZK2 he hs)
  rw [IntWalk.i64_in (x.pl+i) (by omega),IntWalk.i64_in (x.mi+skX x i) (by omega)]
  have hg1:waN x.r≤x.q∧noG x.g=true:=by
   rcases (Zac h.v).2 with hg | hg
   ·exact hg.2
   ·omega
  refine ⟨ZpN (ZeZ ?_ hb.2.1 hb.2.2.1 p1 p4 hb.2.2.2.2.2.1 (by show 0≤x.pl+i; omega) (by show 0≤x.mi+skX x i; omega)) h2 (by show waN (poR x.r (skM x i))≤x.q; omega) hg1.2,h.d,p2,p3,h.gl,?_,?_,?_,p6⟩
  ·show 1≤skS x i∧skS x i≤7
   unfold skS
   split <;> omega
  ·show x.wr≤_; omega
  ·show x.pl+i≤_; omega
  ·show x.mi+skX x i≤_; omega
 ·exact h.up
theorem ZG2 {x:Sm} {i:Int} (h:srE x i=0):smV x=true∧x.di=2∧(0≤i∧i≤65536)∧x.st≠7:=by
 unfold srE at h
 split at h
 ·cases h
 ·split at h
  ·cases h
  ·split at h
   ·cases h
   ·rename_i g1 g2 g3
    simp only [Bool.or_eq_true,decide_eq_true_eq,not_or] at g2
    have hR:smR x=true:=by simpa using g1
    have hv:smV x=true∧x.di=2:=by unfold smR at hR; simpa using hR
    exact ⟨hv.1,hv.2,by omega,g3⟩
theorem ZG1 {x:Sm} (h:smV x=true) (hd:x.di=2):rgV x.g=true∧x.g.q=x.q∧x.g.c=x.r.c:=by
 rcases (Zac h).2 with hg | hg
 ·omega
 ·exact hg.2
theorem ZKY {x:Rg} {i:Int} (h:rgV x=true) (hl:x.l.length≤1000000) (hi:0≤i∧i≤65536):rdE x i=0∧rgV (rdR x i)=true∧(rdR x i).q=x.q∧(rdR x i).c=x.c∧(rdR x i).l.length≤x.l.length∧(rdR x i).w - (rdR x i).r=x.w - x.r - rdN x i:=by
 have he:rdE x i=0:=by
  unfold rdE
  rw [if_neg (by rw [h]; decide),if_neg (by simp only [Bool.or_eq_true,decide_eq_true_eq]; omega)]
 obtain ⟨v1,v2,v3,v4,v5⟩:=ZgZ h
 obtain ⟨⟨k1,k2⟩,k3,k4,k5⟩:=ZW v3 hl
 have e:rdR x i=⟨x.c,x.q,x.w,x.r+rdN x i,x.l.drop ((rdN x i).toNat*x.c.toNat)⟩:=if_pos he
 have hN:0≤rdN x i∧rdN x i≤x.w - x.r:=by unfold rdN; omega
 have hz:(rdN x i).toNat≤x.l.length / x.c.toNat:=by omega
 have hlen:(x.l.drop ((rdN x i).toNat*x.c.toNat)).length=(x.l.length / x.c.toNat - (rdN x i).toNat)*x.c.toNat:=by rw [List.length_drop,Nat.sub_mul,← k3]
 have hdv:(x.l.drop ((rdN x i).toNat*x.c.toNat)).length / x.c.toNat=x.l.length / x.c.toNat - (rdN x i).toNat:=by rw [hlen,Nat.mul_div_cancel _ (by omega)]
 rw [e]
 refine ⟨he,ZkG v1 ⟨by show 0≤x.r+rdN x i; omega,by show x.r+rdN x i≤x.w; omega,v2.2.2⟩ ?_ ?_ ?_,rfl,rfl,by show (x.l.drop _).length≤_; rw [List.length_drop]; omega,by show x.w - (x.r+rdN x i)=_; omega⟩
 ·refine Zbg (z:=x.l.length / x.c.toNat - (rdN x i).toNat) ⟨k1,k2⟩ hlen (by omega) ?_
  rw [List.all_eq_true] at k5 ⊢
  exact fun z hz=>k5 z (List.mem_of_mem_drop hz)
 ·show x.w - (x.r+rdN x i)=(((x.l.drop ((rdN x i).toNat*x.c.toNat)).length / x.c.toNat:Nat):Int)
  rw [hdv]; omega
 ·show x.w - (x.r+rdN x i)≤x.q; omega
theorem ZK3 {x:Sm} {di ch i:Int} {n:Nat} (h:okS x di ch n) (hn:n≤1000) (he:srE x i=0):okS (srR x i) di ch (n+1):=by
 obtain ⟨h1,h2,h3,h4⟩:=ZG2 he
 have hb:=Zaa h.b
 have b1:=h.wr; have b2:=h.pl; have b3:=h.mi; have b4:=h.pp; have b5:=h.gl; have b6:=h.ll
 obtain ⟨g1,g2,g3⟩:=ZG1 h1 h2
 have hN:=ZAr h1 (show x.r.l.length≤1000000 by omega)
 have hi:0≤srN x i∧srN x i≤65536:=by unfold srN; omega
 obtain ⟨d1,d2,d3,d4,d5,d6⟩:=ZKY g1 (by omega) hi
 unfold srR
 rw [if_pos he,IntWalk.i64_in (x.wr+srN x i) (by omega)]
 refine ⟨ZpO (ZeZ hb.1 hb.2.1 hb.2.2.1 hb.2.2.2.1 hb.2.2.2.2.1 (by show 0≤x.wr+srN x i; omega) hb.2.2.2.2.2.2.1 hb.2.2.2.2.2.2.2) h2 d2 (d3.trans g2) (d4.trans g3),h.d,h.c,h.ll,by show (rdR x.g (srN x i)).l.length≤_; omega,by show x.wr+srN x i≤_; omega,by show x.pl≤_; omega,by show x.mi≤_; omega,by show x.r.p.p≤_; omega⟩
theorem ZGu {x:Sm} {k:Int} {y:List Int} (h:gvE x k y=0):smV x=true∧x.di=2∧ZaR k y=true∧k=x.r.c∧(x.st=3→cvE x.r k y=0∧rwE x.g (cvC x.r k y) (cvO x.r k y)=0):=by
 unfold gvE at h
 split at h
 ·cases h
 ·rename_i g1
  split at h
  ·cases h
  ·rename_i g2
   simp only [Bool.or_eq_true,Bool.not_eq_true',not_or,Bool.not_eq_false] at g1
   have hv:smV x=true∧x.di=2:=by have:=g1.1; unfold smR at this; simpa using this
   refine ⟨hv.1,hv.2,g1.2,by simpa using g2,fun h3=>?_⟩
   rw [if_neg (by simpa using h3)] at h
   split at h
   ·rename_i g3; exact absurd h g3
   ·rename_i g3; exact ⟨by simpa using g3,h⟩
theorem ZGW {x:Rg} {k:Int} {y:List Int} (h:rwE x k y=0) (hl:x.l.length≤1000000) (hy:y.length≤1000000):rgV x=true∧ZaR k y=true∧k=x.c∧rgV (rwR x k y)=true∧(rwR x k y).q=x.q∧(rwR x k y).c=x.c∧0≤rwL x k y∧rwL x k y≤65536∧(rwR x k y).l.length≤524288:=by
 have h0:=h
 unfold rwE at h
 split at h
 ·cases h
 ·rename_i g1
  split at h
  ·cases h
  ·rename_i g2
   split at h
   ·cases h
   ·rename_i g3
    simp only [Bool.or_eq_true,Bool.not_eq_true',not_or,Bool.not_eq_false] at g1
    have hk:k=x.c:=by simpa using g2
    obtain ⟨v1,v2,v3,v4,v5⟩:=ZgZ g1.1
    obtain ⟨⟨k1,k2⟩,k3,k4,k5⟩:=ZW v3 hl
    obtain ⟨_,m3,m4,m5⟩:=ZW g1.2 hy
    have hz:0≤rwN x k y∧rwN x k y≤((y.length / k.toNat:Nat):Int)∧rwN x k y≤x.q - (x.w - x.r):=by
     have h9:(0:Int)≤((y.length / k.toNat:Nat):Int):=Int.natCast_nonneg _
     unfold rwN
     generalize ((y.length / k.toNat:Nat):Int)=z at *
     omega
    have e:rwR x k y=⟨x.c,x.q,x.w+rwN x k y,x.r,x.l++y.take ((rwN x k y).toNat*k.toNat)⟩:=if_pos h0
    have e2:rwL x k y=((y.length / k.toNat:Nat):Int) - rwN x k y:=if_pos h0
    have htk:(y.take ((rwN x k y).toNat*k.toNat)).length=(rwN x k y).toNat*k.toNat:=by
     rw [List.length_take]
     have:(rwN x k y).toNat*k.toNat≤y.length / k.toNat*k.toNat:=Nat.mul_le_mul_right _ (by omega)
     omega
    have hlen:(x.l++y.take ((rwN x k y).toNat*k.toNat)).length=(x.l.length / x.c.toNat+(rwN x k y).toNat)*x.c.toNat:=by rw [List.length_append,htk,Nat.add_mul,hk]; omega
    have hdv:(x.l++y.take ((rwN x k y).toNat*k.toNat)).length / x.c.toNat=x.l.length / x.c.toNat+(rwN x k y).toNat:=by rw [hlen,Nat.mul_div_cancel _ (by omega)]
    have hbig:=Nat.mul_le_mul (show x.l.length / x.c.toNat+(rwN x k y).toNat≤65536 by omega) (show x.c.toNat≤8 by omega)
    rw [e,e2]
    refine ⟨g1.1,g1.2,hk,ZkG v1 ⟨v2.1,by show x.r≤x.w+rwN x k y; omega,by show x.w+rwN x k y≤_; omega⟩ ?_ ?_ (by show x.w+rwN x k y - x.r≤x.q; omega),rfl,rfl,by omega,by omega,by show (x.l++_).length≤_; rw [hlen]; omega⟩
    ·refine Zbg (z:=x.l.length / x.c.toNat+(rwN x k y).toNat) ⟨k1,k2⟩ hlen (by omega) ?_
     rw [List.all_append,k5,Bool.true_and,List.all_eq_true]
     rw [List.all_eq_true] at m5
     exact fun z hz=>m5 z (List.mem_of_mem_take hz)
    ·show x.w+rwN x k y - x.r=(((x.l++y.take ((rwN x k y).toNat*k.toNat)).length / x.c.toNat:Nat):Int)
     rw [hdv]; omega
theorem ZKM {x:Sm} {di ch k:Int} {y:List Int} {n:Nat} (h:okS x di ch n) (hn:n≤1000) (hy:y.length≤1000000) (he:gvE x k y=0):okS (gvR x k y) di ch (n+1):=by
 obtain ⟨h1,h2,h3,h4,h5⟩:=ZGu he
 have hb:=Zaa h.b
 have b1:=h.wr; have b2:=h.pl; have b3:=h.mi; have b4:=h.pp; have b5:=h.gl; have b6:=h.ll
 have hs:=ZD3 h3 hy
 unfold gvR
 rw [if_pos he]
 split
 ·rename_i hst
  obtain ⟨c1,c2⟩:=h5 hst
  obtain ⟨g1,g2,g3⟩:=ZG1 h1 h2
  have hcl:=Zy3 (show x.r.l.length≤1000000 by omega) hy c1
  obtain ⟨w1,w2,w3,w4,w5,w6,w7,w8,hgl⟩:=ZGW c2 (by omega) (by omega)
  obtain ⟨t1,t2⟩:=ZDB c1
  obtain ⟨f1,f2,f3⟩:=Zo9 t1 (by omega) hy
  obtain ⟨p1,p2,p3,p4,p5⟩:=ZFc f2 (by omega) (ZqM t2).2.1
  have hq:=Zbm (ZD f2).1 p5
  have ec:cvR x.r k y=poR (feR x.r k y) (cvN x.r k y):=if_pos c1
  have hL:gvL x k y=rwL x.g (cvC x.r k y) (cvO x.r k y):=if_pos ⟨he,hst⟩
  have hrl:=Zuy f2 (by omega)
  have hcc:(cvR x.r k y).c=x.r.c:=by rw [ec,p2,f1]
  have hcp:(cvR x.r k y).p=⟨x.r.p.n,x.r.p.d,x.r.p.a,x.r.p.p+qAt (feR x.r k y).p (cvN x.r k y),fAt (feR x.r k y).p (cvN x.r k y)⟩:=by rw [ec,p4,f1]
  rw [IntWalk.i64_in (x.pl+swN k y) (by omega),hL,IntWalk.i64_in (x.mi+_) (by omega)]
  refine ⟨ZpO (ZeZ hb.1 hb.2.1 hb.2.2.1 (by show rsV (cvR x.r k y)=true; rw [ec]; exact p1) (by show (cvR x.r k y).p.a=0; rw [hcp]; exact hb.2.2.2.2.1) hb.2.2.2.2.2.1 (by show 0≤x.pl+swN k y; omega) (by show 0≤x.mi+rwL x.g (cvC x.r k y) (cvO x.r k y); omega)) h2 w4 (w5.trans g2) (w6.trans (g3.trans hcc.symm)),h.d,hcc.trans h.c,by show (cvR x.r k y).l.length≤_; rw [ec]; omega,hgl,by show x.wr≤_; omega,by show x.pl+swN k y≤_; omega,by show x.mi+rwL x.g (cvC x.r k y) (cvO x.r k y)≤_; omega,?_⟩
  show (cvR x.r k y).p.p≤_
  rw [hcp]
  show x.r.p.p+qAt (feR x.r k y).p (cvN x.r k y)≤_
  omega
 ·exact h.up
theorem ZGP {x:Rs} (h:rsV x=true) (hl:x.l.length≤1000000):nwR x.c x.p.n x.p.d=⟨x.c,⟨x.p.n,x.p.d,0,0,0⟩,[]⟩∧rsV ⟨x.c,⟨x.p.n,x.p.d,0,0,0⟩,[]⟩=true:=by
 obtain ⟨⟨k1,k2⟩,k3,k4,k5⟩:=ZW (ZD h).2 hl
 have hp:=(ZD h).1
 have hpr:=ZcG hp
 have h1:=Zz4 hp (a:=0) ⟨by decide,by decide⟩
 have h2:phV ⟨x.p.n,x.p.d,0,0,0⟩=true:=Zz5 h1 (P:=0) (F:=0) ⟨by decide,by decide⟩ ⟨by decide,by show 0 < prt x.p; omega⟩
 have h3:rsV ⟨x.c,⟨x.p.n,x.p.d,0,0,0⟩,[]⟩=true:=by
  unfold rsV
  rw [h2,ZcB ⟨k1,k2⟩]
  rfl
 exact ⟨if_pos h3,h3⟩
theorem ZKX {x:Rg} (h:rgV x=true) (hl:x.l.length≤1000000):rcL x=⟨x.c,x.q,x.w,x.w,[]⟩∧rgV ⟨x.c,x.q,x.w,x.w,[]⟩=true:=by
 obtain ⟨v1,v2,v3,v4,v5⟩:=ZgZ h
 obtain ⟨⟨k1,k2⟩,k3,k4,k5⟩:=ZW v3 hl
 exact ⟨if_pos h,ZkG v1 ⟨by show 0≤x.w; omega,Int.le_refl _,v2.2.2⟩ (ZcB ⟨k1,k2⟩) (by simp) (by show x.w - x.w≤x.q; omega)⟩
theorem ZGX {x:Sm} {di ch s:Int} {n:Nat} (h:okS x di ch n) (hs:1≤s∧s≤7):okS (ZuE x s) di ch n:=by
 have hb:=Zaa h.b
 have hB:smB (ZuE x s)=true:=ZeZ hs hb.2.1 hb.2.2.1 hb.2.2.2.1 hb.2.2.2.2.1 hb.2.2.2.2.2.1 hb.2.2.2.2.2.2.1 hb.2.2.2.2.2.2.2
 refine ⟨?_,h.d,h.c,h.ll,h.gl,h.wr,h.pl,h.mi,h.pp⟩
 rcases (Zac h.v).2 with hg | hg
 ·exact ZpN hB hg.1 hg.2.1 hg.2.2
 ·exact ZpO hB hg.1 hg.2.1 hg.2.2.1 hg.2.2.2
theorem ZEF {x:Sm} {di ch:Int} {n:Nat} (h:okS x di ch n):okS (smE x) di ch n∧smN (smE x)=0:=by
 have hb:=Zaa h.b
 have hl:=h.ll; have hgl:=h.gl; have hpp:=h.pp
 obtain ⟨e1,e2⟩:=ZGP hb.2.2.2.1 (by omega)
 have w0:waN ⟨x.r.c,⟨x.r.p.n,x.r.p.d,0,0,0⟩,[]⟩=0:=by rw [(ZcK e2 (Nat.zero_le _)).1]; simp
 have hn0:(0:Int)≤62000000003*(n:Int):=by omega
 rcases (Zac h.v).2 with hg | hg
 ·have e:smE x=⟨x.di,x.st,x.q,x.s0,⟨x.r.c,⟨x.r.p.n,x.r.p.d,0,0,0⟩,[]⟩,x.g,x.wr,x.pl,x.mi⟩:=by
   unfold smE
   rw [e1,if_neg (by omega)]
  rw [e]
  have hv:=ZpN (x:=⟨x.di,x.st,x.q,x.s0,⟨x.r.c,⟨x.r.p.n,x.r.p.d,0,0,0⟩,[]⟩,x.g,x.wr,x.pl,x.mi⟩) (ZeZ hb.1 hb.2.1 hb.2.2.1 e2 rfl hb.2.2.2.2.2.1 hb.2.2.2.2.2.2.1 hb.2.2.2.2.2.2.2) hg.1 (by rw [w0]; show 0≤x.q; omega) hg.2.2
  refine ⟨⟨hv,h.d,h.c,Nat.zero_le _,h.gl,h.wr,h.pl,h.mi,hn0⟩,?_⟩
  unfold smN
  rw [if_neg (by rw [hv]; decide),if_neg (by show ¬ x.di=2; omega)]
  exact w0
 ·obtain ⟨r1,r2⟩:=ZKX hg.2.1 (show x.g.l.length≤1000000 by omega)
  have e:smE x=⟨x.di,x.st,x.q,x.s0,⟨x.r.c,⟨x.r.p.n,x.r.p.d,0,0,0⟩,[]⟩,⟨x.g.c,x.g.q,x.g.w,x.g.w,[]⟩,x.wr,x.pl,x.mi⟩:=by
   unfold smE
   rw [e1,if_pos hg.1,r1]
  rw [e]
  have hv:=ZpO (x:=⟨x.di,x.st,x.q,x.s0,⟨x.r.c,⟨x.r.p.n,x.r.p.d,0,0,0⟩,[]⟩,⟨x.g.c,x.g.q,x.g.w,x.g.w,[]⟩,x.wr,x.pl,x.mi⟩) (ZeZ hb.1 hb.2.1 hb.2.2.1 e2 rfl hb.2.2.2.2.2.1 hb.2.2.2.2.2.2.1 hb.2.2.2.2.2.2.2) hg.1 r2 hg.2.2.1 hg.2.2.2
  refine ⟨⟨hv,h.d,h.c,Nat.zero_le _,Nat.zero_le _,h.wr,h.pl,h.mi,hn0⟩,?_⟩
  unfold smN
  rw [if_neg (by rw [hv]; decide),if_pos (show x.di=2 from hg.1)]
  unfold rgN
  rw [if_pos r2]
  show x.g.w - x.g.w=0
  omega
theorem ZGi {x:Sm} {k:Int} (h:1≤x.st∧x.st≤7):1≤doT x k∧doT x k≤7:=by
 unfold doT
 repeat' split
 all_goals omega
theorem ZKI {x:Sm} {di ch k:Int} {n:Nat} (h:okS x di ch n) (he:doE x k=0):okS (doR x k) di ch n:=by
 have hs:=ZGX h (ZGi (k:=k) (Zaa h.b).1)
 unfold doR
 rw [if_pos he]
 split
 ·exact (ZEF hs).1
 ·exact hs
def acT (i:Nat):Int:=([1,1,2,3,4,5,6,7]:List Int)[i]?.getD 0
def acE (l:List UInt8) (x:Sm):Int :=
 if dN l 4=0 then swE x x.r.c (waO 1 x.r.c 0 (dN (dT l 4) 40).toNat)
 else if dN l 4=1 then (if x.di=1 then skE x (dN (dT l 4) 30) else gvE x x.r.c (waO 2 x.r.c 0 (dN (dT l 4) 30).toNat))
 else if dN l 4=2 then srE x (dN (dT l 4) 30)
 else doE x (acT (dN (dT l 4) 8).toNat)
def acR (l:List UInt8) (x:Sm):Sm :=
 if dN l 4=0 then swR x x.r.c (waO 1 x.r.c 0 (dN (dT l 4) 40).toNat)
 else if dN l 4=1 then (if x.di=1 then skR x (dN (dT l 4) 30) else gvR x x.r.c (waO 2 x.r.c 0 (dN (dT l 4) 30).toNat))
 else if dN l 4=2 then srR x (dN (dT l 4) 30)
 else doR x (acT (dN (dT l 4) 8).toNat)
def acX (l:List UInt8) (x:Sm):Sm:=if acE l x=0 then acR l x else x
def acD (l:List UInt8):List UInt8:=dT (dT l 4) (if dN l 4=0 then 40 else if dN l 4=1 then 30 else if dN l 4=2 then 30 else 8)
theorem ZuM (s:Int) {ch:Int} (hc:1≤ch∧ch≤8) {k:Nat} (hk:k≤65536):(waO s ch 0 k).length≤524288:=by
 have:=Nat.mul_le_mul hk (show ch.toNat≤8 by omega)
 rw [Zti]
 omega
theorem okS.ch {x:Sm} {di ch:Int} {n:Nat} (h:okS x di ch n):1≤ch∧ch≤8:=by
 have hl:=h.ll
 have h1:=(ZW (ZD (Zaa h.b).2.2.2.1).2 (show x.r.l.length≤1000000 by omega)).1
 rw [h.c] at h1
 exact h1
theorem ZKz {l:List UInt8} {x:Sm} {di ch:Int} {n:Nat} (h:okS x di ch n) (hn:n≤1000):okS (acX l x) di ch (n+1):=by
 have hc:1≤x.r.c∧x.r.c≤8:=by rw [h.c]; exact h.ch
 have d1:=Zfn (dT l 4) 40 (by decide)
 have d2:=Zfn (dT l 4) 30 (by decide)
 have w1:=ZuM 1 hc (k:=(dN (dT l 4) 40).toNat) (by omega)
 have w2:=ZuM 2 hc (k:=(dN (dT l 4) 30).toNat) (by omega)
 unfold acX
 split
 ·rename_i he
  unfold acE at he
  unfold acR
  split at he
  ·rename_i g; rw [if_pos g]; exact ZK4 h hn (by omega) he
  ·rename_i g1; rw [if_neg g1]
   split at he
   ·rename_i g2; rw [if_pos g2]
    split at he
    ·rename_i g3; rw [if_pos g3]; exact ZGZ h hn he
    ·rename_i g3; rw [if_neg g3]; exact ZKM h hn (by omega) he
   ·rename_i g2; rw [if_neg g2]
    split at he
    ·rename_i g3; rw [if_pos g3]; exact ZK3 h hn he
    ·rename_i g3; rw [if_neg g3]; exact (ZKI h he).up
 ·exact h.up
def msB (l:List UInt8):List UInt8:=baR (dT l 2)
def msP (l:List UInt8):Int:=1+dN (msB l) 200
def msM (l:List UInt8):Int:=(if msP l < 6 then msP l else 6)+1
def msI (l:List UInt8) (di:Int):Sm:=⟨di,1,msP l,dN (dT (msB l) 200) (msM l),⟨1+dN l 2,⟨baN (dT l 2),baD (dT l 2),0,0,0⟩,[]⟩,if di=2 then ⟨1+dN l 2,msP l,0,0,[]⟩ else rg0,0,0,0⟩
def msD (l:List UInt8):List UInt8:=dT (dT (msB l) 200) (msM l)
def msN (l:List UInt8):Nat:=(dN (msD l) 7).toNat
def msQ (l:List UInt8):Nat→List UInt8
 | 0=>dT (msD l) 7
 | k+1=>acD (msQ l k)
def msS (l:List UInt8) (di:Int):Nat→Sm
 | 0=>msI l di
 | k+1=>acX (msQ l k) (msS l di k)
def msX (l:List UInt8) (di:Int):Sm:=msS l di (msN l)
def msR (l:List UInt8):List UInt8:=msQ l (msN l)
theorem Zpv (l:List UInt8):1≤msP l∧msP l≤200:=by
 have h1:=Zfn (msB l) 200 (by decide)
 have h2:=ZhC (msB l) 200
 unfold msP
 omega
theorem ZDQ (l:List UInt8):2≤msM l∧msM l≤msP l+1∧msM l≤7:=by
 have h1:=Zpv l
 unfold msM
 split <;> omega
theorem ZzO (l:List UInt8):1≤1+dN l 2∧1+dN l 2≤8:=by
 have h1:=Zfn l 2 (by decide)
 have h2:=ZhC l 2
 omega
theorem msV (l:List UInt8):rsV ⟨1+dN l 2,⟨baN (dT l 2),baD (dT l 2),0,0,0⟩,[]⟩=true:=by
 unfold rsV
 rw [ZKB,ZcB (ZzO l)]
 rfl
theorem msW (l:List UInt8):waN ⟨1+dN l 2,⟨baN (dT l 2),baD (dT l 2),0,0,0⟩,[]⟩=0:=by rw [(ZcK (msV l) (Nat.zero_le _)).1]; simp
theorem ZGD (l:List UInt8) {di:Int} (hd:di=1∨di=2):okS (msI l di) di (1+dN l 2) 0:=by
 have h1:=Zpv l
 have h2:=ZDQ l
 have h3:=Zfn (dT (msB l) 200) (msM l) (by omega)
 have h4:=ZhC (dT (msB l) 200) (msM l)
 have hB:smB (msI l di)=true:=ZeZ ⟨by show (1:Int)≤1; decide,by show (1:Int)≤7; decide⟩ ⟨h1.1,by show msP l≤_; omega⟩ ⟨h4,by show dN (dT (msB l) 200) (msM l)≤msP l; omega⟩ (msV l) rfl (by show (0:Int)≤0; decide) (by show (0:Int)≤0; decide) (by show (0:Int)≤0; decide)
 rcases hd with rfl | rfl
 ·exact ⟨ZpN hB rfl (by show waN ⟨1+dN l 2,⟨baN (dT l 2),baD (dT l 2),0,0,0⟩,[]⟩≤msP l; rw [msW]; omega) rfl,rfl,rfl,Nat.zero_le _,Nat.zero_le _,by show (0:Int)≤70000*((0:Nat):Int); decide,by show (0:Int)≤70000*((0:Nat):Int); decide,by show (0:Int)≤70000*((0:Nat):Int); decide,by show (0:Int)≤62000000003*((0:Nat):Int); decide⟩
 ·refine ⟨ZpO hB rfl (ZkG ⟨h1.1,by show msP l≤_; omega⟩ ⟨by show (0:Int)≤0; decide,by show (0:Int)≤0; decide,by show (0:Int)≤1125899906842624; decide⟩ (ZcB (ZzO l)) (by simp [msI]) (by show (0:Int) - 0≤msP l; omega)) rfl rfl,rfl,rfl,Nat.zero_le _,Nat.zero_le _,by show (0:Int)≤70000*((0:Nat):Int); decide,by show (0:Int)≤70000*((0:Nat):Int); decide,by show (0:Int)≤70000*((0:Nat):Int); decide,by show (0:Int)≤62000000003*((0:Nat):Int); decide⟩
theorem ZzP (l:List UInt8):msN l≤6:=by
 have h1:=Zfn (msD l) 7 (by decide)
 unfold msN
 omega
theorem ZzQ (l:List UInt8) {di:Int} (hd:di=1∨di=2):∀ k,k≤900→okS (msS l di k) di (1+dN l 2) k
 | 0,_=>ZGD l hd
 | k+1,h=>ZKz (ZzQ l hd k (by omega)) (by omega)
theorem ZGF (l:List UInt8) {di:Int} (hd:di=1∨di=2):okS (msX l di) di (1+dN l 2) (msN l):=ZzQ l hd _ (by have:=ZzP l; omega)
theorem ac0 {l:List UInt8} {x:Sm} (h:dN l 4=0):acX l x=(if swE x x.r.c (waO 1 x.r.c 0 (dN (dT l 4) 40).toNat)=0 then swR x x.r.c (waO 1 x.r.c 0 (dN (dT l 4) 40).toNat) else x)∧acD l=dT (dT l 4) 40:=by
 unfold acX acE acR acD
 simp only [if_pos h]
 exact ⟨trivial,trivial⟩
theorem ac1 {l:List UInt8} {x:Sm} (h:dN l 4=1) (hd:x.di=1):acX l x=(if skE x (dN (dT l 4) 30)=0 then skR x (dN (dT l 4) 30) else x)∧acD l=dT (dT l 4) 30:=by
 have h0:¬ dN l 4=0:=by omega
 unfold acX acE acR acD
 simp only [if_neg h0,if_pos h,if_pos hd]
 exact ⟨trivial,trivial⟩
theorem ZKq {l:List UInt8} {x:Sm} (h:dN l 4=1) (hd:¬ x.di=1):acX l x=(if gvE x x.r.c (waO 2 x.r.c 0 (dN (dT l 4) 30).toNat)=0 then gvR x x.r.c (waO 2 x.r.c 0 (dN (dT l 4) 30).toNat) else x)∧acD l=dT (dT l 4) 30:=by
 have h0:¬ dN l 4=0:=by omega
 unfold acX acE acR acD
 simp only [if_neg h0,if_pos h,if_neg hd]
 exact ⟨trivial,trivial⟩
theorem ac2 {l:List UInt8} {x:Sm} (h:dN l 4=2):acX l x=(if srE x (dN (dT l 4) 30)=0 then srR x (dN (dT l 4) 30) else x)∧acD l=dT (dT l 4) 30:=by
 have h0:¬ dN l 4=0:=by omega
 have h1:¬ dN l 4=1:=by omega
 unfold acX acE acR acD
 simp only [if_neg h0,if_neg h1,if_pos h]
 exact ⟨trivial,trivial⟩
theorem ac3 {l:List UInt8} {x:Sm} (h0:¬ dN l 4=0) (h1:¬ dN l 4=1) (h2:¬ dN l 4=2):acX l x=(if doE x (acT (dN (dT l 4) 8).toNat)=0 then doR x (acT (dN (dT l 4) 8).toNat) else x)∧acD l=dT (dT l 4) 8:=by
 unfold acX acE acR acD
 simp only [if_neg h0,if_neg h1,if_neg h2]
 exact ⟨trivial,trivial⟩
theorem Zwj (u:List UInt8) (di st q s0 c n d a p f:Int) (l:List Int) (gc gq gw gr:Int) (gl:List Int) (wr pl mi:Int) (hl:l.length≤1000000) (hg:gl.length≤1000000) (hc:1≤c∧c≤8):Spec Tryz.prog 0 70 [.c (.lp ⟨0,0⟩ 0),.agg [.d (.int .i64 di),.d (.int .i64 st),.d (.int .i64 q),.d (.int .i64 s0),.d (.int .i64 c),.d (.int .i64 n),.d (.int .i64 d),.d (.int .i64 a),.d (.int .i64 p),.d (.int .i64 f),.d (.list (LI .i32 l)),.d (.int .i64 gc),.d (.int .i64 gq),.d (.int .i64 gw),.d (.int .i64 gr),.d (.list (LI .i32 gl)),.d (.int .i64 wr),.d (.int .i64 pl),.d (.int .i64 mi)]] [(⟨0,0⟩,[.d (.list (LB u))])] [] (.agg (smC (acX u ⟨di,st,q,s0,⟨c,⟨n,d,a,p,f⟩,l⟩,⟨gc,gq,gw,gr,gl⟩,wr,pl,mi⟩))) [(⟨0,0⟩,[.d (.list (LB (acD u)))])] []:=by
 refine spec_of_E (X:=⟨Tryz.prog,tt,Tryz.f70.ntmps,1,fun _=>0,(tab [(21,ZhT),(147,ZoI),(146,ZeI),(148,ZgE),(149,ZgB),(150,ZgC),(151,Zop)])⟩) (M:=[(5,[0,0,0,0,0,1181168081624145855099,0,0,0,0,0,1181168081620039631483,0]),(9,[0,0,0,0,0,1181666151587034169979,0,0,0,0,0,1181600427179972231803,0,0]),(3,[0,0,0,0,0,1181168081615745650299,0,0,0,0,0,0])]) (m:=1181168081615744664187) rfl rfl ⟨Zah,ZU (Za Zgp (Za Zyg (Za Zot (Za ZrG (Za ZrA (Za ZrC (Za Zx2 Zb))))))) _ rfl rfl⟩ ZB Tryz.func70 rfl (by decide) (by show (2:Nat)≤_; exact Nat.le_of_ble_eq_true rfl) ⟨by simp [V.has,C.has,Z6,ZH],by simp [C.has],by simp⟩ ?_
 simp (maxSteps:=1000000) only [↓Zo,Ze,Zd,Zn,gSt,gS0,Ya,Yb,↓reduceIte,reduceCtorEq,Yc,Yd,Ye,Yf,Yg,Yj,Yk,Yl,Ym,Yn,Zbz,Zyf,Zos,ZrF,Zrz,ZrB,Zx1,gE1,gE2,gE3,ZM,Zs,ZF,Zr,ZN,Zz,ZL,Zt,Zm,ZG,ZE,ZC,gi8,Tryz.ntmps70,Tryz.results70,gTT]
 have a1:=Zfn (dT u 4) 40 (by decide)
 have a2:=ZhC (dT u 4) 40
 have b1:=Zfn (dT u 4) 30 (by decide)
 have b2:=ZhC (dT u 4) 30
 have c1:=Zfn (dT u 4) 8 (by decide)
 have c2:=ZhC (dT u 4) 8
 have w1:=ZuM 1 hc (k:=(dN (dT u 4) 40).toNat) (by omega)
 have w2:=ZuM 2 hc (k:=(dN (dT u 4) 30).toNat) (by omega)
 refine ⟨fun h0=>⟨by kernel_rfl,⟨⟨by omega,by omega⟩,by omega,by omega⟩,⟨hl,hg,by omega⟩,fun h5=>?_,fun h5=>?_⟩,fun h0=>⟨fun h1=>⟨fun hd=>⟨by kernel_rfl,⟨hl,hg⟩,fun h5=>?_,fun h5=>?_⟩,fun hd=>⟨by kernel_rfl,⟨⟨by omega,by omega⟩,by omega,by omega⟩,⟨hl,hg,by omega⟩,fun h5=>?_,fun h5=>?_⟩⟩,fun h1=>⟨fun h2=>⟨by kernel_rfl,⟨hl,hg⟩,fun h5=>?_,fun h5=>?_⟩,fun h2=>⟨by kernel_rfl,⟨c2,by omega⟩,⟨hl,hg⟩,fun h5=>?_,fun h5=>?_⟩⟩⟩⟩
 ·have e:=(ac0 (x:=⟨di,st,q,s0,⟨c,⟨n,d,a,p,f⟩,l⟩,⟨gc,gq,gw,gr,gl⟩,wr,pl,mi⟩) (by simpa using h0)).1
  have ed:=(ac0 (x:=⟨di,st,q,s0,⟨c,⟨n,d,a,p,f⟩,l⟩,⟨gc,gq,gw,gr,gl⟩,wr,pl,mi⟩) (by simpa using h0)).2
  try simp only at e
  try unfold acT at e
  rw [if_neg (by simpa using h5)] at e
  rw [e,ed]
  exact ⟨⟨rfl,rfl,rfl,rfl,rfl,rfl,rfl,rfl,rfl,rfl,rfl,rfl,rfl,rfl,rfl,rfl,rfl,rfl,rfl⟩,rfl⟩
 ·have e:=(ac0 (x:=⟨di,st,q,s0,⟨c,⟨n,d,a,p,f⟩,l⟩,⟨gc,gq,gw,gr,gl⟩,wr,pl,mi⟩) (by simpa using h0)).1
  have ed:=(ac0 (x:=⟨di,st,q,s0,⟨c,⟨n,d,a,p,f⟩,l⟩,⟨gc,gq,gw,gr,gl⟩,wr,pl,mi⟩) (by simpa using h0)).2
  try simp only at e
  try unfold acT at e
  rw [if_pos (by simpa using h5)] at e
  rw [e,ed]
  exact ⟨⟨rfl,rfl,rfl,rfl,rfl,rfl,rfl,rfl,rfl,rfl,rfl,rfl,rfl,rfl,rfl,rfl,rfl,rfl,rfl⟩,rfl⟩
 ·have e:=(ac1 (x:=⟨di,st,q,s0,⟨c,⟨n,d,a,p,f⟩,l⟩,⟨gc,gq,gw,gr,gl⟩,wr,pl,mi⟩) (by simpa using h1) (by simpa using hd)).1
  have ed:=(ac1 (x:=⟨di,st,q,s0,⟨c,⟨n,d,a,p,f⟩,l⟩,⟨gc,gq,gw,gr,gl⟩,wr,pl,mi⟩) (by simpa using h1) (by simpa using hd)).2
  try simp only at e
  try unfold acT at e
  rw [if_neg (by simpa using h5)] at e
  rw [e,ed]
  exact ⟨⟨rfl,rfl,rfl,rfl,rfl,rfl,rfl,rfl,rfl,rfl,rfl,rfl,rfl,rfl,rfl,rfl,rfl,rfl,rfl⟩,rfl⟩
 ·have e:=(ac1 (x:=⟨di,st,q,s0,⟨c,⟨n,d,a,p,f⟩,l⟩,⟨gc,gq,gw,gr,gl⟩,wr,pl,mi⟩) (by simpa using h1) (by simpa using hd)).1
  have ed:=(ac1 (x:=⟨di,st,q,s0,⟨c,⟨n,d,a,p,f⟩,l⟩,⟨gc,gq,gw,gr,gl⟩,wr,pl,mi⟩) (by simpa using h1) (by simpa using hd)).2
  try simp only at e
  try unfold acT at e
  rw [if_pos (by simpa using h5)] at e
  rw [e,ed]
  exact ⟨⟨rfl,rfl,rfl,rfl,rfl,rfl,rfl,rfl,rfl,rfl,rfl,rfl,rfl,rfl,rfl,rfl,rfl,rfl,rfl⟩,rfl⟩
 ·have e:=(ZKq (x:=⟨di,st,q,s0,⟨c,⟨n,d,a,p,f⟩,l⟩,⟨gc,gq,gw,gr,gl⟩,wr,pl,mi⟩) (by simpa using h1) (by simpa using hd)).1
  have ed:=(ZKq (x:=⟨di,st,q,s0,⟨c,⟨n,d,a,p,f⟩,l⟩,⟨gc,gq,gw,gr,gl⟩,wr,pl,mi⟩) (by simpa using h1) (by simpa using hd)).2
  try simp only at e
  try unfold acT at e
  rw [if_neg (by simpa using h5)] at e
  rw [e,ed]
  exact ⟨⟨rfl,rfl,rfl,rfl,rfl,rfl,rfl,rfl,rfl,rfl,rfl,rfl,rfl,rfl,rfl,rfl,rfl,rfl,rfl⟩,rfl⟩
 ·have e:=(ZKq (x:=⟨di,st,q,s0,⟨c,⟨n,d,a,p,f⟩,l⟩,⟨gc,gq,gw,gr,gl⟩,wr,pl,mi⟩) (by simpa using h1) (by simpa using hd)).1
  have ed:=(ZKq (x:=⟨di,st,q,s0,⟨c,⟨n,d,a,p,f⟩,l⟩,⟨gc,gq,gw,gr,gl⟩,wr,pl,mi⟩) (by simpa using h1) (by simpa using hd)).2
  try simp only at e
  try unfold acT at e
  rw [if_pos (by simpa using h5)] at e
  rw [e,ed]
  exact ⟨⟨rfl,rfl,rfl,rfl,rfl,rfl,rfl,rfl,rfl,rfl,rfl,rfl,rfl,rfl,rfl,rfl,rfl,rfl,rfl⟩,rfl⟩
 ·have e:=(ac2 (x:=⟨di,st,q,s0,⟨c,⟨n,d,a,p,f⟩,l⟩,⟨gc,gq,gw,gr,gl⟩,wr,pl,mi⟩) (by simpa using h2)).1
  have ed:=(ac2 (x:=⟨di,st,q,s0,⟨c,⟨n,d,a,p,f⟩,l⟩,⟨gc,gq,gw,gr,gl⟩,wr,pl,mi⟩) (by simpa using h2)).2
  try simp only at e
  try unfold acT at e
  rw [if_neg (by simpa using h5)] at e
  rw [e,ed]
  exact ⟨⟨rfl,rfl,rfl,rfl,rfl,rfl,rfl,rfl,rfl,rfl,rfl,rfl,rfl,rfl,rfl,rfl,rfl,rfl,rfl⟩,rfl⟩
 ·have e:=(ac2 (x:=⟨di,st,q,s0,⟨c,⟨n,d,a,p,f⟩,l⟩,⟨gc,gq,gw,gr,gl⟩,wr,pl,mi⟩) (by simpa using h2)).1
  have ed:=(ac2 (x:=⟨di,st,q,s0,⟨c,⟨n,d,a,p,f⟩,l⟩,⟨gc,gq,gw,gr,gl⟩,wr,pl,mi⟩) (by simpa using h2)).2
  try simp only at e
  try unfold acT at e
  rw [if_pos (by simpa using h5)] at e
  rw [e,ed]
  exact ⟨⟨rfl,rfl,rfl,rfl,rfl,rfl,rfl,rfl,rfl,rfl,rfl,rfl,rfl,rfl,rfl,rfl,rfl,rfl,rfl⟩,rfl⟩
 ·have e:=(ac3 (x:=⟨di,st,q,s0,⟨c,⟨n,d,a,p,f⟩,l⟩,⟨gc,gq,gw,gr,gl⟩,wr,pl,mi⟩) (by simpa using h0) (by simpa using h1) (by simpa using h2)).1
  have ed:=(ac3 (x:=⟨di,st,q,s0,⟨c,⟨n,d,a,p,f⟩,l⟩,⟨gc,gq,gw,gr,gl⟩,wr,pl,mi⟩) (by simpa using h0) (by simpa using h1) (by simpa using h2)).2
  try simp only at e
  try unfold acT at e
  rw [if_neg (by simpa using h5)] at e
  rw [e,ed]
  exact ⟨⟨rfl,rfl,rfl,rfl,rfl,rfl,rfl,rfl,rfl,rfl,rfl,rfl,rfl,rfl,rfl,rfl,rfl,rfl,rfl⟩,rfl⟩
 ·have e:=(ac3 (x:=⟨di,st,q,s0,⟨c,⟨n,d,a,p,f⟩,l⟩,⟨gc,gq,gw,gr,gl⟩,wr,pl,mi⟩) (by simpa using h0) (by simpa using h1) (by simpa using h2)).1
  have ed:=(ac3 (x:=⟨di,st,q,s0,⟨c,⟨n,d,a,p,f⟩,l⟩,⟨gc,gq,gw,gr,gl⟩,wr,pl,mi⟩) (by simpa using h0) (by simpa using h1) (by simpa using h2)).2
  try simp only at e
  try unfold acT at e
  rw [if_pos (by simpa using h5)] at e
  rw [e,ed]
  exact ⟨⟨rfl,rfl,rfl,rfl,rfl,rfl,rfl,rfl,rfl,rfl,rfl,rfl,rfl,rfl,rfl,rfl,rfl,rfl,rfl⟩,rfl⟩
 
def ZiI:List V→Zf→Zw→Name→Option Ent
 | [.c (.lp n0 0),.agg [.d (.int .i64 di),.d (.int .i64 st),.d (.int .i64 q),.d (.int .i64 s0),.d (.int .i64 c),.d (.int .i64 n),.d (.int .i64 d),.d (.int .i64 a),.d (.int .i64 p),.d (.int .i64 f),.d (.list q_l),.d (.int .i64 gc),.d (.int .i64 gq),.d (.int .i64 gw),.d (.int .i64 gr),.d (.list q_gl),.d (.int .i64 wr),.d (.int .i64 pl),.d (.int .i64 mi)]],[(m0,[.d (.list q_u)])],[],_=>some ⟨(Zc q_l).length≤1000000∧(Zc q_gl).length≤1000000∧(1≤c∧c≤8)∧n0.lv≤1∧m0=n0∧q_l=LI .i32 (Zc q_l)∧q_gl=LI .i32 (Zc q_gl)∧q_u=LB (bys q_u),.agg (smC (acX (bys q_u) ⟨di,st,q,s0,⟨c,⟨n,d,a,p,f⟩,(Zc q_l)⟩,⟨gc,gq,gw,gr,(Zc q_gl)⟩,wr,pl,mi⟩)),[(n0,[.d (.list (LB (acD (bys q_u))))])],[]⟩
 | _,_,_,_=>none
def Zhd:=And.intro (@ZiI.eq_1) (@ZiI.eq_1)
theorem ZuT:Snd Tryz.prog 70 ZiI:=by
 intro vs b k n e h hn hp
 unfold ZiI at h
 split at h
 ·cases h; obtain ⟨hp0,hp1,hp2,hl0,rfl,hq0,hq1,hq2⟩:=hp; obtain ⟨_,rfl⟩:=Zu hq0; obtain ⟨_,rfl⟩:=Zu hq1; obtain ⟨_,rfl⟩:=Zyj hq2; simp only [Zi,Zp,Zj,Zq] at hp0 hp1 hp2 ⊢; exact Spec.ren1 (Zwj _ _ _ _ _ _ _ _ _ _ _ _ _ _ _ _ _ _ _ _ hp0 hp1 hp2) 0 (by simp [Zbi,V.names,C.names,ZS,ZT,Z6,ZH]) hl0
 ·cases h
end Go.Vam
end
section
set_option linter.unusedVariables false
set_option linter.defProp false
set_option linter.unusedSimpArgs false
set_option maxRecDepth 40000
set_option maxHeartbeats 4000000
namespace Go.Vam
open Go.Proofs
open Nat renaming reduceShiftRight→Ya,reduceMod→Yb,reduceEqDiff→Yc,reduceLT→Yd,reduceLeDiff→Ye,reduceAdd→Yf,reduceMul→Yg
open Int renaming reduceLE→Yj,reduceLT→Yk,reduceNeg→Yl,reduceAdd→Ym,reduceToNat→Yn
def msO (l:List UInt8) (di:Int):Sm:=⟨di,1,msP l,0,⟨1+dN l 2,⟨baN (dT l 2),baD (dT l 2),0,0,0⟩,[]⟩,if di=2 then ⟨1+dN l 2,msP l,0,0,[]⟩ else rg0,0,0,0⟩
theorem ZGH (l:List UInt8):rgV ⟨1+dN l 2,msP l,0,0,[]⟩=true:=by
 have h1:=Zpv l
 exact ZkG ⟨h1.1,by show msP l≤_; omega⟩ ⟨by show (0:Int)≤0; decide,by show (0:Int)≤0; decide,by show (0:Int)≤1125899906842624; decide⟩ (ZcB (ZzO l)) (by simp) (by show (0:Int) - 0≤msP l; omega)
theorem ZGE (l:List UInt8) {di:Int} (hd:di=1∨di=2):smV (msO l di)=true:=by
 have h1:=Zpv l
 have hB:smB (msO l di)=true:=ZeZ ⟨by show (1:Int)≤1; decide,by show (1:Int)≤7; decide⟩ ⟨h1.1,by show msP l≤_; omega⟩ ⟨by show (0:Int)≤0; decide,by show (0:Int)≤msP l; omega⟩ (msV l) rfl (by show (0:Int)≤0; decide) (by show (0:Int)≤0; decide) (by show (0:Int)≤0; decide)
 rcases hd with rfl | rfl
 ·exact ZpN hB rfl (by show waN ⟨1+dN l 2,⟨baN (dT l 2),baD (dT l 2),0,0,0⟩,[]⟩≤msP l; rw [msW]; omega) rfl
 ·exact ZpO hB rfl (ZGH l) rfl rfl
theorem ZGG (l:List UInt8) {di:Int} (hd:di=1∨di=2):snE di (1+dN l 2) (baN (dT l 2)) (baD (dT l 2)) (msP l) 0=0∧snR di (1+dN l 2) (baN (dT l 2)) (baD (dT l 2)) (msP l) 0=msO l di:=by
 have e:snS di (1+dN l 2) (baN (dT l 2)) (baD (dT l 2)) (msP l) 0=msO l di:=by
  unfold snS nwR rnR
  rw [if_pos (msV l),if_pos (ZGH l)]
  rfl
 unfold snE snR
 rw [e,if_pos (ZGE l hd),if_pos (ZGE l hd)]
 exact ⟨rfl,rfl⟩
theorem Zqb (u:List UInt8) (di:Int) (hd:di=1∨di=2):Spec Tryz.prog 0 22 [.c (.lp ⟨0,0⟩ 0),vI .i64 di] [(⟨0,0⟩,[.d (.list (LB u))])] [] (.agg (smC (msX u di))) [(⟨0,0⟩,[.d (.list (LB (msR u)))])] []:=by
 refine spec_of_E (X:=⟨Tryz.prog,tt,Tryz.f22.ntmps,1,fun _=>0,(tab [(21,ZhT),(69,Znr),(68,ZeG),(70,ZiI)])⟩) (M:=[(2,[0,0,0,0,0,68744475123,0,0,0,0,0,68742545907,0,0])]) (m:=68736254451) rfl rfl ⟨Zah,ZU (Za Zgp (Za Zxp (Za Zor (Za ZuT Zb)))) _ rfl rfl⟩ ZB Tryz.func22 rfl (by decide) (by show (2:Nat)≤_; exact Nat.le_of_ble_eq_true rfl) ⟨by simp [V.has,C.has,Z6,ZH],by simp [C.has],by simp⟩ ?_
 simp (maxSteps:=1000000) only [↓Zo,Ze,Zd,Zn,gSt,gS0,Ya,Yb,↓reduceIte,reduceCtorEq,Yc,Yd,Ye,Yf,Yg,Yj,Yk,Yl,Ym,Yn,Zbz,ZiM,ZeH,Zhd,gE1,gE2,gE3,ZM,Zs,ZF,Zr,ZN,Zz,ZL,Zt,Zm,ZG,ZE,ZC,Tryz.ntmps22,Tryz.results22,gTT]
 have c1:=Zfn u 2 (by decide)
 have c2:=ZhC u 2
 have p1:=Zpv u
 have p2:=ZDQ u
 have hP:1+dN (baR (dT u 2)) 200=msP u:=rfl
 obtain ⟨n1,n2⟩:=ZGG u hd
 rw [IntWalk.i64_in (1+dN u 2) (by omega),IntWalk.i64_in (1+dN (baR (dT u 2)) 200) (by rw [hP]; omega),hP,n1,n2]
 refine ⟨fun h=>absurd h (by decide),fun _=>?_⟩
 have hM:IntKind.i64.wrap ((if 6 < (msO u di).q then 6 else (msO u di).q)+1)=msM u:=by
  show IntKind.i64.wrap ((if 6 < msP u then 6 else msP u)+1)=_
  unfold msM
  rw [IntWalk.i64_in _ (by split <;> omega)]
  split <;> split <;> omega
 rw [hM]
 have d1:=ZhC (msD u) 7
 have d2:=Zfn (msD u) 7 (by decide)
 have hN:((msN u:Nat):Int)=dN (msD u) 7:=by unfold msN; omega
 refine Zl (fun g=>⟨[(8,vI .i64 ((msN u:Int) - (g:Nat)))],[(⟨0,0⟩,[.d (.list (LB (msQ u g)))]),(⟨1,6⟩,[.d (.int .i64 (msS u di g).di),.d (.int .i64 (msS u di g).st),.d (.int .i64 (msS u di g).q),.d (.int .i64 (msS u di g).s0),.d (.int .i64 (msS u di g).r.c),.d (.int .i64 (msS u di g).r.p.n),.d (.int .i64 (msS u di g).r.p.d),.d (.int .i64 (msS u di g).r.p.a),.d (.int .i64 (msS u di g).r.p.p),.d (.int .i64 (msS u di g).r.p.f),.d (.list (LI .i32 (msS u di g).r.l)),.d (.int .i64 (msS u di g).g.c),.d (.int .i64 (msS u di g).g.q),.d (.int .i64 (msS u di g).g.w),.d (.int .i64 (msS u di g).g.r),.d (.list (LI .i32 (msS u di g).g.l)),.d (.int .i64 (msS u di g).wr),.d (.int .i64 (msS u di g).pl),.d (.int .i64 (msS u di g).mi)])],[]⟩) (fun g=>g≤msN u) (fun g=>msN u - g) (·+1) 0 (Nat.zero_le _) ?_ ?_
 ·simp (maxSteps:=1000000) only [↓Zo,Ze,Zd,Zn,gSt,gS0,Ya,Yb,↓reduceIte,reduceCtorEq,Yc,Yd,Ye,Yf,Yg,Yj,Yk,Yl,Ym,Yn,Zbz,ZiM,ZeH,Zhd,gE1,gE2,gE3,ZM,Zs,ZF,Zr,ZN,Zz,ZL,Zt,Zm,ZG,ZE,ZC,Tryz.ntmps22,Tryz.results22,gTT]
  exact ⟨by rw [hN]; exact Int.sub_zero _,rfl,rfl,rfl,rfl,rfl,rfl,rfl,rfl,rfl,rfl,rfl,rfl,rfl,rfl,rfl,rfl,rfl,rfl,rfl,rfl⟩
 intro g hg
 simp (maxSteps:=1000000) only [↓Zo,Ze,Zd,Zn,gSt,gS0,Ya,Yb,↓reduceIte,reduceCtorEq,Yc,Yd,Ye,Yf,Yg,Yj,Yk,Yl,Ym,Yn,Zbz,ZiM,ZeH,Zhd,gE1,gE2,gE3,ZM,Zs,ZF,Zr,ZN,Zz,ZL,Zt,Zm,ZG,ZE,ZC,Tryz.ntmps22,Tryz.results22,gTT]
 have ok:=ZzQ u hd g (by omega)
 have hc:1≤(msS u di g).r.c∧(msS u di g).r.c≤8:=by rw [ok.c]; omega
 have hn:=ZzP u
 have hl:=ok.ll
 have hg2:=ok.gl
 refine ⟨fun h=>⟨⟨by omega,by omega,by omega⟩,⟨by rw [IntWalk.i64_in _ (by omega)]; omega,rfl,rfl,rfl,rfl,rfl,rfl,rfl,rfl,rfl,rfl,rfl,rfl,rfl,rfl,rfl,rfl,rfl,rfl,rfl,rfl⟩,by have:=of_decide_eq_true h; omega,by have:=of_decide_eq_true h; omega⟩,fun h=>?_⟩
 have he:g=msN u:=by have:=of_decide_eq_false h; omega
 subst he
 exact ⟨⟨rfl,rfl,rfl,rfl,rfl,rfl,rfl,rfl,rfl,rfl,rfl,rfl,rfl,rfl,rfl,rfl,rfl,rfl,rfl⟩,rfl⟩
def Zet:List V→Zf→Zw→Name→Option Ent
 | [.c (.lp n0 0),.c (.d (.int .i64 di))],[(m0,[.d (.list q_u)])],[],_=>some ⟨(di=1∨di=2)∧n0.lv≤1∧m0=n0∧q_u=LB (bys q_u),.agg (smC (msX (bys q_u) di)),[(n0,[.d (.list (LB (msR (bys q_u))))])],[]⟩
 | _,_,_,_=>none
def ZcO:=And.intro (@Zet.eq_1) (@Zet.eq_1)
theorem Zn0:Snd Tryz.prog 22 Zet:=by
 intro vs b k n e h hn hp
 unfold Zet at h
 split at h
 ·cases h; obtain ⟨hp0,hl0,rfl,hq0⟩:=hp; obtain ⟨_,rfl⟩:=Zyj hq0; simp only [Zi,Zp,Zj,Zq] at hp0 ⊢; exact Spec.ren1 (Zqb _ _ hp0) 0 (by simp [Zbi,V.names,C.names,ZS,ZT,Z6,ZH]) hl0
 ·cases h
end Go.Vam
end
section
set_option linter.unusedVariables false
set_option linter.defProp false
set_option linter.unusedSimpArgs false
set_option maxRecDepth 40000
set_option maxHeartbeats 4000000
namespace Go.Vam
open Go.Proofs
open Nat renaming reduceShiftRight→Ya,reduceMod→Yb,reduceEqDiff→Yc,reduceLT→Yd,reduceLeDiff→Ye,reduceAdd→Yf,reduceMul→Yg
open Int renaming reduceLE→Yj,reduceLT→Yk,reduceNeg→Yl,reduceAdd→Ym,reduceToNat→Yn
def idB (n:Int):Bool:=decide (n < 1) || decide (8 < n)
def idL (n:Nat):List Int:=(List.range (n*n)).map fun j=>if j / n=j % n then 32768 else 0
def idP (n g:Nat):List Int:=(List.range (n*n)).map fun j=>if j / n=j % n∧j / n < g then 32768 else 0
def idN (n:Int):Int:=if idB n=true then 0 else n
def idO (n:Int):List Int:=if idB n=true then [] else idL n.toNat
def idE (n:Int):Int:=if idB n=true then 2 else 0
theorem ZET (n g:Nat):(idP n g).length=n*n:=by simp [idP]
theorem ZCi (n:Nat):idP n 0=List.replicate (n*n) 0:=by
 apply List.ext_getElem
 ·simp [idP]
 ·intro i h1 h2; simp [idP]
theorem ZES (n:Nat):idP n n=idL n:=by
 apply List.map_congr_left
 intro j hj
 rw [List.mem_range] at hj
 have:j / n < n:=Nat.div_lt_of_lt_mul hj
 simp [this]
theorem ZCh {n g:Nat} (hg:g < n):idP n (g+1)=(idP n g).set (g*n+g) 32768:=by
 apply List.ext_getElem
 ·simp [idP]
 ·intro j h1 h2
  have hj:j < n*n:=by simpa [idP] using h1
  simp only [idP,List.getElem_map,List.getElem_range,List.getElem_set]
  have hn:0 < n:=by omega
  by_cases e:g*n+g=j
  ·subst e
   have e1:(g*n+g) / n=g:=by rw [Nat.add_comm,Nat.add_mul_div_right _ _ hn,Nat.div_eq_of_lt hg,Nat.zero_add]
   have e2:(g*n+g) % n=g:=by rw [Nat.add_comm,Nat.add_mul_mod_self_right,Nat.mod_eq_of_lt hg]
   rw [if_pos rfl,e1,e2,if_pos ⟨rfl,by omega⟩]
  ·rw [if_neg e]
   by_cases h:j / n=j % n
   ·have hne:j / n≠g:=by
     intro hg2
     have:=Nat.div_add_mod j n
     rw [hg2,Nat.mul_comm] at this
     omega
    by_cases h3:j / n < g
    ·rw [if_pos ⟨h,by omega⟩,if_pos ⟨h,h3⟩]
    ·rw [if_neg (fun hh=>by omega),if_neg (fun hh=>h3 hh.2)]
   ·rw [if_neg (fun hh=>h hh.1),if_neg (fun hh=>h hh.1)]
theorem Zk3 (n:Int):Spec Tryz.prog 0 71 [vI .i64 n] [] [] (.tup [.agg [.int .i64 (idN n),.int .i64 (idN n),.list (LI .i64 (idO n))],.int .i64 (idE n)]) [] []:=by
 refine spec_of_E (X:=⟨Tryz.prog,tt,Tryz.f71.ntmps,1,fun s=>if s=18 then 2 else 0,(tab [])⟩) (M:=[(1000008,[3002])]) (m:=4196413) rfl rfl ⟨Zah,ZU Zb _ rfl rfl⟩ ZB Tryz.func71 rfl (by decide) (by show (1:Nat)≤_; exact Nat.le_of_ble_eq_true rfl) ⟨by simp [V.has,C.has,Z6,ZH],by simp [C.has],by simp⟩ ?_
 simp (maxSteps:=1000000) only [↓Zo,Ze,Zd,Zn,gSt,gS0,Ya,Yb,↓reduceIte,reduceCtorEq,Yc,Yd,Ye,Yf,Yg,Yj,Yk,Yl,Ym,Yn,gE1,gE2,gE3,ZM,Zs,ZF,Zr,ZN,Zz,ZL,Zt,Zm,ZG,ZE,ZC,Tryz.ntmps71,Tryz.results71,gTT]
 refine ⟨fun h=>?_,fun h=>?_⟩
 ·have e:idB n=true:=h
  simp [idN,idO,idE,e,Zy]
 have hB:idB n=false:=h
 have hn:1≤n∧n≤8:=by
  simp only [idB,Bool.or_eq_false_iff,decide_eq_false_iff_not] at hB
  omega
 have hm:=ZCs hn hn
 have hO:idO n=idL n.toNat:=by simp [idO,hB]
 have hN:idN n=n:=by simp [idN,hB]
 have hE:idE n=0:=by simp [idE,hB]
 rw [hO,hN,hE]
 have hnn:(n*n).toNat=n.toNat*n.toNat:=by
  have e:n=(n.toNat:Int):=by omega
  have:n*n=((n.toNat*n.toNat:Nat):Int):=by rw [Int.natCast_mul,← e]
  omega
 have hNn:((n.toNat:Nat):Int)=n:=by omega
 rw [IntWalk.i64_in (n*n) (by omega)]
 refine ⟨⟨by omega,by omega,by omega,by omega⟩,?_⟩
 rw [hnn]
 generalize n.toNat=N at *
 refine Zl (fun g=>⟨[(5,vI .i64 (g:Nat))],[],[(⟨1,18⟩,⟨true,1,LI .i64 (idP N g)⟩)]⟩) (fun g=>g≤N) (fun g=>N - g) (·+1) 0 (Nat.zero_le _) ?_ ?_
 ·simp (maxSteps:=1000000) only [↓Zo,Ze,Zd,Zn,gSt,gS0,Ya,Yb,↓reduceIte,reduceCtorEq,Yc,Yd,Ye,Yf,Yg,Yj,Yk,Yl,Ym,Yn,gE1,gE2,gE3,ZM,Zs,ZF,Zr,ZN,Zz,ZL,Zt,Zm,ZG,ZE,ZC,Tryz.ntmps71,Tryz.results71,gTT]
  rw [ZCi]
  exact ⟨rfl,rfl⟩
 intro g hg
 simp (maxSteps:=1000000) only [↓Zo,Ze,Zd,Zn,gSt,gS0,Ya,Yb,↓reduceIte,reduceCtorEq,Yc,Yd,Ye,Yf,Yg,Yj,Yk,Yl,Ym,Yn,gE1,gE2,gE3,ZM,Zs,ZF,Zr,ZN,Zz,ZL,Zt,Zm,ZG,ZE,ZC,Tryz.ntmps71,Tryz.results71,gTT]
 have hl:=ZET N g
 refine ⟨fun h=>?_,fun h=>?_⟩
 ·have hgN:g < N:=by have:=of_decide_eq_true h; omega
  have hle:(g+1)*N≤N*N:=Nat.mul_le_mul_right _ hgN
  have h64:g*N≤8*8:=Nat.mul_le_mul (by omega) (by omega)
  rw [Nat.add_mul,Nat.one_mul] at hle
  rw [ZCh hgN]
  have e1:IntKind.i64.wrap ((g:Int)*n)=((g*N:Nat):Int):=by
   have:(g:Int)*n=((g*N:Nat):Int):=by rw [Int.natCast_mul,hNn]
   rw [this,IntWalk.i64_in _ (by omega)]
  have e2:IntKind.i64.wrap (((g*N:Nat):Int)+(g:Int))=((g*N+g:Nat):Int):=by rw [IntWalk.i64_in _ (by omega)]; omega
  rw [e1,e2,Int.toNat_natCast]
  refine ⟨by omega,by omega,⟨(Zaz _ (by omega)).symm,rfl⟩,by omega,by omega⟩
 ·have:g=N:=by have:=of_decide_eq_false h; omega
  rw [this,ZES]
  exact ⟨by simp [idL],rfl⟩
def ZbP:List V→Zf→Zw→Name→Option Ent
 | [.c (.d (.int .i64 n))],[],[],_=>some ⟨True,.tup [.agg [.int .i64 (idN n),.int .i64 (idN n),.list (LI .i64 (idO n))],.int .i64 (idE n)],[],[]⟩
 | _,_,_,_=>none
def ZX:=And.intro (@ZbP.eq_1) (@ZbP.eq_1)
theorem Zfq:Snd Tryz.prog 71 ZbP:=by
 intro vs b k n e h hn hp
 unfold ZbP at h
 split at h
 ·cases h; exact (Zk3 _).lift rfl _
 ·cases h
end Go.Vam
end
