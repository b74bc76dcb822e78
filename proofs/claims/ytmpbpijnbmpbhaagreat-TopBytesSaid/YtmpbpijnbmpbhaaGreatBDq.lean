/- A part of the proof. Conditions: none. -/
import Derived.Test.YtmpbpijnbmpbhaaGreatBDp
section
set_option linter.unusedVariables false
set_option linter.defProp false
set_option linter.unusedSimpArgs false
set_option maxRecDepth 40000
set_option maxHeartbeats 4000000
namespace Go.Vam
open Go.Proofs
open Nat renaming reduceShiftRight→Ya,reduceMod→Yb,reduceEqDiff→Yc,reduceLT→Yd,reduceLeDiff→Ye,reduceAdd→Yf,reduceMul→Yg
open Int renaming reduceLE→Yj,reduceLT→Yk,reduceNeg→Yl,reduceAdd→Ym,reduceToNat→Yn
theorem ZLJ {m:List Int} (h:chV m=true):brV ⟨37,⟨29,4,16,0⟩,⟨(m.length:Nat),⟨1,1,0,0,0⟩,List.replicate ((m.length:Int)*13).toNat 0⟩,0,0⟩=true:=by
 have hl:=ZhC h
 have hrl:(List.replicate ((m.length:Int)*13).toNat (0:Int)).length=13*m.length:=by rw [List.length_replicate]; omega
 have hb:ZaL (m.length:Nat) (List.replicate ((m.length:Int)*13).toNat (0:Int))=true:=Za5 (z:=13) (by omega) (by rw [hrl]; simp) (by decide) (by
  rw [List.all_eq_true]
  intro x hx
  rw [(List.mem_replicate.1 hx).2]
  decide)
 have hr:rsV ⟨(m.length:Nat),⟨1,1,0,0,0⟩,List.replicate ((m.length:Int)*13).toNat 0⟩=true:=by
  unfold rsV
  rw [hb]
  show (phV ⟨1,1,0,0,0⟩ && true)=true
  decide
 have hw:waN ⟨(m.length:Nat),⟨1,1,0,0,0⟩,List.replicate ((m.length:Int)*13).toNat 0⟩=13:=by
  unfold waN
  rw [if_pos hr]
  show (((List.replicate ((m.length:Int)*13).toNat (0:Int)).length / (m.length:Int).toNat:Nat):Int)=13
  rw [hrl,Int.toNat_natCast,Nat.mul_div_cancel _ (by omega)]
  rfl
 unfold brV
 simp only [hr,hw]
 show (true && ctV ⟨29,4,16,0⟩ && decide ((1:Int)≤37) && decide ((37:Int)≤65536) && decide ((13:Int)≤37) && decide ((0:Int)≤0) && decide ((0:Int)≤0))=true
 decide
theorem ZtP :Spec Tryz.prog 0 45 [] [] [] (.agg [.d (.list Zru)]) [] []:=by
 refine sE (md:=fun _=>0) (L:=[]) [] 1 Zb Tryz.func45 rfl rfl rfl ?_
 simp (maxSteps:=1000000) only [↓Zn,Ze,Zd,Zm,gSt,gS0,Ya,Yb,↓reduceIte,reduceCtorEq,Yc,Yd,Ye,Yf,Yg,Yj,Yk,Yl,Ym,Yn,gE1,gE2,gE3,Tryz.ntmps45,Tryz.results45,gTT]
 rfl
def ZgJ:List V→Zf→Zr→Name→Option Ent
 | [],[],[],_=>some ⟨True,.agg [.d (.list Zru)],[],[]⟩
 | _,_,_,_=>none
def Zsi:=And.intro (@ZgJ.eq_1) (@ZgJ.eq_1)
theorem Zsj:Snd Tryz.prog 45 ZgJ:=by
 intro vs b k n e h hn hp
 unfold ZgJ at h
 split at h
 ·cases h; exact (ZtP).lift rfl _
 ·cases h
theorem Zty (dd:Int) (mp:List Int) (hd:dd=1∨dd=2) (hc:chV mp=true):Spec Tryz.prog 0 9 [vI .i64 dd,vL (LI .i64 mp)] [] [] (.tup [.agg [.int .u64 7,.str dacS,.int .i64 dd,.int .i64 0,.int .i64 0,.int .i64 0,.int .i64 0,.list (Zsr mp),.int .i64 2,.int .i64 48000,.list (LI .i64 mp),.int .i64 48000,.int .i64 48000,.int .i64 16,.list Zru,.bool true,.int .i64 0,.int .i64 ((bnR (mp.length:Nat) 1 1 ⟨29,4,16,0⟩ 37 13)).q,.int .i64 ((bnR (mp.length:Nat) 1 1 ⟨29,4,16,0⟩ 37 13)).c.t,.int .i64 ((bnR (mp.length:Nat) 1 1 ⟨29,4,16,0⟩ 37 13)).c.d,.int .i64 ((bnR (mp.length:Nat) 1 1 ⟨29,4,16,0⟩ 37 13)).c.g,.int .i64 ((bnR (mp.length:Nat) 1 1 ⟨29,4,16,0⟩ 37 13)).c.m,.int .i64 ((bnR (mp.length:Nat) 1 1 ⟨29,4,16,0⟩ 37 13)).r.c,.int .i64 ((bnR (mp.length:Nat) 1 1 ⟨29,4,16,0⟩ 37 13)).r.p.n,.int .i64 ((bnR (mp.length:Nat) 1 1 ⟨29,4,16,0⟩ 37 13)).r.p.d,.int .i64 ((bnR (mp.length:Nat) 1 1 ⟨29,4,16,0⟩ 37 13)).r.p.a,.int .i64 ((bnR (mp.length:Nat) 1 1 ⟨29,4,16,0⟩ 37 13)).r.p.p,.int .i64 ((bnR (mp.length:Nat) 1 1 ⟨29,4,16,0⟩ 37 13)).r.p.f,.list (LI .i32 ((bnR (mp.length:Nat) 1 1 ⟨29,4,16,0⟩ 37 13)).r.l),.int .i64 ((bnR (mp.length:Nat) 1 1 ⟨29,4,16,0⟩ 37 13)).lo,.int .i64 ((bnR (mp.length:Nat) 1 1 ⟨29,4,16,0⟩ 37 13)).mi],.bool true]) [] []:=by
 refine spec_of_E (X:=⟨Tryz.prog,tt,Tryz.f9.ntmps,1,fun _=>0,(tab [(45,ZgJ),(44,Zgh),(46,Zey)])⟩) (M:=[(3,[0,0,0,0,0,1883244531,0,0,0,0,0,0])]) (m:=2035) rfl rfl ⟨Z7,ZI (Za Zsj (Za ZrN (Za Zn8 Zb))) _ rfl rfl⟩ Zs Tryz.func9 rfl (by decide) (by show (2:Nat)≤_; exact Nat.le_of_ble_eq_true rfl) ⟨by simp [V.has,C.has,Zz],by simp [C.has],by simp⟩ ?_
 simp (maxSteps:=1000000) only [↓Zn,Ze,Zd,Zm,gSt,gS0,Ya,Yb,↓reduceIte,reduceCtorEq,Yc,Yd,Ye,Yf,Yg,Yj,Yk,Yl,Ym,Yn,Zsi,ZrM,Zn7,gE1,gE2,gE3,Tryz.ntmps9,Tryz.results9,gTT]
 have hds:ZhD dacS dd 0 0 0 0:=⟨rfl,hd,rfl,rfl,rfl,rfl⟩
 have hdv:ZgR (Zsr mp) 2 48000 mp 48000 48000 16 Zru:=⟨rfl,hc,rfl,rfl,rfl,rfl,rfl,rfl⟩
 have hlen:=ZhC hc
 have hR:=(Zpm hc).2
 refine ⟨by kernel_rfl,⟨hds,hdv⟩,⟨hds,hdv,by rw [hR]; exact ZLJ hc,?_,by rw [hR],by rw [hR],by rw [hR]⟩,rfl⟩
 rw [hR]
 show (List.replicate _ 0).length≤_
 rw [List.length_replicate]
 omega
def Zff:List V→Zf→Zr→Name→Option Ent
 | [.c (.d (.int .i64 dd)),.c (.d (.list q_mp))],[],[],_=>some ⟨(dd=1∨dd=2)∧chV (Zc q_mp)=true∧q_mp=LI .i64 (Zc q_mp),.tup [.agg [.int .u64 7,.str dacS,.int .i64 dd,.int .i64 0,.int .i64 0,.int .i64 0,.int .i64 0,.list (Zsr (Zc q_mp)),.int .i64 2,.int .i64 48000,.list (LI .i64 (Zc q_mp)),.int .i64 48000,.int .i64 48000,.int .i64 16,.list Zru,.bool true,.int .i64 0,.int .i64 ((bnR ((Zc q_mp).length:Nat) 1 1 ⟨29,4,16,0⟩ 37 13)).q,.int .i64 ((bnR ((Zc q_mp).length:Nat) 1 1 ⟨29,4,16,0⟩ 37 13)).c.t,.int .i64 ((bnR ((Zc q_mp).length:Nat) 1 1 ⟨29,4,16,0⟩ 37 13)).c.d,.int .i64 ((bnR ((Zc q_mp).length:Nat) 1 1 ⟨29,4,16,0⟩ 37 13)).c.g,.int .i64 ((bnR ((Zc q_mp).length:Nat) 1 1 ⟨29,4,16,0⟩ 37 13)).c.m,.int .i64 ((bnR ((Zc q_mp).length:Nat) 1 1 ⟨29,4,16,0⟩ 37 13)).r.c,.int .i64 ((bnR ((Zc q_mp).length:Nat) 1 1 ⟨29,4,16,0⟩ 37 13)).r.p.n,.int .i64 ((bnR ((Zc q_mp).length:Nat) 1 1 ⟨29,4,16,0⟩ 37 13)).r.p.d,.int .i64 ((bnR ((Zc q_mp).length:Nat) 1 1 ⟨29,4,16,0⟩ 37 13)).r.p.a,.int .i64 ((bnR ((Zc q_mp).length:Nat) 1 1 ⟨29,4,16,0⟩ 37 13)).r.p.p,.int .i64 ((bnR ((Zc q_mp).length:Nat) 1 1 ⟨29,4,16,0⟩ 37 13)).r.p.f,.list (LI .i32 ((bnR ((Zc q_mp).length:Nat) 1 1 ⟨29,4,16,0⟩ 37 13)).r.l),.int .i64 ((bnR ((Zc q_mp).length:Nat) 1 1 ⟨29,4,16,0⟩ 37 13)).lo,.int .i64 ((bnR ((Zc q_mp).length:Nat) 1 1 ⟨29,4,16,0⟩ 37 13)).mi],.bool true],[],[]⟩
 | _,_,_,_=>none
def Zaf:=And.intro (@Zff.eq_1) (@Zff.eq_1)
theorem Zjp:Snd Tryz.prog 9 Zff:=by
 intro vs b k n e h hn hp
 unfold Zff at h
 split at h
 ·cases h; obtain ⟨hp0,hp1,hq0⟩:=hp; obtain ⟨_,rfl⟩:=Zq hq0; simp only [Zi,Zo,Zj,Zp] at hp0 hp1 ⊢; exact (Zty _ _ hp0 hp1).lift rfl _
 ·cases h
end Go.Vam
end
section
set_option linter.unusedVariables false
set_option linter.defProp false
set_option linter.unusedSimpArgs false
set_option maxRecDepth 40000
set_option maxHeartbeats 4000000
namespace Go.Vam
open Go.Proofs
def adv (p:Ph) (N:Nat):Ph:=⟨p.n,p.d,p.a,p.p+qN p N,fAt p N⟩
theorem ZiF {p:Ph} (h:phV p=true):adv p 0=p∧qN p 0=0:=by
 obtain ⟨_,_,_,_,h5,h6⟩:=ZbG h
 have hp:=Zdf h
 have e:ahd p ((0:Nat):Int)=p.f:=by unfold ahd; simp
 have q0:qN p 0=0:=by
  unfold qN qAt
  rw [e,Int.ediv_eq_zero_of_lt h5.1 (by omega)]
  rfl
 have f0:fAt p ((0:Nat):Int)=p.f:=by
  unfold fAt
  rw [e,Int.emod_eq_of_lt h5.1 (by omega)]
 refine ⟨?_,q0⟩
 unfold adv
 rw [q0,f0]
 simp
theorem ZBh {p:Ph} (h:phV p=true) {N i:Nat} (hN:N+i≤65536):qN p (N+i)=qN p N+qN (adv p N) i∧fAt (adv p N) i=fAt p ((N+i:Nat):Int):=by
 have hp:=Zdf h
 have hs:=ZfB h
 have h1:=Zbk h (n:=(N:Int)) (by omega)
 have h2:=ZfW h (g:=N) (by omega)
 have e:ahd p ((N+i:Nat):Int)=ahd (adv p N) i+prt p*qAt p N:=by
  have e1:ahd p ((N+i:Nat):Int)=ahd p N+(i:Int)*stp p:=by
   unfold ahd
   rw [Int.natCast_add,Int.add_mul]
   omega
  have e2:ahd (adv p N) i=fAt p N+(i:Int)*stp p:=rfl
  rw [e1,e2,h1.2.2.2,Int.mul_comm (prt p)]
  omega
 have hnn:0≤ahd (adv p N) i:=by
  have e2:ahd (adv p N) i=fAt p N+(i:Int)*stp p:=rfl
  have:=Int.mul_nonneg (Int.natCast_nonneg i) (show 0≤stp p by omega)
  rw [e2]
  omega
 have hd:qAt p ((N+i:Nat):Int)=qAt (adv p N) i+qAt p N:=by
  unfold qAt
  rw [e,Int.add_mul_ediv_left _ _ (by omega)]
  rfl
 have hq:0≤qAt (adv p N) i:=Int.ediv_nonneg hnn (by show 0≤prt p; omega)
 constructor
 ·unfold qN
  rw [hd]
  omega
 ·unfold fAt
  rw [e,Int.add_mul_emod_self_left]
  rfl
theorem Zg1 {p:Ph} (h:phV p=true) {n:Nat} (hn:n≤65536):(qN p n:Int)≤ned p n:=by
 have h1:=ZfW h hn
 unfold ned
 split
 ·have:n=0:=by omega
  subst this
  rw [(ZiF h).2]
  exact Int.le_refl _
 ·omega
theorem Zdc (p:Ph):ned p ((0:Nat):Int)=0:=by simp [ned]
theorem Zve {p:Ph} (h:phV p=true) {n:Nat} (hn:n+1≤65536):(qN p n:Int)+2≤ned p ((n+1:Nat):Int):=by
 have h1:=ZfW h (g:=n) (by omega)
 unfold ned
 rw [if_neg (by omega),show ((n+1:Nat):Int) - 1=(n:Int) by omega]
 omega
theorem ZsO {p:Ph} (h:phV p=true) {N k:Nat} (hk:1≤k) (hN:N+k≤65536):ned (adv p N) k=ned p ((N+k:Nat):Int) - qN p N:=by
 have a1:=(ZBh h (N:=N) (i:=k) hN).1
 have a2:=(ZBh h (N:=N) (i:=k - 1) (by omega)).1
 have e1:=ZfW h (g:=N+k) hN
 have e2:=ZfW h (g:=N+(k - 1)) (by omega)
 have hp:=Zdf h
 have hs:=ZfB h
 have hf:=Zbk h (n:=(N:Int)) (by omega)
 have hq:∀ i:Nat,0≤qAt (adv p N) i:=fun i=>by
  refine Int.ediv_nonneg ?_ (by show 0≤prt p; omega)
  have e3:ahd (adv p N) i=fAt p N+(i:Int)*stp p:=rfl
  have:=Int.mul_nonneg (Int.natCast_nonneg i) (show 0≤stp p by omega)
  rw [e3]
  omega
 have q1:=hq k
 have q2:=hq (k - 1)
 have c1:(k:Int) - 1=((k - 1:Nat):Int):=by omega
 have c2:((N+k:Nat):Int) - 1=((N+(k - 1):Nat):Int):=by omega
 unfold ned
 rw [if_neg (by omega),if_neg (by omega),c1,c2,← e1.1,← e2.1]
 unfold qN at a1 a2 ⊢
 omega
theorem ZHh {p:Ph} (h:phV p=true) {N:Nat} (hN:N≤65536) (hb:p.p+qN p N≤1125899906842624):phV (adv p N)=true:=by
 have:=Zbk h (n:=(N:Int)) (by omega)
 have hp:=ZbG h
 exact ZFb h (by omega) ⟨this.2.1,this.2.2.1⟩
theorem ZAY {p:Ph} (h:phV p=true) {N W:Nat} (hv:phV (adv p N)=true) (hN:ned p N≤W) (hN6:N≤65536) (hM:mkN p W < 65536):N≤mkN p W∧qN p N≤W∧mkN (adv p N) ((W - qN p N:Nat):Int)=mkN p W - N:=by
 have hW:(0:Int)≤W:=Int.natCast_nonneg _
 have hqn:=Zg1 h hN6
 have h1:N≤mkN p W:=(Zaz h hW hN6).2 hN
 have hM1:=(Zaz h hW (k:=mkN p W) (by omega)).1 (Nat.le_refl _)
 have hM2:¬ ned p ((mkN p W+1:Nat):Int)≤W:=fun h2=>by
  have:=(Zaz h hW (k:=mkN p W+1) (by omega)).2 h2
  omega
 refine ⟨h1,by omega,?_⟩
 generalize mkN p W=M at *
 have hw':(0:Int)≤((W - qN p N:Nat):Int):=Int.natCast_nonneg _
 have ha:=Zaz hv hw' (k:=M - N) (by omega)
 have hb:=Zaz hv hw' (k:=M - N+1) (by omega)
 have hb2:¬ (M - N+1≤mkN (adv p N) ((W - qN p N:Nat):Int)):=fun h2=>by
  have h3:=hb.1 h2
  rw [ZsO h (by omega) (by omega),show N+(M - N+1)=M+1 by omega] at h3
  omega
 have ha2:M - N≤mkN (adv p N) ((W - qN p N:Nat):Int):=ha.2 (by
  by_cases h4:M - N=0
  ·rw [h4,Zdc]; exact hw'
  ·rw [ZsO h (by omega) (by omega),show N+(M - N)=M by omega]
   omega)
 omega
def stR (p:Ph) (c:Int) (s:List Int) (N:Nat):Rs:=⟨c,adv p N,s.drop (qN p N*c.toNat)⟩
def ocX (p:Ph) (c:Int) (s:List Int) (i ch:Nat):Int:=btw (s[qN p i*c.toNat+ch]?.getD 0) (s[(qN p i+1)*c.toNat+ch]?.getD 0) (fAt p i) (prt p)
def ooL (p:Ph) (c:Int) (s:List Int):Nat→List Int
 | 0=>[]
 | N+1=>ooL p c s N++(List.range c.toNat).map (ocX p c s N)
theorem Zne (p:Ph) (c:Int) (s:List Int):∀ N,(ooL p c s N).length=N*c.toNat
 | 0=>by simp [ooL]
 | N+1=>by rw [ooL,List.length_append,Zne p c s N,List.length_map,List.length_range,Nat.add_mul,Nat.one_mul]
theorem Zvh {p:Ph} (h:phV p=true) {c:Int} {s y:List Int} {W:Nat} (hs:s.length=W*c.toNat):∀ N:Nat,N≤65536→ned p N≤W→ooL p c (s++y) N=ooL p c s N
 | 0,_,_=>rfl
 | N+1,hN,hW=>by
  have h1:=Zve h hN
  have h2:ned p N≤ned p ((N+1:Nat):Int):=Zfq h (by omega) (by omega) (by omega)
  rw [ooL,ooL,Zvh h hs N (by omega) (by omega)]
  congr 1
  apply List.map_congr_left
  intro ch hch
  rw [List.mem_range] at hch
  have h3:(qN p N+2)*c.toNat≤W*c.toNat:=Nat.mul_le_mul_right _ (by omega)
  have h4:(qN p N+2)*c.toNat=qN p N*c.toNat+2*c.toNat:=Nat.add_mul ..
  have h5:(qN p N+1)*c.toNat=qN p N*c.toNat+c.toNat:=by rw [Nat.add_mul,Nat.one_mul]
  unfold ocX
  rw [List.getElem?_append_left (by omega),List.getElem?_append_left (by omega)]
theorem ZnL {p:Ph} (h:phV p=true) (c:Int) (s:List Int):stR p c s 0=⟨c,p,s⟩:=by
 unfold stR
 rw [(ZiF h).1,(ZiF h).2,Nat.zero_mul,List.drop_zero]
theorem Zyi {p:Ph} (h:phV p=true) {c:Int} {s:List Int} {W N:Nat} (hc:1≤c∧c≤8) (hs:s.length=W*c.toNat) (ha:s.all ZbI=true) (hW:W≤65536) (hN6:N≤65536) (hN:ned p N≤W) (hp:p.p+W≤1125899906842624) :
  rsV (stR p c s N)=true∧(stR p c s N).l.length=(W - qN p N)*c.toNat∧(stR p c s N).l.length / c.toNat=W - qN p N∧qN p N≤W:=by
 have hq:=Zg1 h hN6
 have hl:(stR p c s N).l.length=(W - qN p N)*c.toNat:=by
  show (List.drop _ s).length=_
  rw [List.length_drop,hs,Nat.sub_mul]
 refine ⟨?_,hl,by rw [hl,Nat.mul_div_cancel _ (by omega)],by omega⟩
 unfold rsV
 have h1:phV (stR p c s N).p=true:=ZHh h hN6 (by omega)
 rw [h1,Bool.true_and]
 refine Za5 hc hl (by omega) ?_
 rw [List.all_eq_true] at ha ⊢
 intro x hx
 exact ha x (List.mem_of_mem_drop hx)
theorem ZAo {p:Ph} (h:phV p=true) {c:Int} {s y:List Int} {W V N:Nat} (hc:1≤c∧c≤8) (hs:s.length=W*c.toNat) (ha:s.all ZbI=true) (hy:y.length=V*c.toNat) (hya:y.all ZbI=true) (hW:W+V≤65536) (hN6:N≤65536) (hN:ned p N≤W) (hp:p.p+W≤1125899906842624) :
  feE (stR p c s N) c y=0∧feR (stR p c s N) c y=stR p c (s++y) N:=by
 obtain ⟨v1,v2,v3,v4⟩:=Zyi h hc hs ha (by omega) hN6 hN hp
 have e0:feE (stR p c s N) c y=0:=by
  unfold feE
  have hb:ZaL c y=true:=Za5 hc hy (by omega) hya
  have hd:((stR p c s N).l.length+y.length) / (stR p c s N).c.toNat=W - qN p N+V:=by
   show _ / c.toNat=_
   rw [v2,hy,← Nat.add_mul,Nat.mul_div_cancel _ (by omega)]
  rw [if_neg (by rw [v1,hb]; decide),if_neg (by show ¬ (c≠c); simp),if_neg (by rw [hd]; omega)]
 refine ⟨e0,?_⟩
 unfold feR
 rw [if_pos e0]
 unfold stR
 rw [List.drop_append_of_le_length (by rw [hs]; exact Nat.mul_le_mul_right _ v4)]
theorem Zt1 {p:Ph} (h:phV p=true) {c:Int} {s:List Int} {W N n:Nat} (hc:1≤c∧c≤8) (hs:s.length=W*c.toNat) (ha:s.all ZbI=true) (hW:W≤65536) (hN:N+n≤65536) (hM:ned p ((N+n:Nat):Int)≤W) (hp:p.p+W≤1125899906842624) :
  tkE (stR p c s N) n=0∧tkC (stR p c s N) n=c∧tkR (stR p c s N) n=stR p c s (N+n)∧ooL p c s N++tkO (stR p c s N) n=ooL p c s (N+n):=by
 have hN0:ned p N≤W:=Int.le_trans (Zfq h (by omega) (by omega) (by omega)) hM
 obtain ⟨v1,v2,v3,v4⟩:=Zyi h hc hs ha hW (by omega) hN0 hp
 have hq:=(ZBh h (N:=N) (i:=n) hN).1
 have hqn:=Zg1 h hN
 have hva:phV (adv p N)=true:=(ZA v1).1
 have hqa:=ZfW hva (g:=n) (by omega)
 have e0:rcE (stR p c s N) n=0:=Zvl v1 (by omega)
 have e1:ned (adv p N) n≤((W - qN p N:Nat):Int):=by
  by_cases hn:n=0
  ·subst hn; rw [Zdc]; exact Int.natCast_nonneg _
  ·rw [ZsO h (by omega) hN]; omega
 have e2:poE (stR p c s N) n=0:=by
  have h0:phC (adv p N) n=0:=ZfA hva (by omega)
  have h1:atP (adv p N) n=p.p+qN p (N+n):=by
   have h2:atP (adv p N) n=(adv p N).p+qAt (adv p N) n:=by unfold atP; rw [if_pos h0]
   rw [h2,← hqa.1,hq]
   show p.p+(qN p N:Int)+_=_
   omega
  show adE (adv p N) n=0
  unfold adE
  rw [if_pos h0,h1,if_neg (by omega)]
 have eE:tkE (stR p c s N) n=0:=by
  unfold tkE
  rw [if_neg (by rw [e0]; decide),if_neg ?_,e2]
  show ¬ (((stR p c s N).l.length / c.toNat:Nat):Int) < ned (adv p N) n
  rw [v3]; omega
 refine ⟨eE,by unfold tkC; rw [if_pos eE]; rfl,?_,?_⟩
 ·obtain ⟨_,h2⟩:=Zpf (p:=(stR p c s N).p) (n:=n) e2
  have e3:tkR (stR p c s N) n=⟨c,adP (adv p N) n,((s.drop (qN p N*c.toNat)).drop (min (stR p c s N).l.length (qN (adv p N) n*c.toNat)))⟩:=by
   unfold tkR
   rw [if_pos eE]
   unfold poR
   rw [if_pos e2]
   rfl
  have hle:qN (adv p N) n*c.toNat≤(stR p c s N).l.length:=by rw [v2]; exact Nat.mul_le_mul_right _ (by omega)
  rw [e3,Nat.min_eq_right hle,List.drop_drop,← Nat.add_mul,← hq]
  have h3:adP (adv p N) n=adv p (N+n):=by
   have:adP (adv p N) n=_:=h2
   rw [this]
   show (⟨p.n,p.d,p.a,p.p+(qN p N:Int)+qAt (adv p N) n,fAt (adv p N) n⟩:Ph)=⟨p.n,p.d,p.a,p.p+(qN p (N+n):Int),fAt p ((N+n:Nat):Int)⟩
   rw [(ZBh h (N:=N) (i:=n) hN).2,← hqa.1,hq]
   congr 1
   omega
  rw [h3]
  rfl
 ·have e4:tkO (stR p c s N) n=ZcQ (stR p c s N) n:=by unfold tkO; rw [if_pos eE]; rfl
  rw [e4]
  have key:∀ m:Nat,m≤n→ooL p c s N++ZcQ (stR p c s N) m=ooL p c s (N+m):=by
   intro m
   induction m with
   | zero=>intro _; simp [ZcQ]
   | succ m ih =>
    intro hm
    have hmm:=ZBh h (N:=N) (i:=m) (by omega)
    have hns:=Zve h (n:=N+m) (by omega)
    have hle2:ned p ((N+m+1:Nat):Int)≤ned p ((N+n:Nat):Int):=Zfq h (by omega) (by omega) (by omega)
    have e5:ooL p c s (N+(m+1))=ooL p c s (N+m)++(List.range c.toNat).map (ocX p c s (N+m)):=rfl
    have e6:ZcQ (stR p c s N) (m+1)=ZcQ (stR p c s N) m++Zla (stR p c s N) m c.toNat:=rfl
    rw [e5,e6,← List.append_assoc,ih (by omega)]
    congr 1
    apply List.map_congr_left
    intro ch hch
    rw [List.mem_range] at hch
    have hfr:∀ k:Nat,k+1≤W - qN p N→gx (stR p c s N) k ch=s[(qN p N+k)*c.toNat+ch]?.getD 0:=fun k hk=>by
     have h5:(k+1)*c.toNat≤(W - qN p N)*c.toNat:=Nat.mul_le_mul_right _ hk
     have h6:(k+1)*c.toNat=k*c.toNat+c.toNat:=by rw [Nat.add_mul,Nat.one_mul]
     have h7:frA (stR p c s N) k=k*c.toNat:=by
      unfold frA
      show min (k*c.toNat) ((stR p c s N).l.length - c.toNat)=_
      rw [v2]; omega
     unfold gx
     rw [h7]
     show ((s.drop (qN p N*c.toNat))[k*c.toNat+ch]?).getD 0=_
     rw [List.getElem?_drop,Nat.add_mul,Nat.add_assoc]
    have g1:=hfr (qN (adv p N) m) (by omega)
    have g2:=hfr (qN (adv p N) m+1) (by omega)
    show btw (gx (stR p c s N) (qN (adv p N) m) ch) (gx (stR p c s N) (qN (adv p N) m+1) ch) (fAt (adv p N) m) (prt (adv p N))=btw _ _ _ _
    rw [g1,g2,hmm.2,← Nat.add_assoc,← hmm.1]
    rfl
  exact key n (Nat.le_refl _)
theorem ZFQ {p:Ph} (h:phV p=true) {c:Int} {s y:List Int} {W V N:Nat} (hc:1≤c∧c≤8) (hs:s.length=W*c.toNat) (ha:s.all ZbI=true) (hy:y.length=V*c.toNat) (hya:y.all ZbI=true) (hW:W+V≤65536) (hN6:N≤65536) (hN:ned p N≤W) (hp:p.p+(W+V:Nat)≤1125899906842624) (hM:mkN p ((W+V:Nat):Int) < 65536) :
  cvE (stR p c s N) c y=0∧cvC (stR p c s N) c y=c∧cvR (stR p c s N) c y=stR p c (s++y) (mkN p ((W+V:Nat):Int))∧ooL p c s N++cvO (stR p c s N) c y=ooL p c (s++y) (mkN p ((W+V:Nat):Int)):=by
 obtain ⟨f1,f2⟩:=ZAo h hc hs ha hy hya hW hN6 hN (by omega)
 have hs2:(s++y).length=(W+V)*c.toNat:=by rw [List.length_append,hs,hy,Nat.add_mul]
 have ha2:(s++y).all ZbI=true:=by rw [List.all_append,ha,hya]; rfl
 have hN2:ned p N≤((W+V:Nat):Int):=by omega
 obtain ⟨v1,v2,v3,v4⟩:=Zyi h hc hs2 ha2 hW hN6 hN2 hp
 obtain ⟨m1,m2,m3⟩:=ZAY h (ZA v1).1 hN2 hN6 hM
 have hM1:=(Zaz h (Int.natCast_nonneg _) (k:=mkN p ((W+V:Nat):Int)) (by omega)).1 (Nat.le_refl _)
 have hn:cvN (stR p c s N) c y=((mkN p ((W+V:Nat):Int) - N:Nat):Int):=by
  unfold cvN
  rw [f2]
  show ((mkN (adv p N) (((stR p c (s++y) N).l.length / c.toNat:Nat):Int):Nat):Int)=_
  rw [v3,m3]
 generalize mkN p ((W+V:Nat):Int)=M at *
 have hNM:N+(M - N)=M:=by omega
 obtain ⟨t1,t2,t3,t4⟩:=Zt1 h (N:=N) (n:=M - N) hc hs2 ha2 hW (by omega) (by rw [hNM]; exact hM1) hp
 rw [hNM] at t3 t4
 have eE:cvE (stR p c s N) c y=0:=by unfold cvE; rw [if_neg (by rw [f1]; decide),f2,hn,t1]
 refine ⟨eE,by unfold cvC; rw [if_pos eE]; rfl,?_,?_⟩
 ·have e1:cvR (stR p c s N) c y=tkR (stR p c (s++y) N) ((M - N:Nat):Int):=by
   unfold cvR tkR
   rw [if_pos eE,if_pos t1,f2,hn]
  rw [e1,t3]
 ·have e1:cvO (stR p c s N) c y=tkO (stR p c (s++y) N) ((M - N:Nat):Int):=by
   unfold cvO tkO
   rw [if_pos eE,if_pos t1,f2,hn]
  rw [e1,← Zvh h hs N hN6 hN,t4]
structure okB (x:Br) (ch B:Int):Prop where
 v:brV x=true
 c:x.r.c=ch
 len:x.r.l.length≤524288
 far:x.r.p.p+waN x.r≤B
 lo:x.lo≤B
 mi:x.mi≤B
theorem ZEp {y:List Int} {k:Int} {m:Nat} (hk:1≤k) (hy:y.length=y.length / k.toNat*k.toNat) (hm:m≤y.length / k.toNat):(y.take (m*k.toNat)).length=m*k.toNat:=by
 have h1:m*k.toNat≤y.length / k.toNat*k.toNat:=Nat.mul_le_mul_right _ hm
 rw [List.length_take]
 omega
theorem Zuc {y:List Int} (h:y.all ZbI=true) (m:Nat):(y.take m).all ZbI=true:=by
 rw [List.all_eq_true] at h ⊢
 intro x hx
 exact h x (List.mem_of_mem_take hx)
theorem ZGm {x:Br} {ch B:Int} (h:okB x ch B) (hc:1≤ch∧ch≤8) {y:List Int} {V:Nat} (hy:y.length=V*ch.toNat) (hV:V≤65536) (ha:y.all ZbI=true) (hB:B+V≤1000000000000) :
  puE x ch y=0∧okB (puR x ch y) ch (B+V)∧puN x ch y=min (V:Int) (x.q - waN x.r)∧puL x ch y=(V:Int) - puN x ch y∧(puR x ch y).lo=x.lo+puL x ch y∧(puR x ch y).mi=x.mi∧
  (puR x ch y).q=x.q∧(puR x ch y).c=x.c∧(puR x ch y).r.p=x.r.p∧waN (puR x ch y).r=waN x.r+puN x ch y∧(puR x ch y).r.l=x.r.l++y.take ((puN x ch y).toNat*ch.toNat)∧0≤puN x ch y∧puN x ch y≤V:=by
 obtain ⟨b1,b2,b3,b4,b5,b6⟩:=Zkf h.v
 have hl:=h.len
 obtain ⟨w1,w2,w3⟩:=Zec b1 (by omega)
 have hby:ZaL ch y=true:=Za5 hc hy hV ha
 have hd:y.length / ch.toNat=V:=by rw [hy,Nat.mul_div_cancel _ (by omega)]
 have eE:puE x ch y=0:=by
  unfold puE
  rw [if_neg (by rw [h.v,hby]; decide),if_neg (by rw [h.c]; simp)]
 have eN:puN x ch y=min (V:Int) (x.q - waN x.r):=by unfold puN; rw [hd]
 have hN:0≤puN x ch y∧puN x ch y≤V:=by rw [eN]; omega
 have eL:puL x ch y=(V:Int) - puN x ch y:=by unfold puL; rw [if_pos eE,hd]
 have hlo:=h.lo
 have hfar:=h.far
 have ht:(y.take ((puN x ch y).toNat*ch.toNat)).length=(puN x ch y).toNat*ch.toNat:=ZEp hc.1 (by rw [hd]; exact hy) (by rw [hd]; omega)
 obtain ⟨⟨k1,k2⟩,k3,k4,k5⟩:=ZW (ZA b1).2 (by omega)
 have hxc:=h.c
 have e1:(x.r.l.length+(y.take ((puN x ch y).toNat*ch.toNat)).length) / x.r.c.toNat=x.r.l.length / x.r.c.toNat+(puN x ch y).toNat:=by
  rw [ht,k3,hxc,Nat.add_mul_div_right _ _ (by omega),Nat.mul_div_cancel _ (by omega)]
 have hsum:((x.r.l.length / x.r.c.toNat+(puN x ch y).toNat:Nat):Int)≤65536:=by rw [eN]; omega
 have fE:feE x.r ch (y.take ((puN x ch y).toNat*ch.toNat))=0:=by
  unfold feE
  have hbt:ZaL ch (y.take ((puN x ch y).toNat*ch.toNat))=true:=Za5 hc ht (by omega) (Zuc ha _)
  rw [if_neg (by rw [b1,hbt]; decide),if_neg (by rw [hxc]; simp),if_neg (by rw [e1]; omega)]
 obtain ⟨f1,f2,f3⟩:=ZAn fE (by omega) (by rw [ht]; have:=Nat.mul_le_mul (show (puN x ch y).toNat≤65536 by omega) (show ch.toNat≤8 by omega); omega)
 have eR:puR x ch y=⟨x.q,x.c,feR x.r ch (y.take ((puN x ch y).toNat*ch.toNat)),x.lo+((V:Int) - puN x ch y),x.mi⟩:=by
  unfold puR
  rw [if_pos eE,hd,IntWalk.i64_in _ (by omega)]
 have eW:waN (feR x.r ch (y.take ((puN x ch y).toNat*ch.toNat)))=waN x.r+puN x ch y:=by
  have e2:waN (feR x.r ch (y.take ((puN x ch y).toNat*ch.toNat)))=(((x.r.l.length+(y.take ((puN x ch y).toNat*ch.toNat)).length) / x.r.c.toNat:Nat):Int):=by
   unfold waN
   rw [if_pos f2,f1]
   show (((x.r.l++_).length / x.r.c.toNat:Nat):Int)=_
   rw [List.length_append]
  rw [e2,e1,w1]
  omega
 have hV2:brV (puR x ch y)=true:=by
  rw [eR]
  simp only [brV,Bool.and_eq_true,decide_eq_true_eq]
  exact ⟨⟨⟨⟨⟨⟨f2,b2⟩,b3.1⟩,b3.2⟩,by rw [eW,eN]; omega⟩,by omega⟩,b6⟩
 have hmi:=h.mi
 have hlen:=ZFe f2 (by omega)
 rw [eR] at hV2 ⊢
 refine ⟨eE,⟨hV2,by show (feR _ _ _).c=ch; rw [f1]; exact hxc,hlen,?_,by show x.lo+_≤_; omega,by show x.mi≤_; omega⟩,eN,eL,by rw [eL],rfl,rfl,rfl,by show (feR _ _ _).p=_; rw [f1],eW,by show (feR _ _ _).l=_; rw [f1],hN⟩
 show (feR x.r ch _).p.p+waN (feR x.r ch _)≤_
 rw [eW,f1]
 show x.r.p.p+(waN x.r+puN x ch y)≤_
 omega
theorem ZBg {x:Br} {ch B:Int} (h:okB x ch B) (hc:1≤ch∧ch≤8) {i:Int} (hi:0≤i∧i≤65536) (hB:B+i≤1000000000000) :
  plE x i=0∧okB (plR x i) ch (B+i)∧(plR x i).lo=x.lo∧plM x i=i - plK x i∧(plR x i).mi=x.mi+plM x i∧(plR x i).q=x.q∧(plR x i).c=x.c∧(plR x i).r=poR (plA x) (plK x i)∧
  (0≤plK x i∧plK x i≤i)∧ned (plA x).p (plK x i)≤waN x.r∧(plR x i).r.p.p=x.r.p.p+qN (plA x).p (plK x i).toNat∧waN (plR x i).r=waN x.r - qN (plA x).p (plK x i).toNat∧(qN (plA x).p (plK x i).toNat:Int)≤waN x.r:=by
 obtain ⟨b1,b2,b3,b4,b5,b6⟩:=Zkf h.v
 have hl:=h.len
 obtain ⟨w1,w2,w3⟩:=Zec b1 (by omega)
 have hA:=ZGk h.v
 have hp:=(ZA hA).1
 have hK:=ZBe h.v (by omega) hi
 obtain ⟨K,hKe⟩:∃ K:Nat,plK x i=(K:Int):=⟨(plK x i).toNat,by omega⟩
 have hm:=Znc hp w2
 have hKm:K≤mkN (plA x).p (waN x.r):=by
  have:plK x i≤((mkN (plA x).p (waN x.r):Nat):Int):=by unfold plK; omega
  omega
 have hned:ned (plA x).p (K:Int)≤waN x.r:=(hm.2 K (by omega)).1 hKm
 have hq:=Zg1 hp (n:=K) (by omega)
 have hqe:=ZfW hp (g:=K) (by omega)
 have hfar:=h.far
 have hpos:(plA x).p.p=x.r.p.p:=rfl
 have e0:rcE (plA x) (K:Int)=0:=Zvl hA (by omega)
 have eP:poE (plA x) (K:Int)=0:=by
  have h0:phC (plA x).p (K:Int)=0:=ZfA hp (by omega)
  show adE (plA x).p (K:Int)=0
  unfold adE
  have h1:atP (plA x).p (K:Int)=(plA x).p.p+qAt (plA x).p (K:Int):=by unfold atP; rw [if_pos h0]
  rw [if_pos h0,h1,if_neg (by omega)]
 have eT:tkE (plA x) (K:Int)=0:=by
  unfold tkE
  rw [if_neg (by rw [e0]; decide),if_neg ?_,eP]
  show ¬ (((x.r.l.length / x.r.c.toNat:Nat):Int) < ned (plA x).p (K:Int))
  omega
 have eE:plE x i=0:=by
  unfold plE
  rw [if_neg (by rw [h.v]; decide),if_neg (by simp only [Bool.or_eq_true,decide_eq_true_eq]; omega),hKe,eT]
 have eM:plM x i=i - plK x i:=by unfold plM; rw [if_pos eE]
 have hmi:=h.mi
 have eR:plR x i=⟨x.q,x.c,poR (plA x) (plK x i),x.lo,x.mi+(i - plK x i)⟩:=by
  unfold plR
  rw [if_pos eE,IntWalk.i64_in _ (by omega)]
 obtain ⟨p1,p2,p3,p4,p5⟩:=ZHU hA (by show x.r.l.length≤_; omega) eP
 obtain ⟨⟨k1,k2⟩,k3,k4,k5⟩:=ZW (ZA b1).2 (by omega)
 have hW:waN (poR (plA x) (K:Int))=waN x.r - qN (plA x).p K:=by
  have e1:(poR (plA x) (K:Int)).l=x.r.l.drop (min x.r.l.length (qN (plA x).p K*x.r.c.toNat)):=by unfold poR; rw [if_pos eP]; rfl
  have hle:qN (plA x).p K≤x.r.l.length / x.r.c.toNat:=by omega
  have hle2:qN (plA x).p K*x.r.c.toNat≤x.r.l.length / x.r.c.toNat*x.r.c.toNat:=Nat.mul_le_mul_right _ hle
  have e2:(poR (plA x) (K:Int)).l.length=(x.r.l.length / x.r.c.toNat - qN (plA x).p K)*x.r.c.toNat:=by
   rw [e1,List.length_drop,Nat.sub_mul]
   omega
  have e3:waN (poR (plA x) (K:Int))=(((poR (plA x) (K:Int)).l.length / x.r.c.toNat:Nat):Int):=by unfold waN; rw [if_pos p1,p2]; rfl
  rw [e3,e2,Nat.mul_div_cancel _ (by omega),w1]
  omega
 have hpp:(poR (plA x) (K:Int)).p.p=x.r.p.p+qN (plA x).p K:=by rw [p4,hqe.1]; rfl
 rw [eR,eM,hKe,Int.toNat_natCast]
 have hlo:=h.lo
 refine ⟨eE,⟨?_,by show (poR _ _).c=ch; rw [p2]; exact h.c,by show (poR _ _).l.length≤_; exact Nat.le_trans p3 hl,by show (poR _ _).p.p+waN (poR _ _)≤_; rw [hpp,hW]; omega,by show x.lo≤_; omega,by show x.mi+_≤_; omega⟩,rfl,rfl,rfl,rfl,rfl,rfl,by omega,hned,hpp,hW,by omega⟩
 simp only [brV,Bool.and_eq_true,decide_eq_true_eq]
 exact ⟨⟨⟨⟨⟨⟨p1,b2⟩,b3.1⟩,b3.2⟩,by rw [hW]; omega⟩,b5⟩,by omega⟩
theorem ZEN {x y:Br} (h1:x.q=y.q) (h2:x.c=y.c) (h3:x.r.c=y.r.c) (h4:x.r.p=y.r.p) (h5:x.r.l=y.r.l) (h6:x.lo=y.lo) (h7:x.mi=y.mi):x=y:=by
 obtain ⟨q,c,⟨a,b,l⟩,lo,mi⟩:=x
 obtain ⟨q2,c2,⟨a2,b2,l2⟩,lo2,mi2⟩:=y
 simp only at h1 h2 h3 h4 h5 h6 h7
 subst h1 h2 h3 h4 h5 h6 h7
 rfl
theorem ZGl {x:Br} {ch B:Int} (h:okB x ch B) (hc:1≤ch∧ch≤8) {p:Ph} (hp:phV p=true) {s:List Int} {N W:Nat} (hr:plA x=stR p ch s N) (hs:s.length=W*ch.toNat) (ha:s.all ZbI=true) (hW:W≤900) (hfew:mkN p (W:Int) < 65536) (hN6:N≤65536) (hN:ned p N≤W) (hpp:p.p+W≤1000000000000) {i:Nat} (hi:i≤65536) (hB:B+i≤1000000000000) :
  N≤mkN p W∧plK x i=((min (mkN p W - N) i:Nat):Int)∧waN x.r=((W - qN p N:Nat):Int)∧ned p ((N+min (mkN p W - N) i:Nat):Int)≤W∧(plR x i).r=stR p ch s (N+min (mkN p W - N) i)∧ooL p ch s N++ZcQ (plA x) (plK x i).toNat=ooL p ch s (N+min (mkN p W - N) i):=by
 obtain ⟨v1,v2,v3,v4⟩:=Zyi hp hc hs ha (by omega) hN6 hN (by omega)
 have b1:=(Zkf h.v).1
 have hl:=h.len
 obtain ⟨m1,m2,m3⟩:=ZAY hp (ZA v1).1 hN hN6 hfew
 have hw:waN x.r=((W - qN p N:Nat):Int):=by
  rw [(Zec b1 (by omega)).1]
  have e1:x.r.l=(stR p ch s N).l:=by rw [← hr]; rfl
  rw [e1,h.c,v3]
 have hK:plK x i=((min (mkN p W - N) i:Nat):Int):=by
  unfold plK
  have e2:(plA x).p=adv p N:=by rw [hr]; rfl
  rw [e2,hw,m3]
  omega
 have hM1:=(Zaz hp (n:=(W:Int)) (Int.natCast_nonneg _) (k:=mkN p W) (by omega)).1 (Nat.le_refl _)
 obtain ⟨p1,p2,p3,p4,p5,p6,p7,p8,p9,p10,p11,p12,p13⟩:=ZBg h hc (i:=(i:Int)) (by omega) (by omega)
 generalize hk:min (mkN p W - N) i=K at *
 have hKn:ned p ((N+K:Nat):Int)≤W:=Int.le_trans (Zfq hp (by omega) (by omega) (by omega)) hM1
 obtain ⟨t1,t2,t3,t4⟩:=Zt1 hp (N:=N) (n:=K) hc hs ha (by omega) (by omega) hKn (by omega)
 refine ⟨m1,hK,hw,hKn,?_,?_⟩
 ·rw [p8,hr,hK,← t3]
  unfold tkR
  rw [if_pos t1]
 ·rw [hr,hK,Int.toNat_natCast,← t4]
  unfold tkO
  rw [if_pos t1]
  rfl
theorem ZFi {x:Sm} (h1:1≤x.st∧x.st≤7) (h2:1≤x.q∧x.q≤65536) (h3:0≤x.s0∧x.s0≤x.q) (h4:rsV x.r=true) (h5:x.r.p.a=0) (h6:0≤x.wr) (h7:0≤x.pl) (h8:0≤x.mi):smB x=true:=by
 simp only [smB,Bool.and_eq_true,decide_eq_true_eq,beq_iff_eq]
 exact ⟨⟨⟨⟨⟨⟨⟨⟨⟨⟨h1.1,h1.2⟩,h2.1⟩,h2.2⟩,h3.1⟩,h3.2⟩,h4⟩,h5⟩,h6⟩,h7⟩,h8⟩
theorem ZH5 {x:Sm} (hB:smB x=true) (hd:x.di=1) (hw:waN x.r≤x.q) (hg:noG x.g=true):smV x=true:=by
 unfold smV
 rw [hB,if_pos hd,hg,decide_eq_true hw]
 rfl
theorem ZL3 {x:Sm} (hB:smB x=true) (hd:x.di=2) (hg:rgV x.g=true) (hq:x.g.q=x.q) (hc:x.g.c=x.r.c):smV x=true:=by
 unfold smV
 rw [hB,if_neg (by omega),if_pos hd,hg,hq,hc]
 simp
theorem ZFc {x:Rg} (h1:1≤x.q∧x.q≤65536) (h2:0≤x.r∧x.r≤x.w∧x.w≤1125899906842624) (h3:ZaL x.c x.l=true) (h4:x.w - x.r=((x.l.length / x.c.toNat:Nat):Int)) (h5:x.w - x.r≤x.q):rgV x=true:=by
 simp only [rgV,Bool.and_eq_true,decide_eq_true_eq,beq_iff_eq]
 exact ⟨⟨⟨⟨⟨⟨⟨h1.1,h1.2⟩,h2.1⟩,h2.2.1⟩,h2.2.2⟩,h3⟩,h4⟩,h5⟩
structure okS (x:Sm) (di ch:Int) (k:Nat):Prop where
 v:smV x=true
 d:x.di=di
 c:x.r.c=ch
 ll:x.r.l.length≤524288
 gl:x.g.l.length≤524288
 wr:x.wr≤70000*(k:Int)
 pl:x.pl≤70000*(k:Int)
 mi:x.mi≤70000*(k:Int)
 pp:x.r.p.p≤62000000003*(k:Int)
theorem ZA9 {p:Ph} (h:phV p=true) (c:Int) {s:List Int} (ha:s.all ZbI=true):∀ N:Nat,N≤65536→(ooL p c s N).all ZbI=true
 | 0,_=>rfl
 | N+1,hN=>by
  rw [ooL,List.all_append,ZA9 h c ha N (by omega),Bool.true_and,List.all_eq_true]
  intro x hx
  rw [List.mem_map] at hx
  obtain ⟨j,_,rfl⟩:=hx
  have hp:=Zdf h
  have hq:=Zbk h (n:=(N:Int)) (by omega)
  have:=ZEO (a:=s[qN p N*c.toNat+j]?.getD 0) (b:=s[(qN p N+1)*c.toNat+j]?.getD 0) (f:=fAt p N) (P:=prt p) (by omega) ⟨hq.2.1,hq.2.2.1⟩ (Ze2 ha _) (Ze2 ha _)
  simp only [ZbI,Bool.and_eq_true,decide_eq_true_eq]
  exact this
theorem ZHL {p:Ph} (h:phV p=true) {n:Int} (h0:0≤n) {k:Nat} (hk:k < 65536) (h1:ned p k≤n) (h2:n < ned p ((k+1:Nat):Int)):mkN p n=k:=by
 have a:=(Zaz h h0 (show k≤65536 by omega)).2 h1
 have b:=Zaz h h0 (show k+1≤65536 by omega)
 have:¬ (k+1≤mkN p n):=fun h=>by have:=b.1 h; omega
 omega
def P1:Ph:=⟨1,1,0,0,0⟩
theorem ZLF:phV P1=true:=by decide +kernel
theorem ZFa (k:Int):qAt P1 k=k∧fAt P1 k=0:=by
 have e:ahd P1 k=k*65536:=by
  unfold ahd
  have h1:stp P1=65536:=by decide
  rw [h1]
  show (0:Int)+_=_
  omega
 have h2:prt P1=65536:=by decide
 unfold qAt fAt
 rw [e,h2]
 omega
theorem ZDK (k:Nat):qN P1 k=k:=by unfold qN; rw [(ZFa k).1]; rfl
theorem ZLT {F:Nat} (h1:1≤F) (h2:F≤60000):mkN P1 (F:Int)=F - 1:=by
 refine ZHL ZLF (by omega) (by omega) ?_ ?_
 ·unfold ned
  split
  ·omega
  ·rw [(ZFa _).1,(ZFa _).1]; omega
 ·unfold ned
  rw [if_neg (by omega),(ZFa _).1,(ZFa _).1]
  omega
theorem ZDc (a b:Int) {P:Int} (hP:0 < P):btw a b 0 P=a:=by
 unfold btw
 rw [Int.sub_zero,Int.mul_zero,Int.add_zero,Int.add_comm,Int.add_mul_ediv_right _ _ (by omega),Int.ediv_eq_zero_of_lt (by omega) (by omega),Int.zero_add]
theorem ZBa (c:Int) {s:List Int} {F:Nat} (hs:s.length=F*c.toNat):∀ N:Nat,N≤F→ooL P1 c s N=s.take (N*c.toNat)
 | 0,_=>by simp [ooL]
 | N+1,hN=>by
  have hP:(0:Int) < prt P1:=by decide
  have hb:=Nat.mul_le_mul_right c.toNat hN
  rw [Nat.add_mul,Nat.one_mul] at hb
  rw [ooL,ZBa c hs N (by omega),Nat.add_mul,Nat.one_mul,List.take_add]
  congr 1
  apply List.ext_getElem
  ·rw [List.length_map,List.length_range,List.length_take,List.length_drop]; omega
  ·intro j h1 h2
   rw [List.length_map,List.length_range] at h1
   rw [List.getElem_map,List.getElem_range,List.getElem_take,List.getElem_drop]
   unfold ocX
   rw [ZDK,(ZFa N).2,ZDc _ _ hP,List.getElem?_eq_getElem (by omega)]
   rfl
theorem ZE9 {N:Nat} {W:Nat} (h:N+1≤W):ned P1 (N:Int)≤W:=by
 unfold ned
 split
 ·omega
 ·rw [(ZFa _).1,(ZFa _).1]; omega
def eqB (q:Int) (ct:Ct) (ch:Int) (s:List Int) (N:Nat):Br:=⟨q,ct,stR P1 ch s N,0,0⟩
theorem Zw2 {q:Int} {ct:Ct} {ch:Int} {s:List Int} {N W:Nat} (hc:1≤ch∧ch≤8) (hct:ctV ct=true) (hs:s.length=W*ch.toNat) (ha:s.all ZbI=true) (hW:W≤900) (hN:N+1≤W) (hq:((W - N:Nat):Int)≤q∧q≤65536):okB (eqB q ct ch s N) ch 1000∧waN (eqB q ct ch s N).r=((W - N:Nat):Int):=by
 obtain ⟨v1,v2,v3,v4⟩:=Zyi ZLF hc hs ha (by omega) (by omega) (ZE9 hN) (by show (0:Int)+W≤_; omega)
 rw [ZDK] at v2 v3
 have hw:waN (stR P1 ch s N)=((W - N:Nat):Int):=by
  unfold waN
  rw [if_pos v1]
  show (((stR P1 ch s N).l.length / ch.toNat:Nat):Int)=_
  rw [v3]
 have hl:=ZFe v1 (by rw [v2]; have:=Nat.mul_le_mul (show W - N≤900 by omega) (show ch.toNat≤8 by omega); omega)
 refine ⟨⟨?_,rfl,hl,?_,by show (0:Int)≤_; omega,by show (0:Int)≤_; omega⟩,hw⟩
 ·simp only [brV,Bool.and_eq_true,decide_eq_true_eq]
  exact ⟨⟨⟨⟨⟨⟨v1,hct⟩,by show 1≤q; omega⟩,hq.2⟩,by show waN (stR P1 ch s N)≤q; rw [hw]; exact hq.1⟩,Int.le_refl 0⟩,Int.le_refl 0⟩
 ·show (0:Int)+(qN P1 N:Int)+waN (stR P1 ch s N)≤1000
  rw [hw,ZDK]
  omega
theorem ZFV {q:Int} {ct:Ct} {ch:Int} {s:List Int} {N W n:Nat} (hc:1≤ch∧ch≤8) (hct:ctV ct=true) (hs:s.length=W*ch.toNat) (ha:s.all ZbI=true) (hW:W≤900) (hN:N+n+1≤W) (hq:((W - N:Nat):Int)≤q∧q≤65536) (ht:ct.t=((W - N:Nat):Int)) :
  plE (eqB q ct ch s N) n=0∧plM (eqB q ct ch s N) n=0∧plC (eqB q ct ch s N) n=ch∧plR (eqB q ct ch s N) n=eqB q ct ch s (N+n)∧s.take (N*ch.toNat)++plO (eqB q ct ch s N) n=s.take ((N+n)*ch.toNat):=by
 obtain ⟨hok,hw⟩:=Zw2 hc hct hs ha hW (show N+1≤W by omega) hq
 have hz:ajX ct (waN (eqB q ct ch s N).r)=0:=by
  have h1:=Zpz hct
  have h2:szX ct (ct.t - ct.t)=0:=by
   unfold szX
   rw [show max 0 (ct.t - ct.t - ct.d)=0 by omega,Int.zero_mul]
   omega
  rw [hw,← ht]
  unfold ajX
  rw [if_neg (by rw [hct]; decide),if_neg (by simp only [Bool.or_eq_true,decide_eq_true_eq]; omega),if_neg (by omega),h2]
 have hA:plA (eqB q ct ch s N)=stR P1 ch s N:=by
  unfold plA
  have hz2:ajX (eqB q ct ch s N).c (waN (eqB q ct ch s N).r)=0:=hz
  rw [hz2]
  rfl
 have hmk:=ZLT (F:=W) (by omega) (by omega)
 obtain ⟨m1,m2,m3,m4,m5,m6⟩:=ZGl hok hc ZLF hA hs ha hW (by rw [hmk]; omega) (by omega) (ZE9 (by omega)) (by show (0:Int)+W≤_; omega) (i:=n) (by omega) (by omega)
 have hK:min (mkN P1 (W:Int) - N) n=n:=by rw [hmk]; omega
 rw [hK] at m2 m4 m5 m6
 obtain ⟨p1,p2,p3,p4,p5,p6,p7,p8,p9,p10,p11,p12,p13⟩:=ZBg hok hc (i:=(n:Int)) (by omega) (by omega)
 have hM:plM (eqB q ct ch s N) n=0:=by rw [p4,m2]; omega
 refine ⟨p1,hM,by unfold plC; rw [if_pos p1]; rfl,?_,?_⟩
 ·refine ZEN p6 p7 ?_ ?_ ?_ (by rw [p3]; rfl) (by rw [p5,hM]; rfl)
  ·rw [m5]; rfl
  ·rw [m5]; rfl
  ·rw [m5]; rfl
 ·unfold plO
  rw [if_pos p1,m2,Int.toNat_natCast,Nat.sub_self,Nat.zero_mul,List.replicate_zero,List.append_nil]
  rw [m2,Int.toNat_natCast,ZBa ch hs N (by omega),ZBa ch hs (N+n) (by omega)] at m6
  exact m6
theorem ZFW {q:Int} {ct:Ct} {ch:Int} {s y:List Int} {N W n:Nat} (hc:1≤ch∧ch≤8) (hct:ctV ct=true) (hs:s.length=W*ch.toNat) (ha:s.all ZbI=true) (hy:y.length=n*ch.toNat) (hya:y.all ZbI=true) (hW:W+n≤900) (hN:N+1≤W) (hq:((W - N+n:Nat):Int)≤q∧q≤65536) :
  puE (eqB q ct ch s N) ch y=0∧puL (eqB q ct ch s N) ch y=0∧puR (eqB q ct ch s N) ch y=eqB q ct ch (s++y) N:=by
 obtain ⟨hok,hw⟩:=Zw2 hc hct hs ha (by omega) hN (q:=q) (by omega)
 obtain ⟨p1,p2,p3,p4,p5,p6,p7,p8,p9,p10,p11,p12,p13⟩:=ZGm hok hc hy (by omega) hya (by omega)
 have hq2:(eqB q ct ch s N).q=q:=rfl
 have hP:puN (eqB q ct ch s N) ch y=n:=by rw [p3,hw,hq2]; omega
 have hL:puL (eqB q ct ch s N) ch y=0:=by rw [p4,hP]; omega
 refine ⟨p1,hL,?_⟩
 refine ZEN p7 p8 (by rw [p2.c]; rfl) (by rw [p9]; rfl) ?_ (by rw [p5,hL]; rfl) p6
 rw [p11,hP,Int.toNat_natCast,← hy,List.take_length]
 show s.drop _++y=(s++y).drop _
 rw [ZDK,List.drop_append_of_le_length]
 rw [hs]
 exact Nat.mul_le_mul_right _ (by omega)
structure giH (P:Ph) (b:List Int) (F:Nat):Prop where
 hp:phV P=true
 h0:P.p=0
 h1:P.a=0
 hb:b.length=F*2
 ha:b.all ZbI=true
 hF:F≤39
 hr:P.d≤20*P.n
structure rcH (c:Int) (s:List Int) (T R:Nat):Prop where
 hc:1≤c∧c≤8
 hs:s.length=T*c.toNat
 ha:s.all ZbI=true
 hT:T≤300
 hR:R≤T - 1
 hD:T - 1 - R≤64
def ctT:Ct:=⟨29,4,16,0⟩
theorem ZwZ:ctV ctT=true:=by decide
theorem ZEQ {m:List Int} (h:chV m=true):bnR (m.length:Nat) 1 1 ⟨29,4,16,0⟩ 37 13=eqB 37 ctT (m.length:Nat) (List.replicate (13*m.length) 0) 0:=by
 rw [(Zpm h).2]
 unfold eqB
 rw [ZnL ZLF,show ((m.length:Int)*13).toNat=13*m.length by omega]
 rfl
theorem ZGu (n c:Nat):(List.replicate (n*c) (0:Int)).length=n*(c:Int).toNat:=by rw [List.length_replicate,Int.toNat_natCast]
theorem ZsV (n:Nat):(List.replicate n (0:Int)).all ZbI=true:=by
 rw [List.all_eq_true]
 intro z hz
 rw [List.eq_of_mem_replicate hz]
 decide
theorem ZAj {c:Int} {s y:List Int} {k:Nat} (hc:1≤c∧c≤8) (hs:s.length=(13+16*k)*c.toNat) (ha:s.all ZbI=true) (hy:y.length=16*c.toNat) (hya:y.all ZbI=true) (hk:k≤50) :
  puE (eqB 37 ctT c s (16*k)) c y=0∧puL (eqB 37 ctT c s (16*k)) c y=0∧plE (puR (eqB 37 ctT c s (16*k)) c y) 16=0∧plM (puR (eqB 37 ctT c s (16*k)) c y) 16=0∧plC (puR (eqB 37 ctT c s (16*k)) c y) 16=c∧plR (puR (eqB 37 ctT c s (16*k)) c y) 16=eqB 37 ctT c (s++y) (16*(k+1))∧plO (puR (eqB 37 ctT c s (16*k)) c y) 16=((s++y).drop (16*k*c.toNat)).take (16*c.toNat)∧(puR (eqB 37 ctT c s (16*k)) c y).r.l.length≤1000000∧brV (eqB 37 ctT c s (16*k))=true∧(eqB 37 ctT c s (16*k)).r.l.length≤1000000∧(s++y).length=(13+16*(k+1))*c.toNat∧(s++y).all ZbI=true:=by
 have hsy:(s++y).length=(13+16*k+16)*c.toNat:=by rw [List.length_append,hs,hy,Nat.add_mul (13+16*k)]
 have hsya:(s++y).all ZbI=true:=by rw [List.all_append,ha,hya]; rfl
 obtain ⟨v1,v2,v3⟩:=ZFW (q:=37) (ct:=ctT) (ch:=c) (s:=s) (y:=y) (N:=16*k) (W:=13+16*k) (n:=16) hc ZwZ hs ha hy hya (by omega) (by omega) (by omega)
 obtain ⟨u1,u2,u3,u4,u5⟩:=ZFV (q:=37) (ct:=ctT) (ch:=c) (s:=s++y) (N:=16*k) (W:=13+16*k+16) (n:=16) hc ZwZ hsy hsya (by omega) (by omega) (by omega) (by show (29:Int)=_; omega)
 obtain ⟨o1,o2⟩:=Zw2 (q:=37) (ct:=ctT) (ch:=c) (s:=s) (N:=16*k) (W:=13+16*k) hc ZwZ hs ha (by omega) (by omega) (by omega)
 obtain ⟨o3,o4⟩:=Zw2 (q:=37) (ct:=ctT) (ch:=c) (s:=s++y) (N:=16*k) (W:=13+16*k+16) hc ZwZ hsy hsya (by omega) (by omega) (by omega)
 have h16:((16:Nat):Int)=16:=rfl
 rw [h16] at u1 u2 u3 u4 u5
 have l1:=o1.len
 have l3:=o3.len
 have hm:=Nat.mul_le_mul_right c.toNat (show 16*k≤13+16*k+16 by omega)
 have hO:plO (eqB 37 ctT c (s++y) (16*k)) 16=((s++y).drop (16*k*c.toNat)).take (16*c.toNat):=by
  rw [Nat.add_mul,List.take_add] at u5
  exact List.append_cancel_left u5
 rw [v3]
 refine ⟨v1,v2,u1,u2,u3,u4,hO,by omega,o1.v,by omega,?_,hsya⟩
 rw [hsy]
 congr 1
theorem ZFK:puE (bnR 1 1 1 ⟨29,4,16,0⟩ 37 13) 1 (5::List.replicate 15 0)=0∧plE (puR (bnR 1 1 1 ⟨29,4,16,0⟩ 37 13) 1 (5::List.replicate 15 0)) 16=0∧plO (puR (bnR 1 1 1 ⟨29,4,16,0⟩ 37 13) 1 (5::List.replicate 15 0)) 16=List.replicate 13 0++[5,0,0]∧(puR (bnR 1 1 1 ⟨29,4,16,0⟩ 37 13) 1 (5::List.replicate 15 0)).r.l.length≤1000000∧brV (bnR 1 1 1 ⟨29,4,16,0⟩ 37 13)=true∧(bnR 1 1 1 ⟨29,4,16,0⟩ 37 13).r.l.length≤1000000∧waN (bnR 1 1 1 ⟨29,4,16,0⟩ 37 13).r=13:=by
 have h:=ZEQ (m:=[3]) (by decide)
 have h1:(([3]:List Int).length:Nat)=1:=rfl
 have h1c:((1:Nat):Int)=1:=rfl
 rw [h1,h1c,Nat.mul_one] at h
 rw [h]
 obtain ⟨a1,a2,a3,a4,a5,a6,a7,a8,a9,a10,a11⟩:=ZAj (c:=1) (s:=List.replicate 13 0) (y:=5::List.replicate 15 0) (k:=0) (by decide) (by decide) (by decide) (by decide) (by decide) (by decide)
 have e:=(Zw2 (q:=37) (ct:=ctT) (ch:=1) (s:=List.replicate 13 0) (N:=0) (W:=13) (by decide) ZwZ (by decide) (by decide) (by decide) (by decide) (by decide)).2
 rw [Nat.mul_zero] at a1 a2 a3 a4 a5 a6 a7 a8 a9 a10
 exact ⟨a1,a3,a7,a8,a9,a10,e⟩
def nwS (di ch n d q s0 st:Int):Sm:=⟨di,st,q,s0,⟨ch,⟨n,d,0,0,0⟩,[]⟩,if di=2 then ⟨ch,q,0,0,[]⟩ else rg0,0,0,0⟩
theorem ZNI {di ch n d q s0 st:Int} (hp:phV ⟨n,d,0,0,0⟩=true) (hc:1≤ch∧ch≤8) (hq:1≤q∧q≤65536) (h0:0≤s0∧s0≤q) (hs:1≤st∧st≤7) (hd:di=1∨di=2):okS (nwS di ch n d q s0 st) di ch 0:=by
 have hv:rsV ⟨ch,⟨n,d,0,0,0⟩,[]⟩=true:=by
  unfold rsV
  rw [hp,Zhy hc]
  rfl
 have hw:waN ⟨ch,⟨n,d,0,0,0⟩,[]⟩=0:=by rw [(Zec hv (Nat.zero_le _)).1]; simp
 have hB:smB (nwS di ch n d q s0 st)=true:=ZFi hs hq h0 hv rfl (by show (0:Int)≤0; decide) (by show (0:Int)≤0; decide) (by show (0:Int)≤0; decide)
 rcases hd with rfl | rfl
 ·exact ⟨ZH5 hB rfl (by show waN ⟨ch,⟨n,d,0,0,0⟩,[]⟩≤q; rw [hw]; omega) rfl,rfl,rfl,Nat.zero_le _,Nat.zero_le _,by show (0:Int)≤70000*((0:Nat):Int); decide,by show (0:Int)≤70000*((0:Nat):Int); decide,by show (0:Int)≤70000*((0:Nat):Int); decide,by show (0:Int)≤62000000003*((0:Nat):Int); decide⟩
 ·exact ⟨ZL3 hB rfl (ZFc hq ⟨by show (0:Int)≤0; decide,by show (0:Int)≤0; decide,by show (0:Int)≤1125899906842624; decide⟩ (Zhy hc) (by simp [nwS]) (by show (0:Int) - 0≤q; omega)) rfl rfl,rfl,rfl,Nat.zero_le _,Nat.zero_le _,by show (0:Int)≤70000*((0:Nat):Int); decide,by show (0:Int)≤70000*((0:Nat):Int); decide,by show (0:Int)≤70000*((0:Nat):Int); decide,by show (0:Int)≤62000000003*((0:Nat):Int); decide⟩
theorem ZDZ {di ch n d q s0:Int} (hp:phV ⟨n,d,0,0,0⟩=true) (hc:1≤ch∧ch≤8) (hq:1≤q∧q≤65536) (h0:0≤s0∧s0≤q) (hd:di=1∨di=2):snE di ch n d q s0=0∧snR di ch n d q s0=nwS di ch n d q s0 1:=by
 have hv:rsV ⟨ch,⟨n,d,0,0,0⟩,[]⟩=true:=by
  unfold rsV
  rw [hp,Zhy hc]
  rfl
 have hg:rgV ⟨ch,q,0,0,[]⟩=true:=ZFc hq ⟨by show (0:Int)≤0; decide,by show (0:Int)≤0; decide,by show (0:Int)≤1125899906842624; decide⟩ (Zhy hc) (by simp) (by show (0:Int) - 0≤q; omega)
 have e:snS di ch n d q s0=nwS di ch n d q s0 1:=by
  unfold snS nwR rnR
  rw [if_pos hv,if_pos hg]
  rfl
 have hV:=(ZNI (st:=1) hp hc hq h0 (by decide) hd).v
 unfold snE snR
 rw [e,if_pos hV,if_pos hV]
 exact ⟨rfl,rfl⟩
theorem ZE6 (l:List UInt8):chV (ZsM l)=true:=by
 have h1:=Zm1 l 7 (by decide)
 have h2:=Zm0 l 7
 have h:∀ i:Nat,i < 7→chV (Zp3[i]?.getD [])=true:=by decide +kernel
 exact h _ (by omega)
end Go.Vam
end
