/- A part of the proof. Conditions: none. -/
import Derived.Test.YtmpbpijnbmpbhaaGreatBWm
set_option linter.unusedVariables false
set_option linter.defProp false
set_option linter.unusedSimpArgs false
set_option maxRecDepth 40000
set_option maxHeartbeats 4000000
namespace Go.Vam
open Go.Proofs
open Nat renaming reduceShiftRight→Ya,reduceMod→Yb,reduceEqDiff→Yc,reduceLT→Yd,reduceLeDiff→Ye,reduceAdd→Yf,reduceMul→Yg
open Int renaming reduceLE→Yj,reduceLT→Yk,reduceNeg→Yl,reduceAdd→Ym,reduceToNat→Yn
structure Ct where
 t:Int
 d:Int
 g:Int
 m:Int
def ctV (x:Ct):Bool:=decide (0≤x.t) && decide (x.t≤65536) && decide (0≤x.d) && decide (x.d≤65536) && decide (1≤x.g) && decide (x.g≤4096) && decide (0≤x.m) && decide (x.m≤4096)
theorem Zpz {x:Ct} (h:ctV x=true):(0≤x.t∧x.t≤65536)∧(0≤x.d∧x.d≤65536)∧(1≤x.g∧x.g≤4096)∧(0≤x.m∧x.m≤4096):=by
 simp only [ctV,Bool.and_eq_true,decide_eq_true_eq] at h
 omega
def szX (x:Ct) (d:Int):Int:=min x.m (max 0 (d - x.d)*x.g)
def ajX (x:Ct) (f:Int):Int:=if ctV x=false then 0 else if (decide (f < 0) || decide (2147483647 < f))=true then 0 else if f < x.t then -(szX x (x.t - f)) else szX x (f - x.t)
theorem ZvF {x:Ct} (h:ctV x=true) {d:Int} (hd:-2147483648≤d∧d≤2147483648):(0≤szX x d∧szX x d≤4096)∧(0≤max 0 (d - x.d)∧max 0 (d - x.d)≤2147483648)∧(0≤max 0 (d - x.d)*x.g∧max 0 (d - x.d)*x.g≤2147483648*4096):=by
 obtain ⟨h1,h2,h3,h4⟩:=Zpz h
 have hm:0≤max 0 (d - x.d)∧max 0 (d - x.d)≤2147483648:=by omega
 have hb:=ZGa (x:=max 0 (d - x.d)) (y:=x.g) (A:=2147483648) (B:=4096) hm.1 hm.2 (by omega) h3.2
 refine ⟨?_,hm,hb⟩
 unfold szX
 omega
theorem ZzC (x:Ct) (f:Int):-4096≤ajX x f∧ajX x f≤4096:=by
 unfold ajX
 split
 ·omega
 ·split
  ·omega
  ·rename_i h1 h2
   have hv:ctV x=true:=by simpa using h1
   have hc:=Zpz hv
   simp only [Bool.or_eq_true,decide_eq_true_eq,not_or] at h2
   split
   ·have:=(ZvF hv (d:=x.t - f) (by omega)).1
    omega
   ·have:=(ZvF hv (d:=f - x.t) (by omega)).1
    omega
def rtE (p:Ph) (a:Int):Int:=if phV p=false then 1 else if tuX a=false then 2 else 0
def rtP (p:Ph) (a:Int):Ph:=if rtE p a=0 then ⟨p.n,p.d,a,p.p,p.f⟩ else ⟨0,0,0,0,0⟩
structure Br where
 q:Int
 c:Ct
 r:Rs
 lo:Int
 mi:Int
def br0:Br:=⟨0,⟨0,0,0,0⟩,rs0,0,0⟩
def brV (x:Br):Bool:=rsV x.r && ctV x.c && decide (1≤x.q) && decide (x.q≤65536) && decide (waN x.r≤x.q) && decide (0≤x.lo) && decide (0≤x.mi)
theorem Zkf {x:Br} (h:brV x=true):rsV x.r=true∧ctV x.c=true∧(1≤x.q∧x.q≤65536)∧waN x.r≤x.q∧0≤x.lo∧0≤x.mi:=by
 simp only [brV,Bool.and_eq_true,decide_eq_true_eq] at h
 obtain ⟨⟨⟨⟨⟨⟨h1,h2⟩,h3⟩,h4⟩,h5⟩,h6⟩,h7⟩:=h
 exact ⟨h1,h2,⟨h3,h4⟩,h5,h6,h7⟩
def biN (x:Br):Int:=if brV x=true then waN x.r else 0
def bnE (ch n d:Int) (x:Ct) (q fi:Int):Int:=if (decide (q < 1) || decide (65536 < q) || decide (fi < 0) || decide (q < fi))=true then 2 else if (nwE ch n d != 0 || !ctV x)=true then 1 else 0
def bnR (ch n d:Int) (x:Ct) (q fi:Int):Br:=if bnE ch n d x q fi=0 then ⟨q,x,⟨ch,⟨n,d,0,0,0⟩,List.replicate (ch*fi).toNat 0⟩,0,0⟩ else br0
def puE (x:Br) (k:Int) (y:List Int):Int:=if (!brV x || !ZaL k y)=true then 1 else if k≠x.r.c then 11 else 0
def puN (x:Br) (k:Int) (y:List Int):Int:=min ((y.length / k.toNat:Nat):Int) (x.q - waN x.r)
def puL (x:Br) (k:Int) (y:List Int):Int:=if puE x k y=0 then ((y.length / k.toNat:Nat):Int) - puN x k y else 0
def puR (x:Br) (k:Int) (y:List Int):Br:=if puE x k y=0 then ⟨x.q,x.c,feR x.r k (y.take ((puN x k y).toNat*k.toNat)),IntKind.i64.wrap (x.lo+(((y.length / k.toNat:Nat):Int) - puN x k y)),x.mi⟩ else br0
def plA (x:Br):Rs:=⟨x.r.c,⟨x.r.p.n,x.r.p.d,ajX x.c (waN x.r),x.r.p.p,x.r.p.f⟩,x.r.l⟩
def plK (x:Br) (i:Int):Int:=min ((mkN (plA x).p (waN x.r):Nat):Int) i
def plE (x:Br) (i:Int):Int:=if brV x=false then 1 else if (decide (i < 0) || decide (65536 < i))=true then 2 else tkE (plA x) (plK x i)
def plC (x:Br) (i:Int):Int:=if plE x i=0 then x.r.c else 0
def plO (x:Br) (i:Int):List Int:=if plE x i=0 then ZcQ (plA x) (plK x i).toNat++List.replicate ((i.toNat - (plK x i).toNat)*x.r.c.toNat) 0 else []
def plM (x:Br) (i:Int):Int:=if plE x i=0 then i - plK x i else 0
def plR (x:Br) (i:Int):Br:=if plE x i=0 then ⟨x.q,x.c,poR (plA x) (plK x i),x.lo,IntKind.i64.wrap (x.mi+(i - plK x i))⟩ else br0
theorem ZGk {x:Br} (h:brV x=true):rsV (plA x)=true:=by
 have h1:=(Zkf h).1
 unfold rsV at h1 ⊢
 rw [Bool.and_eq_true] at h1
 have h2:=ZGj h1.1 (ZzC x.c (waN x.r))
 rw [Bool.and_eq_true]
 exact ⟨h2,h1.2⟩
theorem ZBe {x:Br} (h:brV x=true) (hl:x.r.l.length≤1000000) {i:Int} (hi:0≤i∧i≤65536):0≤plK x i∧plK x i≤i:=by
 unfold plK
 have:=Int.natCast_nonneg (mkN (plA x).p (waN x.r))
 omega
theorem ZqE (ct cd cg cm:Int):Spec Tryz.prog 0 132 [.agg [.d (.int .i64 ct),.d (.int .i64 cd),.d (.int .i64 cg),.d (.int .i64 cm)]] [] [] (vB (ctV ⟨ct,cd,cg,cm⟩)) [] []:=by
 refine sE (md:=fun _=>0) (L:=[]) [(1,[0,0,0,0,0,2199023255367,0,0,0,0,0,2199023241223,0,0,0,0,0,2199022206983,0,0,0,0,0,2198956146695,0,0,0,0,0,2196875771911,0,0,0,0,0,1992864825351,0,0,0])] 7 Zb Tryz.func132 rfl rfl rfl ?_
 simp (maxSteps:=1000000) only [↓Zn,Ze,Zd,Zm,gSt,gS0,Ya,Yb,↓reduceIte,reduceCtorEq,Yc,Yd,Ye,Yf,Yg,Yj,Yk,Yl,Ym,Yn,gE1,Tryz.ntmps132,Tryz.results132,gTT]
 rfl
def Zcc:List V→Zf→Zr→Name→Option Ent
 | [.agg [.d (.int .i64 ct),.d (.int .i64 cd),.d (.int .i64 cg),.d (.int .i64 cm)]],[],[],_=>some ⟨True,vB (ctV ⟨ct,cd,cg,cm⟩),[],[]⟩
 | _,_,_,_=>none
def ZcW:=And.intro (@Zcc.eq_1) (@Zcc.eq_1)
theorem ZcX:Snd Tryz.prog 132 Zcc:=by
 intro vs b k n e h hn hp
 unfold Zcc at h
 split at h
 ·cases h; exact (ZqE _ _ _ _).lift rfl _
 ·cases h
theorem ZtB (n d a p f b:Int):Spec Tryz.prog 0 201 [.agg [.d (.int .i64 n),.d (.int .i64 d),.d (.int .i64 a),.d (.int .i64 p),.d (.int .i64 f)],vI .i64 b] [] [] (.tup [.agg [.int .i64 (rtP ⟨n,d,a,p,f⟩ b).n,.int .i64 (rtP ⟨n,d,a,p,f⟩ b).d,.int .i64 (rtP ⟨n,d,a,p,f⟩ b).a,.int .i64 (rtP ⟨n,d,a,p,f⟩ b).p,.int .i64 (rtP ⟨n,d,a,p,f⟩ b).f],.int .i64 (rtE ⟨n,d,a,p,f⟩ b)]) [] []:=by
 refine sE (md:=fun _=>0) (L:=[(160,ZbN),(217,Zhr)]) [] 4407 (Za Zch (Za ZlL Zb)) Tryz.func201 rfl rfl rfl ?_
 simp (maxSteps:=1000000) only [↓Zn,Ze,Zd,Zm,gSt,gS0,Ya,Yb,↓reduceIte,reduceCtorEq,Yc,Yd,Ye,Yf,Yg,Yj,Yk,Yl,Ym,Yn,Zcg,ZlK,gE1,Tryz.ntmps201,Tryz.results201,gTT]
 refine ⟨fun h=>by simp [rtP,rtE,h],fun h=>?_⟩
 have hv:phV ⟨n,d,a,p,f⟩=true:=by simpa using h
 refine ⟨fun h2=>by simp [rtP,rtE,hv,h2],fun h2=>?_⟩
 have h3:tuX b=true:=by simpa using h2
 simp [rtP,rtE,hv,h3]
def Zfh:List V→Zf→Zr→Name→Option Ent
 | [.agg [.d (.int .i64 n),.d (.int .i64 d),.d (.int .i64 a),.d (.int .i64 p),.d (.int .i64 f)],.c (.d (.int .i64 b))],[],[],_=>some ⟨True,.tup [.agg [.int .i64 (rtP ⟨n,d,a,p,f⟩ b).n,.int .i64 (rtP ⟨n,d,a,p,f⟩ b).d,.int .i64 (rtP ⟨n,d,a,p,f⟩ b).a,.int .i64 (rtP ⟨n,d,a,p,f⟩ b).p,.int .i64 (rtP ⟨n,d,a,p,f⟩ b).f],.int .i64 (rtE ⟨n,d,a,p,f⟩ b)],[],[]⟩
 | _,_,_,_=>none
def Zjx:=And.intro (@Zfh.eq_1) (@Zfh.eq_1)
theorem Zjy:Snd Tryz.prog 201 Zfh:=by
 intro vs b k n e h hn hp
 unfold Zfh at h
 split at h
 ·cases h; exact (ZtB _ _ _ _ _ _).lift rfl _
 ·cases h
theorem Zte (ct cd cg cm:Int) (x:Int) (hv:ctV ⟨ct,cd,cg,cm⟩=true) (hx:-2147483648≤x∧x≤2147483648):Spec Tryz.prog 0 245 [vI .i64 x,.c (.lp ⟨0,0⟩ 0)] [(⟨0,0⟩,[.d (.int .i64 ct),.d (.int .i64 cd),.d (.int .i64 cg),.d (.int .i64 cm)])] [] (vI .i64 (szX ⟨ct,cd,cg,cm⟩ x)) [(⟨0,0⟩,[.d (.int .i64 ct),.d (.int .i64 cd),.d (.int .i64 cg),.d (.int .i64 cm)])] []:=by
 refine spec_of_E (X:=⟨Tryz.prog,tt,Tryz.f245.ntmps,1,fun _=>0,(tab [])⟩) (M:=[(1,[0,0,0,0,0,32299,0,0,0,0,0,0])]) (m:=11) rfl rfl ⟨Z7,ZI Zb _ rfl rfl⟩ Zs Tryz.func245 rfl (by decide) (by show (2:Nat)≤_; exact Nat.le_of_ble_eq_true rfl) ⟨by simp [V.has,C.has,ZF],by simp [C.has],by simp⟩ ?_
 simp (maxSteps:=1000000) only [↓Zn,Ze,Zd,Zm,gSt,gS0,Ya,Yb,↓reduceIte,reduceCtorEq,Yc,Yd,Ye,Yf,Yg,Yj,Yk,Yl,Ym,Yn,gE1,Tryz.ntmps245,Tryz.results245,gTT]
 obtain ⟨h1,h2,h3⟩:=ZvF hv hx
 have hc:=Zpz hv
 simp only at h2 h3 hc
 rw [IntWalk.i64_in (x - cd) (by omega)]
 have e:(if 0 < x - cd then x - cd else 0)=max 0 (x - cd):=by split <;> omega
 rw [e,IntWalk.i64_in (max 0 (x - cd)*cg) (by omega)]
 unfold szX
 simp only
 split <;> omega
def Zge:List V→Zf→Zr→Name→Option Ent
 | [.c (.d (.int .i64 x)),.c (.lp n0 0)],[(m0,[.d (.int .i64 ct),.d (.int .i64 cd),.d (.int .i64 cg),.d (.int .i64 cm)])],[],_=>some ⟨ctV ⟨ct,cd,cg,cm⟩=true∧(-2147483648≤x∧x≤2147483648)∧n0.lv≤1∧m0=n0,vI .i64 (szX ⟨ct,cd,cg,cm⟩ x),[(n0,[.d (.int .i64 ct),.d (.int .i64 cd),.d (.int .i64 cg),.d (.int .i64 cm)])],[]⟩
 | _,_,_,_=>none
def ZrH:=And.intro (@Zge.eq_1) (@Zge.eq_1)
theorem ZrI:Snd Tryz.prog 245 Zge:=by
 intro vs b k n e h hn hp
 unfold Zge at h
 split at h
 ·cases h; obtain ⟨hp0,hp1,hl0,rfl⟩:=hp; exact Spec.ren1 (Zte _ _ _ _ _ hp0 hp1) 0 (by simp [Za9,V.names,C.names,ZJ,ZK,ZF]) hl0
 ·cases h
theorem Zs3 (ct cd cg cm:Int) (x:Int):Spec Tryz.prog 0 202 [.agg [.d (.int .i64 ct),.d (.int .i64 cd),.d (.int .i64 cg),.d (.int .i64 cm)],vI .i64 x] [] [] (vI .i64 (ajX ⟨ct,cd,cg,cm⟩ x)) [] []:=by
 refine sE (md:=fun _=>0) (L:=[(132,Zcc),(245,Zge)]) [] 2162743 (Za ZcX (Za ZrI Zb)) Tryz.func202 rfl rfl rfl ?_
 simp (maxSteps:=1000000) only [↓Zn,Ze,Zd,Zm,gSt,gS0,Ya,Yb,↓reduceIte,reduceCtorEq,Yc,Yd,Ye,Yf,Yg,Yj,Yk,Yl,Ym,Yn,ZcW,ZrH,gE1,Tryz.ntmps202,Tryz.results202,gTT]
 refine ⟨fun h=>?_,fun h=>?_⟩
 ·unfold ajX
  by_cases hv:ctV ⟨ct,cd,cg,cm⟩=true
  ·have h2:(decide (x < 0) || decide (2147483647 < x))=true:=by rw [hv] at h; simpa using h
   rw [if_neg (by rw [hv]; decide),if_pos h2]
  ·rw [if_pos (by simpa using hv)]
 have hv:ctV ⟨ct,cd,cg,cm⟩=true:=by
  cases hq:ctV ⟨ct,cd,cg,cm⟩ with
  | true=>rfl
  | false=>rw [hq] at h; simp at h
 have h2:(decide (x < 0) || decide (2147483647 < x))=false:=by rw [hv] at h; simpa using h
 have h3:0≤x∧x≤2147483647:=by simp only [Bool.or_eq_false_iff,decide_eq_false_iff_not] at h2; omega
 have hc:=Zpz hv
 simp only at hc
 have e:ajX ⟨ct,cd,cg,cm⟩ x=if x < ct then -(szX ⟨ct,cd,cg,cm⟩ (ct - x)) else szX ⟨ct,cd,cg,cm⟩ (x - ct):=by unfold ajX; rw [if_neg (by rw [hv]; decide),if_neg (by rw [h2]; decide)]
 rw [IntWalk.i64_in (ct - x) (by omega),IntWalk.i64_in (x - ct) (by omega)]
 refine ⟨fun h4=>⟨⟨hv,by omega,by omega⟩,?_⟩,fun h4=>⟨⟨hv,by omega,by omega⟩,?_⟩⟩
 ·have h5:=(ZvF hv (d:=ct - x) (by omega)).1
  rw [e,if_pos (of_decide_eq_true h4),IntWalk.i64_in (0 - _) (by omega)]
  omega
 ·rw [e,if_neg (of_decide_eq_false h4)]
def Ze6:List V→Zf→Zr→Name→Option Ent
 | [.agg [.d (.int .i64 ct),.d (.int .i64 cd),.d (.int .i64 cg),.d (.int .i64 cm)],.c (.d (.int .i64 x))],[],[],_=>some ⟨True,vI .i64 (ajX ⟨ct,cd,cg,cm⟩ x),[],[]⟩
 | _,_,_,_=>none
def ZiP:=And.intro (@Ze6.eq_1) (@Ze6.eq_1)
theorem ZiQ:Snd Tryz.prog 202 Ze6:=by
 intro vs b k n e h hn hp
 unfold Ze6 at h
 split at h
 ·cases h; exact (Zs3 _ _ _ _ _).lift rfl _
 ·cases h
theorem Zqw (q ct cd cg cm c n d a p f:Int) (l:List Int) (lo mi:Int) (hl:l.length≤1000000):Spec Tryz.prog 0 54 [.agg [.d (.int .i64 q),.d (.int .i64 ct),.d (.int .i64 cd),.d (.int .i64 cg),.d (.int .i64 cm),.d (.int .i64 c),.d (.int .i64 n),.d (.int .i64 d),.d (.int .i64 a),.d (.int .i64 p),.d (.int .i64 f),.d (.list (LI .i32 l)),.d (.int .i64 lo),.d (.int .i64 mi)]] [] [] (vB (brV ⟨q,⟨ct,cd,cg,cm⟩,⟨c,⟨n,d,a,p,f⟩,l⟩,lo,mi⟩)) [] []:=by
 refine sE (md:=fun _=>0) (L:=[(123,Zbi),(132,Zcc),(55,Za2)]) [(1,[0,0,0,0,0,549755813703,0,0,0,0,0,549755799559,0,0,0,0,0,549754765319,0,0,0,0,0,549707579399,0,0,0,0,0,545997717511,0,0,0,0,0,274877906951,0])] 7 (Za ZbA (Za ZcX (Za Za4 Zb))) Tryz.func54 rfl rfl rfl ?_
 simp (maxSteps:=1000000) only [↓Zn,Ze,Zd,Zm,gSt,gS0,Ya,Yb,↓reduceIte,reduceCtorEq,Yc,Yd,Ye,Yf,Yg,Yj,Yk,Yl,Ym,Yn,Zbz,ZcW,Za3,gE1,Tryz.ntmps54,Tryz.results54,gTT]
 exact ⟨by kernel_rfl,hl,fun _=>hl,rfl⟩
def ZbJ:List V→Zf→Zr→Name→Option Ent
 | [.agg [.d (.int .i64 q),.d (.int .i64 ct),.d (.int .i64 cd),.d (.int .i64 cg),.d (.int .i64 cm),.d (.int .i64 c),.d (.int .i64 n),.d (.int .i64 d),.d (.int .i64 a),.d (.int .i64 p),.d (.int .i64 f),.d (.list q_l),.d (.int .i64 lo),.d (.int .i64 mi)]],[],[],_=>some ⟨(Zc q_l).length≤1000000∧q_l=LI .i32 (Zc q_l),vB (brV ⟨q,⟨ct,cd,cg,cm⟩,⟨c,⟨n,d,a,p,f⟩,(Zc q_l)⟩,lo,mi⟩),[],[]⟩
 | _,_,_,_=>none
def Zca:=And.intro (@ZbJ.eq_1) (@ZbJ.eq_1)
theorem Zcb:Snd Tryz.prog 54 ZbJ:=by
 intro vs b k n e h hn hp
 unfold ZbJ at h
 split at h
 ·cases h; obtain ⟨hp0,hq0⟩:=hp; obtain ⟨_,rfl⟩:=Zq hq0; simp only [Zi,Zo,Zj,Zp] at hp0 ⊢; exact (Zqw _ _ _ _ _ _ _ _ _ _ _ _ _ _ hp0).lift rfl _
 ·cases h
theorem Zs5 (q ct cd cg cm c n d a p f:Int) (l:List Int) (lo mi:Int) (hl:l.length≤1000000):Spec Tryz.prog 0 13 [.agg [.d (.int .i64 q),.d (.int .i64 ct),.d (.int .i64 cd),.d (.int .i64 cg),.d (.int .i64 cm),.d (.int .i64 c),.d (.int .i64 n),.d (.int .i64 d),.d (.int .i64 a),.d (.int .i64 p),.d (.int .i64 f),.d (.list (LI .i32 l)),.d (.int .i64 lo),.d (.int .i64 mi)]] [] [] (vI .i64 (biN ⟨q,⟨ct,cd,cg,cm⟩,⟨c,⟨n,d,a,p,f⟩,l⟩,lo,mi⟩)) [] []:=by
 refine spec_of_E (X:=⟨Tryz.prog,tt,Tryz.f13.ntmps,1,fun _=>0,(tab [(54,ZbJ),(55,Za2)])⟩) (M:=[]) (m:=39) rfl rfl ⟨Z7,ZI (Za Zcb (Za Za4 Zb)) _ rfl rfl⟩ Zs Tryz.func13 rfl (by decide) (by show (1:Nat)≤_; exact Nat.le_of_ble_eq_true rfl) ⟨by simp [V.has,C.has,ZF],by simp [C.has],by simp⟩ ?_
 simp (maxSteps:=1000000) only [↓Zn,Ze,Zd,Zm,gSt,gS0,Ya,Yb,↓reduceIte,reduceCtorEq,Yc,Yd,Ye,Yf,Yg,Yj,Yk,Yl,Ym,Yn,Zca,Za3,gE1,Tryz.ntmps13,Tryz.results13,gTT]
 refine ⟨hl,fun h=>by simp [biN,h],fun h=>⟨hl,?_⟩⟩
 have hv:brV ⟨q,⟨ct,cd,cg,cm⟩,⟨c,⟨n,d,a,p,f⟩,l⟩,lo,mi⟩=true:=by simpa using h
 simp [biN,hv]
def Ze7:List V→Zf→Zr→Name→Option Ent
 | [.agg [.d (.int .i64 q),.d (.int .i64 ct),.d (.int .i64 cd),.d (.int .i64 cg),.d (.int .i64 cm),.d (.int .i64 c),.d (.int .i64 n),.d (.int .i64 d),.d (.int .i64 a),.d (.int .i64 p),.d (.int .i64 f),.d (.list q_l),.d (.int .i64 lo),.d (.int .i64 mi)]],[],[],_=>some ⟨(Zc q_l).length≤1000000∧q_l=LI .i32 (Zc q_l),vI .i64 (biN ⟨q,⟨ct,cd,cg,cm⟩,⟨c,⟨n,d,a,p,f⟩,(Zc q_l)⟩,lo,mi⟩),[],[]⟩
 | _,_,_,_=>none
def Zac:=And.intro (@Ze7.eq_1) (@Ze7.eq_1)
theorem ZiS:Snd Tryz.prog 13 Ze7:=by
 intro vs b k n e h hn hp
 unfold Ze7 at h
 split at h
 ·cases h; obtain ⟨hp0,hq0⟩:=hp; obtain ⟨_,rfl⟩:=Zq hq0; simp only [Zi,Zo,Zj,Zp] at hp0 ⊢; exact (Zs5 _ _ _ _ _ _ _ _ _ _ _ _ _ _ hp0).lift rfl _
 ·cases h
theorem ZB6 (q ct cd cg cm c n d a p f:Int) (l:List Int) (lo mi:Int) (k:Int) (y:List Int) (hl:l.length≤1000000) (hy:y.length≤1000000):Spec Tryz.prog 0 140 [.agg [.d (.int .i64 q),.d (.int .i64 ct),.d (.int .i64 cd),.d (.int .i64 cg),.d (.int .i64 cm),.d (.int .i64 c),.d (.int .i64 n),.d (.int .i64 d),.d (.int .i64 a),.d (.int .i64 p),.d (.int .i64 f),.d (.list (LI .i32 l)),.d (.int .i64 lo),.d (.int .i64 mi)],.agg [.d (.int .i64 k),.d (.list (LI .i32 y))]] [] [] (.tup [.agg [.int .i64 (puR ⟨q,⟨ct,cd,cg,cm⟩,⟨c,⟨n,d,a,p,f⟩,l⟩,lo,mi⟩ k y).q,.int .i64 (puR ⟨q,⟨ct,cd,cg,cm⟩,⟨c,⟨n,d,a,p,f⟩,l⟩,lo,mi⟩ k y).c.t,.int .i64 (puR ⟨q,⟨ct,cd,cg,cm⟩,⟨c,⟨n,d,a,p,f⟩,l⟩,lo,mi⟩ k y).c.d,.int .i64 (puR ⟨q,⟨ct,cd,cg,cm⟩,⟨c,⟨n,d,a,p,f⟩,l⟩,lo,mi⟩ k y).c.g,.int .i64 (puR ⟨q,⟨ct,cd,cg,cm⟩,⟨c,⟨n,d,a,p,f⟩,l⟩,lo,mi⟩ k y).c.m,.int .i64 (puR ⟨q,⟨ct,cd,cg,cm⟩,⟨c,⟨n,d,a,p,f⟩,l⟩,lo,mi⟩ k y).r.c,.int .i64 (puR ⟨q,⟨ct,cd,cg,cm⟩,⟨c,⟨n,d,a,p,f⟩,l⟩,lo,mi⟩ k y).r.p.n,.int .i64 (puR ⟨q,⟨ct,cd,cg,cm⟩,⟨c,⟨n,d,a,p,f⟩,l⟩,lo,mi⟩ k y).r.p.d,.int .i64 (puR ⟨q,⟨ct,cd,cg,cm⟩,⟨c,⟨n,d,a,p,f⟩,l⟩,lo,mi⟩ k y).r.p.a,.int .i64 (puR ⟨q,⟨ct,cd,cg,cm⟩,⟨c,⟨n,d,a,p,f⟩,l⟩,lo,mi⟩ k y).r.p.p,.int .i64 (puR ⟨q,⟨ct,cd,cg,cm⟩,⟨c,⟨n,d,a,p,f⟩,l⟩,lo,mi⟩ k y).r.p.f,.list (LI .i32 (puR ⟨q,⟨ct,cd,cg,cm⟩,⟨c,⟨n,d,a,p,f⟩,l⟩,lo,mi⟩ k y).r.l),.int .i64 (puR ⟨q,⟨ct,cd,cg,cm⟩,⟨c,⟨n,d,a,p,f⟩,l⟩,lo,mi⟩ k y).lo,.int .i64 (puR ⟨q,⟨ct,cd,cg,cm⟩,⟨c,⟨n,d,a,p,f⟩,l⟩,lo,mi⟩ k y).mi],.int .i64 (puL ⟨q,⟨ct,cd,cg,cm⟩,⟨c,⟨n,d,a,p,f⟩,l⟩,lo,mi⟩ k y),.int .i64 (puE ⟨q,⟨ct,cd,cg,cm⟩,⟨c,⟨n,d,a,p,f⟩,l⟩,lo,mi⟩ k y)]) [] []:=by
 refine sE (md:=fun _=>0) (L:=[(54,ZbJ),(62,ZaR),(55,Za2),(88,Zi7)]) [(7,[0,0,0,0,0,2235307147723263,0,0,0,0,0,1688849868718591,0])] 8454655 (Za Zcb (Za Zax (Za Za4 (Za Zi9 Zb)))) Tryz.func140 rfl rfl rfl ?_
 simp (maxSteps:=1000000) only [↓Zn,Ze,Zd,Zm,gSt,gS0,Ya,Yb,↓reduceIte,reduceCtorEq,Yc,Yd,Ye,Yf,Yg,Yj,Yk,Yl,Ym,Yn,Zca,ZD,Za3,Zi8,gE1,Tryz.ntmps140,Tryz.results140,gTT]
 refine ⟨hl,fun _=>hy,fun h=>?_,fun h=>⟨fun h2=>?_,fun h2=>?_⟩⟩
 ·have e:puE ⟨q,⟨ct,cd,cg,cm⟩,⟨c,⟨n,d,a,p,f⟩,l⟩,lo,mi⟩ k y=1:=by unfold puE; rw [if_pos h]
  simp [puR,puL,e,br0,rs0,Zw]
 ·have hk:k≠c:=by simpa using h2
  have e:puE ⟨q,⟨ct,cd,cg,cm⟩,⟨c,⟨n,d,a,p,f⟩,l⟩,lo,mi⟩ k y=11:=by unfold puE; rw [if_neg (by rw [h]; decide),if_pos hk]
  simp [puR,puL,e,br0,rs0,Zw]
 have hk:k=c:=by simpa using h2
 have hvb:brV ⟨q,⟨ct,cd,cg,cm⟩,⟨c,⟨n,d,a,p,f⟩,l⟩,lo,mi⟩=true∧ZaL k y=true:=by
  simp only [Bool.or_eq_false_iff,Bool.not_eq_false'] at h
  exact h
 obtain ⟨hv,hby⟩:=hvb
 have e:puE ⟨q,⟨ct,cd,cg,cm⟩,⟨c,⟨n,d,a,p,f⟩,l⟩,lo,mi⟩ k y=0:=by unfold puE; rw [if_neg (by rw [h]; decide),if_neg (by simpa using hk)]
 obtain ⟨b1,b2,b3,b4,b5,b6⟩:=Zkf hv
 simp only at b1 b3 b4 b5 b6
 obtain ⟨w1,w2,w3⟩:=Zec b1 hl
 obtain ⟨⟨k1,k2⟩,k3,k4,k5⟩:=ZW hby hy
 have hN:puN ⟨q,⟨ct,cd,cg,cm⟩,⟨c,⟨n,d,a,p,f⟩,l⟩,lo,mi⟩ k y=min ((y.length / k.toNat:Nat):Int) (q - waN ⟨c,⟨n,d,a,p,f⟩,l⟩):=rfl
 have hz:((y.length / k.toNat:Nat):Int)≤65536:=Int.ofNat_le.2 k4
 have hz0:0≤((y.length / k.toNat:Nat):Int):=Int.natCast_nonneg _
 have hzk:(puN ⟨q,⟨ct,cd,cg,cm⟩,⟨c,⟨n,d,a,p,f⟩,l⟩,lo,mi⟩ k y).toNat*k.toNat≤y.length / k.toNat*k.toNat:=Nat.mul_le_mul_right _ (by omega)
 have hkk:(k.toNat:Int)=k:=by omega
 have hm:puN ⟨q,⟨ct,cd,cg,cm⟩,⟨c,⟨n,d,a,p,f⟩,l⟩,lo,mi⟩ k y*k=(((puN ⟨q,⟨ct,cd,cg,cm⟩,⟨c,⟨n,d,a,p,f⟩,l⟩,lo,mi⟩ k y).toNat*k.toNat:Nat):Int):=by rw [Int.natCast_mul,hkk]; congr 1; omega
 refine ⟨by omega,by kernel_rfl,hl,?_⟩
 have eN:(if IntKind.i64.wrap (q - waN ⟨c,⟨n,d,a,p,f⟩,l⟩) < IntKind.i64.wrap ((y.length:Int).tdiv k) then IntKind.i64.wrap (q - waN ⟨c,⟨n,d,a,p,f⟩,l⟩) else IntKind.i64.wrap ((y.length:Int).tdiv k))=puN ⟨q,⟨ct,cd,cg,cm⟩,⟨c,⟨n,d,a,p,f⟩,l⟩,lo,mi⟩ k y:=by
  rw [IntWalk.i64_in (q - _) (by omega),Zdg k1 (by omega),hN]
  split <;> omega
 rw [eN,Zdg k1 (by omega),IntWalk.i64_in (puN ⟨q,⟨ct,cd,cg,cm⟩,⟨c,⟨n,d,a,p,f⟩,l⟩,lo,mi⟩ k y*k) (by omega),hm,Int.toNat_natCast,Nat.sub_zero,IntWalk.i64_in (_ - puN ⟨q,⟨ct,cd,cg,cm⟩,⟨c,⟨n,d,a,p,f⟩,l⟩,lo,mi⟩ k y) (by omega)]
 refine ⟨⟨by omega,by omega,by omega⟩,⟨hl,by rw [List.length_take]; omega⟩,?_⟩
 simp [puR,puL,e]
def ZoC:List V→Zf→Zr→Name→Option Ent
 | [.agg [.d (.int .i64 q),.d (.int .i64 ct),.d (.int .i64 cd),.d (.int .i64 cg),.d (.int .i64 cm),.d (.int .i64 c),.d (.int .i64 n),.d (.int .i64 d),.d (.int .i64 a),.d (.int .i64 p),.d (.int .i64 f),.d (.list q_l),.d (.int .i64 lo),.d (.int .i64 mi)],.agg [.d (.int .i64 k),.d (.list q_y)]],[],[],_=>some ⟨(Zc q_l).length≤1000000∧(Zc q_y).length≤1000000∧q_l=LI .i32 (Zc q_l)∧q_y=LI .i32 (Zc q_y),.tup [.agg [.int .i64 (puR ⟨q,⟨ct,cd,cg,cm⟩,⟨c,⟨n,d,a,p,f⟩,(Zc q_l)⟩,lo,mi⟩ k (Zc q_y)).q,.int .i64 (puR ⟨q,⟨ct,cd,cg,cm⟩,⟨c,⟨n,d,a,p,f⟩,(Zc q_l)⟩,lo,mi⟩ k (Zc q_y)).c.t,.int .i64 (puR ⟨q,⟨ct,cd,cg,cm⟩,⟨c,⟨n,d,a,p,f⟩,(Zc q_l)⟩,lo,mi⟩ k (Zc q_y)).c.d,.int .i64 (puR ⟨q,⟨ct,cd,cg,cm⟩,⟨c,⟨n,d,a,p,f⟩,(Zc q_l)⟩,lo,mi⟩ k (Zc q_y)).c.g,.int .i64 (puR ⟨q,⟨ct,cd,cg,cm⟩,⟨c,⟨n,d,a,p,f⟩,(Zc q_l)⟩,lo,mi⟩ k (Zc q_y)).c.m,.int .i64 (puR ⟨q,⟨ct,cd,cg,cm⟩,⟨c,⟨n,d,a,p,f⟩,(Zc q_l)⟩,lo,mi⟩ k (Zc q_y)).r.c,.int .i64 (puR ⟨q,⟨ct,cd,cg,cm⟩,⟨c,⟨n,d,a,p,f⟩,(Zc q_l)⟩,lo,mi⟩ k (Zc q_y)).r.p.n,.int .i64 (puR ⟨q,⟨ct,cd,cg,cm⟩,⟨c,⟨n,d,a,p,f⟩,(Zc q_l)⟩,lo,mi⟩ k (Zc q_y)).r.p.d,.int .i64 (puR ⟨q,⟨ct,cd,cg,cm⟩,⟨c,⟨n,d,a,p,f⟩,(Zc q_l)⟩,lo,mi⟩ k (Zc q_y)).r.p.a,.int .i64 (puR ⟨q,⟨ct,cd,cg,cm⟩,⟨c,⟨n,d,a,p,f⟩,(Zc q_l)⟩,lo,mi⟩ k (Zc q_y)).r.p.p,.int .i64 (puR ⟨q,⟨ct,cd,cg,cm⟩,⟨c,⟨n,d,a,p,f⟩,(Zc q_l)⟩,lo,mi⟩ k (Zc q_y)).r.p.f,.list (LI .i32 (puR ⟨q,⟨ct,cd,cg,cm⟩,⟨c,⟨n,d,a,p,f⟩,(Zc q_l)⟩,lo,mi⟩ k (Zc q_y)).r.l),.int .i64 (puR ⟨q,⟨ct,cd,cg,cm⟩,⟨c,⟨n,d,a,p,f⟩,(Zc q_l)⟩,lo,mi⟩ k (Zc q_y)).lo,.int .i64 (puR ⟨q,⟨ct,cd,cg,cm⟩,⟨c,⟨n,d,a,p,f⟩,(Zc q_l)⟩,lo,mi⟩ k (Zc q_y)).mi],.int .i64 (puL ⟨q,⟨ct,cd,cg,cm⟩,⟨c,⟨n,d,a,p,f⟩,(Zc q_l)⟩,lo,mi⟩ k (Zc q_y)),.int .i64 (puE ⟨q,⟨ct,cd,cg,cm⟩,⟨c,⟨n,d,a,p,f⟩,(Zc q_l)⟩,lo,mi⟩ k (Zc q_y))],[],[]⟩
 | _,_,_,_=>none
def ZyY:=And.intro (@ZoC.eq_1) (@ZoC.eq_1)
theorem ZyZ:Snd Tryz.prog 140 ZoC:=by
 intro vs b k n e h hn hp
 unfold ZoC at h
 split at h
 ·cases h; obtain ⟨hp0,hp1,hq0,hq1⟩:=hp; obtain ⟨_,rfl⟩:=Zq hq0; obtain ⟨_,rfl⟩:=Zq hq1; simp only [Zi,Zo,Zj,Zp] at hp0 hp1 ⊢; exact (ZB6 _ _ _ _ _ _ _ _ _ _ _ _ _ _ _ _ hp0 hp1).lift rfl _
 ·cases h
theorem ZxQ (q ct cd cg cm c n d a p f:Int) (l:List Int) (lo mi:Int) (i:Int) (hl:l.length≤1000000) (ht:tkE (plA ⟨q,⟨ct,cd,cg,cm⟩,⟨c,⟨n,d,a,p,f⟩,l⟩,lo,mi⟩) (plK ⟨q,⟨ct,cd,cg,cm⟩,⟨c,⟨n,d,a,p,f⟩,l⟩,lo,mi⟩ i)≠0):Spec Tryz.prog 0 141 [.agg [.d (.int .i64 q),.d (.int .i64 ct),.d (.int .i64 cd),.d (.int .i64 cg),.d (.int .i64 cm),.d (.int .i64 c),.d (.int .i64 n),.d (.int .i64 d),.d (.int .i64 a),.d (.int .i64 p),.d (.int .i64 f),.d (.list (LI .i32 l)),.d (.int .i64 lo),.d (.int .i64 mi)],vI .i64 i] [] [] (.tup [.agg [.int .i64 (plC ⟨q,⟨ct,cd,cg,cm⟩,⟨c,⟨n,d,a,p,f⟩,l⟩,lo,mi⟩ i),.list (LI .i32 (plO ⟨q,⟨ct,cd,cg,cm⟩,⟨c,⟨n,d,a,p,f⟩,l⟩,lo,mi⟩ i))],.int .i64 (plM ⟨q,⟨ct,cd,cg,cm⟩,⟨c,⟨n,d,a,p,f⟩,l⟩,lo,mi⟩ i),.agg [.int .i64 (plR ⟨q,⟨ct,cd,cg,cm⟩,⟨c,⟨n,d,a,p,f⟩,l⟩,lo,mi⟩ i).q,.int .i64 (plR ⟨q,⟨ct,cd,cg,cm⟩,⟨c,⟨n,d,a,p,f⟩,l⟩,lo,mi⟩ i).c.t,.int .i64 (plR ⟨q,⟨ct,cd,cg,cm⟩,⟨c,⟨n,d,a,p,f⟩,l⟩,lo,mi⟩ i).c.d,.int .i64 (plR ⟨q,⟨ct,cd,cg,cm⟩,⟨c,⟨n,d,a,p,f⟩,l⟩,lo,mi⟩ i).c.g,.int .i64 (plR ⟨q,⟨ct,cd,cg,cm⟩,⟨c,⟨n,d,a,p,f⟩,l⟩,lo,mi⟩ i).c.m,.int .i64 (plR ⟨q,⟨ct,cd,cg,cm⟩,⟨c,⟨n,d,a,p,f⟩,l⟩,lo,mi⟩ i).r.c,.int .i64 (plR ⟨q,⟨ct,cd,cg,cm⟩,⟨c,⟨n,d,a,p,f⟩,l⟩,lo,mi⟩ i).r.p.n,.int .i64 (plR ⟨q,⟨ct,cd,cg,cm⟩,⟨c,⟨n,d,a,p,f⟩,l⟩,lo,mi⟩ i).r.p.d,.int .i64 (plR ⟨q,⟨ct,cd,cg,cm⟩,⟨c,⟨n,d,a,p,f⟩,l⟩,lo,mi⟩ i).r.p.a,.int .i64 (plR ⟨q,⟨ct,cd,cg,cm⟩,⟨c,⟨n,d,a,p,f⟩,l⟩,lo,mi⟩ i).r.p.p,.int .i64 (plR ⟨q,⟨ct,cd,cg,cm⟩,⟨c,⟨n,d,a,p,f⟩,l⟩,lo,mi⟩ i).r.p.f,.list (LI .i32 (plR ⟨q,⟨ct,cd,cg,cm⟩,⟨c,⟨n,d,a,p,f⟩,l⟩,lo,mi⟩ i).r.l),.int .i64 (plR ⟨q,⟨ct,cd,cg,cm⟩,⟨c,⟨n,d,a,p,f⟩,l⟩,lo,mi⟩ i).lo,.int .i64 (plR ⟨q,⟨ct,cd,cg,cm⟩,⟨c,⟨n,d,a,p,f⟩,l⟩,lo,mi⟩ i).mi],.int .i64 (plE ⟨q,⟨ct,cd,cg,cm⟩,⟨c,⟨n,d,a,p,f⟩,l⟩,lo,mi⟩ i)]) [] []:=by
 refine sE (md:=fun _=>0) (L:=[(54,ZbJ),(55,Za2),(202,Ze6),(201,Zfh),(91,ZdV),(92,ZjZ)]) [(6,[0,0,0,0,0,9223379708756966391,0,0,0,0,0,9223379183697214455,0,0]),(9,[0,0,0,0,0,13276611701505080311,0,0,0,0,0,11529215046085327863,0])] 9223372036871633911 (Za Zcb (Za Za4 (Za ZiQ (Za Zjy (Za Zdy (Za Zj1 Zb)))))) Tryz.func141 rfl rfl rfl ?_
 simp (maxSteps:=1000000) only [↓Zn,Ze,Zd,Zm,gSt,gS0,Ya,Yb,↓reduceIte,reduceCtorEq,Yc,Yd,Ye,Yf,Yg,Yj,Yk,Yl,Ym,Yn,Zca,Za3,ZiP,Zjx,Zdx,Zj0,gE1,Tryz.ntmps141,Tryz.results141,gTT]
 refine ⟨hl,fun h=>?_,fun h=>⟨fun h2=>?_,fun h2=>⟨hl,by kernel_rfl,hl,?_⟩⟩⟩
 ·have e:plE ⟨q,⟨ct,cd,cg,cm⟩,⟨c,⟨n,d,a,p,f⟩,l⟩,lo,mi⟩ i=1:=by unfold plE; rw [if_pos h]
  simp [plC,plO,plM,plR,e,br0,rs0,Zw]
 ·have hv:brV ⟨q,⟨ct,cd,cg,cm⟩,⟨c,⟨n,d,a,p,f⟩,l⟩,lo,mi⟩=true:=by simpa using h
  have e:plE ⟨q,⟨ct,cd,cg,cm⟩,⟨c,⟨n,d,a,p,f⟩,l⟩,lo,mi⟩ i=2:=by unfold plE; rw [if_neg (by rw [hv]; decide),if_pos h2]
  simp [plC,plO,plM,plR,e,br0,rs0,Zw]
 have hv:brV ⟨q,⟨ct,cd,cg,cm⟩,⟨c,⟨n,d,a,p,f⟩,l⟩,lo,mi⟩=true:=by simpa using h
 have hi:0≤i∧i≤65536:=by simp only [Bool.or_eq_false_iff,decide_eq_false_iff_not] at h2; omega
 obtain ⟨b1,b2,b3,b4,b5,b6⟩:=Zkf hv
 simp only at b1 b2 b3 b4 b5 b6
 obtain ⟨w1,w2,w3⟩:=Zec b1 hl
 have hA:=ZGk hv
 have hp:=(ZA hA).1
 have hK:=ZBe hv hl hi
 have hrt:rtP ⟨n,d,a,p,f⟩ (ajX ⟨ct,cd,cg,cm⟩ (waN ⟨c,⟨n,d,a,p,f⟩,l⟩))=(plA ⟨q,⟨ct,cd,cg,cm⟩,⟨c,⟨n,d,a,p,f⟩,l⟩,lo,mi⟩).p:=by
  have h0:rtE ⟨n,d,a,p,f⟩ (ajX ⟨ct,cd,cg,cm⟩ (waN ⟨c,⟨n,d,a,p,f⟩,l⟩))=0:=by
   unfold rtE
   have h3:=ZzC ⟨ct,cd,cg,cm⟩ (waN ⟨c,⟨n,d,a,p,f⟩,l⟩)
   have h4:tuX (ajX ⟨ct,cd,cg,cm⟩ (waN ⟨c,⟨n,d,a,p,f⟩,l⟩))=true:=by simp only [tuX,Bool.and_eq_true,decide_eq_true_eq]; exact h3
   rw [if_neg (by rw [(ZA b1).1]; decide),if_neg (by rw [h4]; decide)]
  unfold rtP
  rw [if_pos h0]
  rfl
 have hma:maN (plA ⟨q,⟨ct,cd,cg,cm⟩,⟨c,⟨n,d,a,p,f⟩,l⟩,lo,mi⟩).p (waN ⟨c,⟨n,d,a,p,f⟩,l⟩)=((mkN (plA ⟨q,⟨ct,cd,cg,cm⟩,⟨c,⟨n,d,a,p,f⟩,l⟩,lo,mi⟩).p (waN ⟨c,⟨n,d,a,p,f⟩,l⟩):Nat):Int):=by
  have h0:maE (plA ⟨q,⟨ct,cd,cg,cm⟩,⟨c,⟨n,d,a,p,f⟩,l⟩,lo,mi⟩).p (waN ⟨c,⟨n,d,a,p,f⟩,l⟩)=0:=by
   unfold maE
   rw [if_neg (by rw [hp]; decide),if_neg (by simp only [Bool.or_eq_true,decide_eq_true_eq]; omega)]
  unfold maN
  rw [if_pos h0]
 have hpk:plK ⟨q,⟨ct,cd,cg,cm⟩,⟨c,⟨n,d,a,p,f⟩,l⟩,lo,mi⟩ i=min ((mkN (plA ⟨q,⟨ct,cd,cg,cm⟩,⟨c,⟨n,d,a,p,f⟩,l⟩,lo,mi⟩).p (waN ⟨c,⟨n,d,a,p,f⟩,l⟩):Nat):Int) i:=rfl
 have hKe:(if i < ((mkN (plA ⟨q,⟨ct,cd,cg,cm⟩,⟨c,⟨n,d,a,p,f⟩,l⟩,lo,mi⟩).p (waN ⟨c,⟨n,d,a,p,f⟩,l⟩):Nat):Int) then i else ((mkN (plA ⟨q,⟨ct,cd,cg,cm⟩,⟨c,⟨n,d,a,p,f⟩,l⟩,lo,mi⟩).p (waN ⟨c,⟨n,d,a,p,f⟩,l⟩):Nat):Int))=plK ⟨q,⟨ct,cd,cg,cm⟩,⟨c,⟨n,d,a,p,f⟩,l⟩,lo,mi⟩ i:=by
  rw [hpk]
  split <;> omega
 have hAe:(⟨c,(plA ⟨q,⟨ct,cd,cg,cm⟩,⟨c,⟨n,d,a,p,f⟩,l⟩,lo,mi⟩).p,l⟩:Rs)=plA ⟨q,⟨ct,cd,cg,cm⟩,⟨c,⟨n,d,a,p,f⟩,l⟩,lo,mi⟩:=rfl
 have eE:plE ⟨q,⟨ct,cd,cg,cm⟩,⟨c,⟨n,d,a,p,f⟩,l⟩,lo,mi⟩ i=tkE (plA ⟨q,⟨ct,cd,cg,cm⟩,⟨c,⟨n,d,a,p,f⟩,l⟩,lo,mi⟩) (plK ⟨q,⟨ct,cd,cg,cm⟩,⟨c,⟨n,d,a,p,f⟩,l⟩,lo,mi⟩ i):=by unfold plE; rw [if_neg (by rw [hv]; decide),if_neg (by rw [h2]; decide)]
 rw [hrt,hma,hKe,hAe]
 refine ⟨fun h3=>?_,fun h3=>absurd (by simpa using h3) ht⟩
 have e:plE ⟨q,⟨ct,cd,cg,cm⟩,⟨c,⟨n,d,a,p,f⟩,l⟩,lo,mi⟩ i≠0:=by rw [eE]; exact ht
 rw [← eE]
 simp [plC,plO,plM,plR,e,br0,rs0,Zw]
theorem ZxR (q ct cd cg cm c n d a p f:Int) (l:List Int) (lo mi:Int) (i:Int) (hl:l.length≤1000000) (ht:tkE (plA ⟨q,⟨ct,cd,cg,cm⟩,⟨c,⟨n,d,a,p,f⟩,l⟩,lo,mi⟩) (plK ⟨q,⟨ct,cd,cg,cm⟩,⟨c,⟨n,d,a,p,f⟩,l⟩,lo,mi⟩ i)=0):Spec Tryz.prog 0 141 [.agg [.d (.int .i64 q),.d (.int .i64 ct),.d (.int .i64 cd),.d (.int .i64 cg),.d (.int .i64 cm),.d (.int .i64 c),.d (.int .i64 n),.d (.int .i64 d),.d (.int .i64 a),.d (.int .i64 p),.d (.int .i64 f),.d (.list (LI .i32 l)),.d (.int .i64 lo),.d (.int .i64 mi)],vI .i64 i] [] [] (.tup [.agg [.int .i64 (plC ⟨q,⟨ct,cd,cg,cm⟩,⟨c,⟨n,d,a,p,f⟩,l⟩,lo,mi⟩ i),.list (LI .i32 (plO ⟨q,⟨ct,cd,cg,cm⟩,⟨c,⟨n,d,a,p,f⟩,l⟩,lo,mi⟩ i))],.int .i64 (plM ⟨q,⟨ct,cd,cg,cm⟩,⟨c,⟨n,d,a,p,f⟩,l⟩,lo,mi⟩ i),.agg [.int .i64 (plR ⟨q,⟨ct,cd,cg,cm⟩,⟨c,⟨n,d,a,p,f⟩,l⟩,lo,mi⟩ i).q,.int .i64 (plR ⟨q,⟨ct,cd,cg,cm⟩,⟨c,⟨n,d,a,p,f⟩,l⟩,lo,mi⟩ i).c.t,.int .i64 (plR ⟨q,⟨ct,cd,cg,cm⟩,⟨c,⟨n,d,a,p,f⟩,l⟩,lo,mi⟩ i).c.d,.int .i64 (plR ⟨q,⟨ct,cd,cg,cm⟩,⟨c,⟨n,d,a,p,f⟩,l⟩,lo,mi⟩ i).c.g,.int .i64 (plR ⟨q,⟨ct,cd,cg,cm⟩,⟨c,⟨n,d,a,p,f⟩,l⟩,lo,mi⟩ i).c.m,.int .i64 (plR ⟨q,⟨ct,cd,cg,cm⟩,⟨c,⟨n,d,a,p,f⟩,l⟩,lo,mi⟩ i).r.c,.int .i64 (plR ⟨q,⟨ct,cd,cg,cm⟩,⟨c,⟨n,d,a,p,f⟩,l⟩,lo,mi⟩ i).r.p.n,.int .i64 (plR ⟨q,⟨ct,cd,cg,cm⟩,⟨c,⟨n,d,a,p,f⟩,l⟩,lo,mi⟩ i).r.p.d,.int .i64 (plR ⟨q,⟨ct,cd,cg,cm⟩,⟨c,⟨n,d,a,p,f⟩,l⟩,lo,mi⟩ i).r.p.a,.int .i64 (plR ⟨q,⟨ct,cd,cg,cm⟩,⟨c,⟨n,d,a,p,f⟩,l⟩,lo,mi⟩ i).r.p.p,.int .i64 (plR ⟨q,⟨ct,cd,cg,cm⟩,⟨c,⟨n,d,a,p,f⟩,l⟩,lo,mi⟩ i).r.p.f,.list (LI .i32 (plR ⟨q,⟨ct,cd,cg,cm⟩,⟨c,⟨n,d,a,p,f⟩,l⟩,lo,mi⟩ i).r.l),.int .i64 (plR ⟨q,⟨ct,cd,cg,cm⟩,⟨c,⟨n,d,a,p,f⟩,l⟩,lo,mi⟩ i).lo,.int .i64 (plR ⟨q,⟨ct,cd,cg,cm⟩,⟨c,⟨n,d,a,p,f⟩,l⟩,lo,mi⟩ i).mi],.int .i64 (plE ⟨q,⟨ct,cd,cg,cm⟩,⟨c,⟨n,d,a,p,f⟩,l⟩,lo,mi⟩ i)]) [] []:=by
 refine sE (md:=fun _=>0) (L:=[(54,ZbJ),(55,Za2),(202,Ze6),(201,Zfh),(91,ZdV),(92,Zhq)]) [(6,[0,0,0,0,0,9223379708756966391,0,0,0,0,0,9223379183697214455,0,0]),(9,[0,0,0,0,0,13276611701505080311,0,0,0,0,0,11529215046085327863,0])] 9223372036871633911 (Za Zcb (Za Za4 (Za ZiQ (Za Zjy (Za Zdy (Za ZlJ Zb)))))) Tryz.func141 rfl rfl rfl ?_
 simp (maxSteps:=1000000) only [↓Zn,Ze,Zd,Zm,gSt,gS0,Ya,Yb,↓reduceIte,reduceCtorEq,Yc,Yd,Ye,Yf,Yg,Yj,Yk,Yl,Ym,Yn,Zca,Za3,ZiP,Zjx,Zdx,ZlI,gE1,Tryz.ntmps141,Tryz.results141,gTT]
 refine ⟨hl,fun h=>?_,fun h=>⟨fun h2=>?_,fun h2=>⟨hl,by kernel_rfl,?_⟩⟩⟩
 ·have e:plE ⟨q,⟨ct,cd,cg,cm⟩,⟨c,⟨n,d,a,p,f⟩,l⟩,lo,mi⟩ i=1:=by unfold plE; rw [if_pos h]
  simp [plC,plO,plM,plR,e,br0,rs0,Zw]
 ·have hv:brV ⟨q,⟨ct,cd,cg,cm⟩,⟨c,⟨n,d,a,p,f⟩,l⟩,lo,mi⟩=true:=by simpa using h
  have e:plE ⟨q,⟨ct,cd,cg,cm⟩,⟨c,⟨n,d,a,p,f⟩,l⟩,lo,mi⟩ i=2:=by unfold plE; rw [if_neg (by rw [hv]; decide),if_pos h2]
  simp [plC,plO,plM,plR,e,br0,rs0,Zw]
 have hv:brV ⟨q,⟨ct,cd,cg,cm⟩,⟨c,⟨n,d,a,p,f⟩,l⟩,lo,mi⟩=true:=by simpa using h
 have hi:0≤i∧i≤65536:=by simp only [Bool.or_eq_false_iff,decide_eq_false_iff_not] at h2; omega
 obtain ⟨b1,b2,b3,b4,b5,b6⟩:=Zkf hv
 simp only at b1 b2 b3 b4 b5 b6
 obtain ⟨w1,w2,w3⟩:=Zec b1 hl
 have hA:=ZGk hv
 have hp:=(ZA hA).1
 have hK:=ZBe hv hl hi
 have hrt:rtP ⟨n,d,a,p,f⟩ (ajX ⟨ct,cd,cg,cm⟩ (waN ⟨c,⟨n,d,a,p,f⟩,l⟩))=(plA ⟨q,⟨ct,cd,cg,cm⟩,⟨c,⟨n,d,a,p,f⟩,l⟩,lo,mi⟩).p:=by
  have h0:rtE ⟨n,d,a,p,f⟩ (ajX ⟨ct,cd,cg,cm⟩ (waN ⟨c,⟨n,d,a,p,f⟩,l⟩))=0:=by
   unfold rtE
   have h3:=ZzC ⟨ct,cd,cg,cm⟩ (waN ⟨c,⟨n,d,a,p,f⟩,l⟩)
   have h4:tuX (ajX ⟨ct,cd,cg,cm⟩ (waN ⟨c,⟨n,d,a,p,f⟩,l⟩))=true:=by simp only [tuX,Bool.and_eq_true,decide_eq_true_eq]; exact h3
   rw [if_neg (by rw [(ZA b1).1]; decide),if_neg (by rw [h4]; decide)]
  unfold rtP
  rw [if_pos h0]
  rfl
 have hma:maN (plA ⟨q,⟨ct,cd,cg,cm⟩,⟨c,⟨n,d,a,p,f⟩,l⟩,lo,mi⟩).p (waN ⟨c,⟨n,d,a,p,f⟩,l⟩)=((mkN (plA ⟨q,⟨ct,cd,cg,cm⟩,⟨c,⟨n,d,a,p,f⟩,l⟩,lo,mi⟩).p (waN ⟨c,⟨n,d,a,p,f⟩,l⟩):Nat):Int):=by
  have h0:maE (plA ⟨q,⟨ct,cd,cg,cm⟩,⟨c,⟨n,d,a,p,f⟩,l⟩,lo,mi⟩).p (waN ⟨c,⟨n,d,a,p,f⟩,l⟩)=0:=by
   unfold maE
   rw [if_neg (by rw [hp]; decide),if_neg (by simp only [Bool.or_eq_true,decide_eq_true_eq]; omega)]
  unfold maN
  rw [if_pos h0]
 have hpk:plK ⟨q,⟨ct,cd,cg,cm⟩,⟨c,⟨n,d,a,p,f⟩,l⟩,lo,mi⟩ i=min ((mkN (plA ⟨q,⟨ct,cd,cg,cm⟩,⟨c,⟨n,d,a,p,f⟩,l⟩,lo,mi⟩).p (waN ⟨c,⟨n,d,a,p,f⟩,l⟩):Nat):Int) i:=rfl
 have hKe:(if i < ((mkN (plA ⟨q,⟨ct,cd,cg,cm⟩,⟨c,⟨n,d,a,p,f⟩,l⟩,lo,mi⟩).p (waN ⟨c,⟨n,d,a,p,f⟩,l⟩):Nat):Int) then i else ((mkN (plA ⟨q,⟨ct,cd,cg,cm⟩,⟨c,⟨n,d,a,p,f⟩,l⟩,lo,mi⟩).p (waN ⟨c,⟨n,d,a,p,f⟩,l⟩):Nat):Int))=plK ⟨q,⟨ct,cd,cg,cm⟩,⟨c,⟨n,d,a,p,f⟩,l⟩,lo,mi⟩ i:=by
  rw [hpk]
  split <;> omega
 have hAe:(⟨c,(plA ⟨q,⟨ct,cd,cg,cm⟩,⟨c,⟨n,d,a,p,f⟩,l⟩,lo,mi⟩).p,l⟩:Rs)=plA ⟨q,⟨ct,cd,cg,cm⟩,⟨c,⟨n,d,a,p,f⟩,l⟩,lo,mi⟩:=rfl
 have eE:plE ⟨q,⟨ct,cd,cg,cm⟩,⟨c,⟨n,d,a,p,f⟩,l⟩,lo,mi⟩ i=tkE (plA ⟨q,⟨ct,cd,cg,cm⟩,⟨c,⟨n,d,a,p,f⟩,l⟩,lo,mi⟩) (plK ⟨q,⟨ct,cd,cg,cm⟩,⟨c,⟨n,d,a,p,f⟩,l⟩,lo,mi⟩ i):=by unfold plE; rw [if_neg (by rw [hv]; decide),if_neg (by rw [h2]; decide)]
 rw [hrt,hma,hKe,hAe]
 refine ⟨⟨hl,ht⟩,fun h3=>absurd ht (by simpa using h3),fun h3=>?_⟩
 obtain ⟨⟨k1,k2⟩,k3,k4,k5⟩:=ZW (ZA b1).2 hl
 simp only at k1 k2
 have hcc:(c.toNat:Int)=c:=by omega
 have hC:tkC (plA ⟨q,⟨ct,cd,cg,cm⟩,⟨c,⟨n,d,a,p,f⟩,l⟩,lo,mi⟩) (plK ⟨q,⟨ct,cd,cg,cm⟩,⟨c,⟨n,d,a,p,f⟩,l⟩,lo,mi⟩ i)=c:=by unfold tkC; rw [if_pos ht]; rfl
 have hO:tkO (plA ⟨q,⟨ct,cd,cg,cm⟩,⟨c,⟨n,d,a,p,f⟩,l⟩,lo,mi⟩) (plK ⟨q,⟨ct,cd,cg,cm⟩,⟨c,⟨n,d,a,p,f⟩,l⟩,lo,mi⟩ i)=ZcQ (plA ⟨q,⟨ct,cd,cg,cm⟩,⟨c,⟨n,d,a,p,f⟩,l⟩,lo,mi⟩) (plK ⟨q,⟨ct,cd,cg,cm⟩,⟨c,⟨n,d,a,p,f⟩,l⟩,lo,mi⟩ i).toNat:=by unfold tkO; rw [if_pos ht]
 have hR:tkR (plA ⟨q,⟨ct,cd,cg,cm⟩,⟨c,⟨n,d,a,p,f⟩,l⟩,lo,mi⟩) (plK ⟨q,⟨ct,cd,cg,cm⟩,⟨c,⟨n,d,a,p,f⟩,l⟩,lo,mi⟩ i)=poR (plA ⟨q,⟨ct,cd,cg,cm⟩,⟨c,⟨n,d,a,p,f⟩,l⟩,lo,mi⟩) (plK ⟨q,⟨ct,cd,cg,cm⟩,⟨c,⟨n,d,a,p,f⟩,l⟩,lo,mi⟩ i):=by unfold tkR; rw [if_pos ht]
 have hol:(ZcQ (plA ⟨q,⟨ct,cd,cg,cm⟩,⟨c,⟨n,d,a,p,f⟩,l⟩,lo,mi⟩) (plK ⟨q,⟨ct,cd,cg,cm⟩,⟨c,⟨n,d,a,p,f⟩,l⟩,lo,mi⟩ i).toNat).length=(plK ⟨q,⟨ct,cd,cg,cm⟩,⟨c,⟨n,d,a,p,f⟩,l⟩,lo,mi⟩ i).toNat*c.toNat:=Zd9 (plA ⟨q,⟨ct,cd,cg,cm⟩,⟨c,⟨n,d,a,p,f⟩,l⟩,lo,mi⟩) (plK ⟨q,⟨ct,cd,cg,cm⟩,⟨c,⟨n,d,a,p,f⟩,l⟩,lo,mi⟩ i).toNat
 have hmul:(i - plK ⟨q,⟨ct,cd,cg,cm⟩,⟨c,⟨n,d,a,p,f⟩,l⟩,lo,mi⟩ i)*c=(((i.toNat - (plK ⟨q,⟨ct,cd,cg,cm⟩,⟨c,⟨n,d,a,p,f⟩,l⟩,lo,mi⟩ i).toNat)*c.toNat:Nat):Int):=by rw [Int.natCast_mul,hcc]; congr 1; omega
 have hmb:=Nat.mul_le_mul (show i.toNat - (plK ⟨q,⟨ct,cd,cg,cm⟩,⟨c,⟨n,d,a,p,f⟩,l⟩,lo,mi⟩ i).toNat≤65536 by omega) (show c.toNat≤8 by omega)
 have hmb2:=Nat.mul_le_mul (show (plK ⟨q,⟨ct,cd,cg,cm⟩,⟨c,⟨n,d,a,p,f⟩,l⟩,lo,mi⟩ i).toNat≤65536 by omega) (show c.toNat≤8 by omega)
 have e:plE ⟨q,⟨ct,cd,cg,cm⟩,⟨c,⟨n,d,a,p,f⟩,l⟩,lo,mi⟩ i=0:=by rw [eE]; exact ht
 rw [hC,hO,hR,IntWalk.i64_in (i - plK ⟨q,⟨ct,cd,cg,cm⟩,⟨c,⟨n,d,a,p,f⟩,l⟩,lo,mi⟩ i) (by omega),hmul,IntWalk.i64_in _ (by omega),Int.toNat_natCast]
 refine ⟨⟨by omega,by omega,by omega⟩,by unfold Zab; rw [List.length_replicate,hol]; omega,by kernel_rfl,?_⟩
 simp [plC,plO,plM,plR,e]
theorem ZB5 (q ct cd cg cm c n d a p f:Int) (l:List Int) (lo mi:Int) (i:Int) (hl:l.length≤1000000):Spec Tryz.prog 0 141 [.agg [.d (.int .i64 q),.d (.int .i64 ct),.d (.int .i64 cd),.d (.int .i64 cg),.d (.int .i64 cm),.d (.int .i64 c),.d (.int .i64 n),.d (.int .i64 d),.d (.int .i64 a),.d (.int .i64 p),.d (.int .i64 f),.d (.list (LI .i32 l)),.d (.int .i64 lo),.d (.int .i64 mi)],.c (.d (.int .i64 i))] [] [] (.tup [.agg [.int .i64 (plC ⟨q,⟨ct,cd,cg,cm⟩,⟨c,⟨n,d,a,p,f⟩,l⟩,lo,mi⟩ i),.list (LI .i32 (plO ⟨q,⟨ct,cd,cg,cm⟩,⟨c,⟨n,d,a,p,f⟩,l⟩,lo,mi⟩ i))],.int .i64 (plM ⟨q,⟨ct,cd,cg,cm⟩,⟨c,⟨n,d,a,p,f⟩,l⟩,lo,mi⟩ i),.agg [.int .i64 (plR ⟨q,⟨ct,cd,cg,cm⟩,⟨c,⟨n,d,a,p,f⟩,l⟩,lo,mi⟩ i).q,.int .i64 (plR ⟨q,⟨ct,cd,cg,cm⟩,⟨c,⟨n,d,a,p,f⟩,l⟩,lo,mi⟩ i).c.t,.int .i64 (plR ⟨q,⟨ct,cd,cg,cm⟩,⟨c,⟨n,d,a,p,f⟩,l⟩,lo,mi⟩ i).c.d,.int .i64 (plR ⟨q,⟨ct,cd,cg,cm⟩,⟨c,⟨n,d,a,p,f⟩,l⟩,lo,mi⟩ i).c.g,.int .i64 (plR ⟨q,⟨ct,cd,cg,cm⟩,⟨c,⟨n,d,a,p,f⟩,l⟩,lo,mi⟩ i).c.m,.int .i64 (plR ⟨q,⟨ct,cd,cg,cm⟩,⟨c,⟨n,d,a,p,f⟩,l⟩,lo,mi⟩ i).r.c,.int .i64 (plR ⟨q,⟨ct,cd,cg,cm⟩,⟨c,⟨n,d,a,p,f⟩,l⟩,lo,mi⟩ i).r.p.n,.int .i64 (plR ⟨q,⟨ct,cd,cg,cm⟩,⟨c,⟨n,d,a,p,f⟩,l⟩,lo,mi⟩ i).r.p.d,.int .i64 (plR ⟨q,⟨ct,cd,cg,cm⟩,⟨c,⟨n,d,a,p,f⟩,l⟩,lo,mi⟩ i).r.p.a,.int .i64 (plR ⟨q,⟨ct,cd,cg,cm⟩,⟨c,⟨n,d,a,p,f⟩,l⟩,lo,mi⟩ i).r.p.p,.int .i64 (plR ⟨q,⟨ct,cd,cg,cm⟩,⟨c,⟨n,d,a,p,f⟩,l⟩,lo,mi⟩ i).r.p.f,.list (LI .i32 (plR ⟨q,⟨ct,cd,cg,cm⟩,⟨c,⟨n,d,a,p,f⟩,l⟩,lo,mi⟩ i).r.l),.int .i64 (plR ⟨q,⟨ct,cd,cg,cm⟩,⟨c,⟨n,d,a,p,f⟩,l⟩,lo,mi⟩ i).lo,.int .i64 (plR ⟨q,⟨ct,cd,cg,cm⟩,⟨c,⟨n,d,a,p,f⟩,l⟩,lo,mi⟩ i).mi],.int .i64 (plE ⟨q,⟨ct,cd,cg,cm⟩,⟨c,⟨n,d,a,p,f⟩,l⟩,lo,mi⟩ i)]) [] []:=by
 by_cases ht:tkE (plA ⟨q,⟨ct,cd,cg,cm⟩,⟨c,⟨n,d,a,p,f⟩,l⟩,lo,mi⟩) (plK ⟨q,⟨ct,cd,cg,cm⟩,⟨c,⟨n,d,a,p,f⟩,l⟩,lo,mi⟩ i)=0
 ·exact ZxR q ct cd cg cm c n d a p f l lo mi i hl ht
 ·exact ZxQ q ct cd cg cm c n d a p f l lo mi i hl ht
def ZoB:List V→Zf→Zr→Name→Option Ent
 | [.agg [.d (.int .i64 q),.d (.int .i64 ct),.d (.int .i64 cd),.d (.int .i64 cg),.d (.int .i64 cm),.d (.int .i64 c),.d (.int .i64 n),.d (.int .i64 d),.d (.int .i64 a),.d (.int .i64 p),.d (.int .i64 f),.d (.list q_l),.d (.int .i64 lo),.d (.int .i64 mi)],.c (.d (.int .i64 i))],[],[],_=>some ⟨(Zc q_l).length≤1000000∧q_l=LI .i32 (Zc q_l),.tup [.agg [.int .i64 (plC ⟨q,⟨ct,cd,cg,cm⟩,⟨c,⟨n,d,a,p,f⟩,(Zc q_l)⟩,lo,mi⟩ i),.list (LI .i32 (plO ⟨q,⟨ct,cd,cg,cm⟩,⟨c,⟨n,d,a,p,f⟩,(Zc q_l)⟩,lo,mi⟩ i))],.int .i64 (plM ⟨q,⟨ct,cd,cg,cm⟩,⟨c,⟨n,d,a,p,f⟩,(Zc q_l)⟩,lo,mi⟩ i),.agg [.int .i64 (plR ⟨q,⟨ct,cd,cg,cm⟩,⟨c,⟨n,d,a,p,f⟩,(Zc q_l)⟩,lo,mi⟩ i).q,.int .i64 (plR ⟨q,⟨ct,cd,cg,cm⟩,⟨c,⟨n,d,a,p,f⟩,(Zc q_l)⟩,lo,mi⟩ i).c.t,.int .i64 (plR ⟨q,⟨ct,cd,cg,cm⟩,⟨c,⟨n,d,a,p,f⟩,(Zc q_l)⟩,lo,mi⟩ i).c.d,.int .i64 (plR ⟨q,⟨ct,cd,cg,cm⟩,⟨c,⟨n,d,a,p,f⟩,(Zc q_l)⟩,lo,mi⟩ i).c.g,.int .i64 (plR ⟨q,⟨ct,cd,cg,cm⟩,⟨c,⟨n,d,a,p,f⟩,(Zc q_l)⟩,lo,mi⟩ i).c.m,.int .i64 (plR ⟨q,⟨ct,cd,cg,cm⟩,⟨c,⟨n,d,a,p,f⟩,(Zc q_l)⟩,lo,mi⟩ i).r.c,.int .i64 (plR ⟨q,⟨ct,cd,cg,cm⟩,⟨c,⟨n,d,a,p,f⟩,(Zc q_l)⟩,lo,mi⟩ i).r.p.n,.int .i64 (plR ⟨q,⟨ct,cd,cg,cm⟩,⟨c,⟨n,d,a,p,f⟩,(Zc q_l)⟩,lo,mi⟩ i).r.p.d,.int .i64 (plR ⟨q,⟨ct,cd,cg,cm⟩,⟨c,⟨n,d,a,p,f⟩,(Zc q_l)⟩,lo,mi⟩ i).r.p.a,.int .i64 (plR ⟨q,⟨ct,cd,cg,cm⟩,⟨c,⟨n,d,a,p,f⟩,(Zc q_l)⟩,lo,mi⟩ i).r.p.p,.int .i64 (plR ⟨q,⟨ct,cd,cg,cm⟩,⟨c,⟨n,d,a,p,f⟩,(Zc q_l)⟩,lo,mi⟩ i).r.p.f,.list (LI .i32 (plR ⟨q,⟨ct,cd,cg,cm⟩,⟨c,⟨n,d,a,p,f⟩,(Zc q_l)⟩,lo,mi⟩ i).r.l),.int .i64 (plR ⟨q,⟨ct,cd,cg,cm⟩,⟨c,⟨n,d,a,p,f⟩,(Zc q_l)⟩,lo,mi⟩ i).lo,.int .i64 (plR ⟨q,⟨ct,cd,cg,cm⟩,⟨c,⟨n,d,a,p,f⟩,(Zc q_l)⟩,lo,mi⟩ i).mi],.int .i64 (plE ⟨q,⟨ct,cd,cg,cm⟩,⟨c,⟨n,d,a,p,f⟩,(Zc q_l)⟩,lo,mi⟩ i)],[],[]⟩
 | _,_,_,_=>none
def ZyW:=And.intro (@ZoB.eq_1) (@ZoB.eq_1)
theorem ZyX:Snd Tryz.prog 141 ZoB:=by
 intro vs b k n e h hn hp
 unfold ZoB at h
 split at h
 ·cases h; obtain ⟨hp0,hq0⟩:=hp; obtain ⟨_,rfl⟩:=Zq hq0; simp only [Zi,Zo,Zj,Zp] at hp0 ⊢; exact (ZB5 _ _ _ _ _ _ _ _ _ _ _ _ _ _ _ hp0).lift rfl _
 ·cases h
theorem ZDF {c n d:Int} (hc:1≤c∧c≤8) (hp:phV ⟨n,d,0,0,0⟩=true):nwE c n d=0∧nwR c n d=⟨c,⟨n,d,0,0,0⟩,[]⟩:=by
 have:rsV ⟨c,⟨n,d,0,0,0⟩,[]⟩=true:=by unfold rsV; rw [hp,Zhy hc]; rfl
 exact ⟨by unfold nwE; rw [if_pos this],by unfold nwR; rw [if_pos this]⟩
theorem ZDE {ch n d fi:Int} (hc:1≤ch∧ch≤8) (hp:phV ⟨n,d,0,0,0⟩=true) (hf:0≤fi∧fi≤65536):feR ⟨ch,⟨n,d,0,0,0⟩,[]⟩ ch (List.replicate (ch*fi).toNat 0)=⟨ch,⟨n,d,0,0,0⟩,List.replicate (ch*fi).toNat 0⟩∧Zyp ch fi=ch∧Zxm ch fi=List.replicate (ch*fi).toNat 0∧ch*fi=((fi.toNat*ch.toNat:Nat):Int)∧fi.toNat*ch.toNat≤524288:=by
 have e1:ch*fi=((fi.toNat*ch.toNat:Nat):Int):=by
  rw [Int.natCast_mul,Int.toNat_of_nonneg (by omega),Int.toNat_of_nonneg (by omega),Int.mul_comm]
 have hl:(List.replicate (ch*fi).toNat (0:Int)).length=fi.toNat*ch.toNat:=by rw [List.length_replicate,e1,Int.toNat_natCast]
 have hbl:ZaL ch (List.replicate (ch*fi).toNat 0)=true:=Za5 hc hl (by omega) (by
  rw [List.all_eq_true]
  intro y hy
  rw [List.eq_of_mem_replicate hy]
  decide)
 have hr:rsV ⟨ch,⟨n,d,0,0,0⟩,[]⟩=true:=by unfold rsV; rw [hp,Zhy hc]; rfl
 have hE:feE ⟨ch,⟨n,d,0,0,0⟩,[]⟩ ch (List.replicate (ch*fi).toNat 0)=0:=by
  unfold feE
  have h5:(([]:List Int).length+(List.replicate (ch*fi).toNat (0:Int)).length) / ch.toNat=fi.toNat:=by
   rw [hl,List.length_nil,Nat.zero_add,Nat.mul_div_cancel _ (by omega)]
  rw [if_neg (by rw [hr,hbl]; decide),if_neg (by simp),if_neg (by show ¬ 65536 < (([]:List Int).length+_) / ch.toNat; rw [h5]; omega)]
 have hsb:Zxl ch fi=false:=by
  simp only [Zxl,Bool.or_eq_false_iff,decide_eq_false_iff_not]
  omega
 have hmb:=Nat.mul_le_mul (show fi.toNat≤65536 by omega) (show ch.toNat≤8 by omega)
 exact ⟨by unfold feR; rw [if_pos hE]; rfl,by unfold Zyp; rw [hsb]; rfl,by unfold Zxm; rw [hsb]; rfl,e1,by omega⟩
theorem ZHS {ch n d:Int} (h:nwE ch n d=0):(1≤ch∧ch≤8)∧phV ⟨n,d,0,0,0⟩=true:=by
 unfold nwE at h
 split at h
 ·rename_i h2
  obtain ⟨h3,h4⟩:=ZA h2
  exact ⟨(ZW h4 (Nat.zero_le _)).1,h3⟩
 ·cases h
theorem ZBF (ch n d ct cd cg cm q fi:Int):Spec Tryz.prog 0 118 [vI .i64 ch,.agg [.d (.int .i64 n),.d (.int .i64 d)],.agg [.d (.int .i64 ct),.d (.int .i64 cd),.d (.int .i64 cg),.d (.int .i64 cm)],vI .i64 q,vI .i64 fi] [] [] (.tup [.agg [.int .i64 (bnR ch n d ⟨ct,cd,cg,cm⟩ q fi).q,.int .i64 (bnR ch n d ⟨ct,cd,cg,cm⟩ q fi).c.t,.int .i64 (bnR ch n d ⟨ct,cd,cg,cm⟩ q fi).c.d,.int .i64 (bnR ch n d ⟨ct,cd,cg,cm⟩ q fi).c.g,.int .i64 (bnR ch n d ⟨ct,cd,cg,cm⟩ q fi).c.m,.int .i64 (bnR ch n d ⟨ct,cd,cg,cm⟩ q fi).r.c,.int .i64 (bnR ch n d ⟨ct,cd,cg,cm⟩ q fi).r.p.n,.int .i64 (bnR ch n d ⟨ct,cd,cg,cm⟩ q fi).r.p.d,.int .i64 (bnR ch n d ⟨ct,cd,cg,cm⟩ q fi).r.p.a,.int .i64 (bnR ch n d ⟨ct,cd,cg,cm⟩ q fi).r.p.p,.int .i64 (bnR ch n d ⟨ct,cd,cg,cm⟩ q fi).r.p.f,.list (LI .i32 (bnR ch n d ⟨ct,cd,cg,cm⟩ q fi).r.l),.int .i64 (bnR ch n d ⟨ct,cd,cg,cm⟩ q fi).lo,.int .i64 (bnR ch n d ⟨ct,cd,cg,cm⟩ q fi).mi],.int .i64 (bnE ch n d ⟨ct,cd,cg,cm⟩ q fi)]) [] []:=by
 refine sE (md:=fun _=>0) (L:=[(47,ZeO),(132,Zcc),(58,Zcm),(88,Zi7)]) [(1,[0,0,0,0,0,17594331462879,0,0,0,0,0,17594266451167,0,0,0])] 17593259818207 (Za Zfl (Za ZcX (Za Zc6 (Za Zi9 Zb)))) Tryz.func118 rfl rfl rfl ?_
 simp (maxSteps:=1000000) only [↓Zn,Ze,Zd,Zm,gSt,gS0,Ya,Yb,↓reduceIte,reduceCtorEq,Yc,Yd,Ye,Yf,Yg,Yj,Yk,Yl,Ym,Yn,Zfk,ZcW,Zc5,Zi8,gE1,Tryz.ntmps118,Tryz.results118,gTT]
 refine ⟨fun h=>?_,fun h=>⟨fun h2=>?_,fun h2=>?_⟩⟩
 ·have e:bnE ch n d ⟨ct,cd,cg,cm⟩ q fi=2:=by unfold bnE; rw [if_pos h]
  simp [bnR,e,br0,rs0,Zw]
 ·have e:bnE ch n d ⟨ct,cd,cg,cm⟩ q fi=1:=by unfold bnE; rw [if_neg (by rw [h]; decide),if_pos (by exact h2)]
  simp [bnR,e,br0,rs0,Zw]
 have e:bnE ch n d ⟨ct,cd,cg,cm⟩ q fi=0:=by unfold bnE; rw [if_neg (by rw [h]; decide),if_neg (by rw [h2]; decide)]
 have hn:nwE ch n d=0:=by
  simp only [Bool.or_eq_false_iff,bne_eq_false_iff_eq] at h2
  exact h2.1
 obtain ⟨hc,hp⟩:=ZHS hn
 have hf:0≤fi∧fi≤65536:=by
  simp only [Bool.or_eq_false_iff,decide_eq_false_iff_not] at h
  omega
 obtain ⟨f1,f2,f3,f4,f5⟩:=ZDE hc hp hf
 have hr:=(ZDF hc hp).2
 rw [hr,f2,f3,f1]
 refine ⟨⟨Nat.zero_le _,by rw [List.length_replicate,f4,Int.toNat_natCast]; omega⟩,?_⟩
 simp [bnR,e]
def ZnQ:List V→Zf→Zr→Name→Option Ent
 | [.c (.d (.int .i64 ch)),.agg [.d (.int .i64 n),.d (.int .i64 d)],.agg [.d (.int .i64 ct),.d (.int .i64 cd),.d (.int .i64 cg),.d (.int .i64 cm)],.c (.d (.int .i64 q)),.c (.d (.int .i64 fi))],[],[],_=>some ⟨True,.tup [.agg [.int .i64 (bnR ch n d ⟨ct,cd,cg,cm⟩ q fi).q,.int .i64 (bnR ch n d ⟨ct,cd,cg,cm⟩ q fi).c.t,.int .i64 (bnR ch n d ⟨ct,cd,cg,cm⟩ q fi).c.d,.int .i64 (bnR ch n d ⟨ct,cd,cg,cm⟩ q fi).c.g,.int .i64 (bnR ch n d ⟨ct,cd,cg,cm⟩ q fi).c.m,.int .i64 (bnR ch n d ⟨ct,cd,cg,cm⟩ q fi).r.c,.int .i64 (bnR ch n d ⟨ct,cd,cg,cm⟩ q fi).r.p.n,.int .i64 (bnR ch n d ⟨ct,cd,cg,cm⟩ q fi).r.p.d,.int .i64 (bnR ch n d ⟨ct,cd,cg,cm⟩ q fi).r.p.a,.int .i64 (bnR ch n d ⟨ct,cd,cg,cm⟩ q fi).r.p.p,.int .i64 (bnR ch n d ⟨ct,cd,cg,cm⟩ q fi).r.p.f,.list (LI .i32 (bnR ch n d ⟨ct,cd,cg,cm⟩ q fi).r.l),.int .i64 (bnR ch n d ⟨ct,cd,cg,cm⟩ q fi).lo,.int .i64 (bnR ch n d ⟨ct,cd,cg,cm⟩ q fi).mi],.int .i64 (bnE ch n d ⟨ct,cd,cg,cm⟩ q fi)],[],[]⟩
 | _,_,_,_=>none
def Zyr:=And.intro (@ZnQ.eq_1) (@ZnQ.eq_1)
theorem Zys:Snd Tryz.prog 118 ZnQ:=by
 intro vs b k n e h hn hp
 unfold ZnQ at h
 split at h
 ·cases h; exact (ZBF _ _ _ _ _ _ _ _ _).lift rfl _
 ·cases h
end Go.Vam
