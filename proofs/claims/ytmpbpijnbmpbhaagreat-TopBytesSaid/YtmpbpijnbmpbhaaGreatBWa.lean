/- A part of the proof. Conditions: none. -/
import Derived.Test.YtmpbpijnbmpbhaaGreatBTab
section
set_option linter.unusedVariables false
set_option linter.defProp false
set_option linter.unusedSimpArgs false
set_option maxRecDepth 40000
set_option maxHeartbeats 4000000
namespace Go.Vam
open Go.Proofs
open Nat renaming reduceShiftRight→Ya,reduceMod→Yb,reduceEqDiff→Yc,reduceLT→Yd,reduceLeDiff→Ye,reduceAdd→Yf,reduceMul→Yg
open Int renaming reduceLE→Yj,reduceLT→Yk,reduceNeg→Yl,reduceAdd→Ym,reduceToNat→Yn
theorem ZEs (n:Nat) {s:Int} (hs:0 < s):(n:Int).tdiv s=((n / s.toNat:Nat):Int):=by
 have e:s=(s.toNat:Int):=by omega
 rw [Int.tdiv_eq_ediv_of_nonneg (by omega),e]
 exact (Int.natCast_ediv ..).symm
theorem ZCF (n:Nat) {s:Int} (hs:0 < s):(n:Int).tmod s=((n % s.toNat:Nat):Int):=by
 have e:s=(s.toNat:Int):=by omega
 rw [Int.tmod_eq_emod_of_nonneg (by omega),e]
 exact (Int.natCast_emod ..).symm
structure Ph where
 n:Int
 d:Int
 a:Int
 p:Int
 f:Int
def Zeg (a b:Int):Int:=((Nat.gcd a.toNat b.toNat:Nat):Int)
theorem ZpL {a:Int} (h:0≤a):Zeg a 0=a:=by unfold Zeg; simp; omega
theorem ZpK {a b:Int} (ha:0≤a) (hb:0 < b):Zeg a b=Zeg b (a.tmod b):=by
 unfold Zeg
 rw [Int.tmod_eq_emod_of_nonneg ha]
 have e:(a % b).toNat=a.toNat % b.toNat:=by
  have h1:a=(a.toNat:Int):=by omega
  have h2:b=(b.toNat:Int):=by omega
  rw [h1,h2,← Int.natCast_emod,Int.toNat_natCast,Int.toNat_natCast,Int.toNat_natCast]
 rw [e,Nat.gcd_comm,Nat.gcd_rec,Nat.gcd_comm]
def rtV (n d:Int):Bool:=decide (1≤n) && decide (1≤d) && decide (n≤68719476736) && decide (d≤68719476736) && Zeg n d==1
def prt (p:Ph):Int:=IntKind.i64.wrap (p.d*65536)
def stp (p:Ph):Int:=IntKind.i64.wrap (p.n*IntKind.i64.wrap (65536+p.a))
def tuX (a:Int):Bool:=decide (-4096≤a) && decide (a≤4096)
def phV (p:Ph):Bool:=rtV p.n p.d && decide (p.n≤768000) && decide (p.d≤768000) && tuX p.a && decide (0≤p.p) && decide (p.p≤1125899906842624) && decide (0≤p.f) && decide (p.f < prt p)
theorem ZbG {p:Ph} (h:phV p=true):(1≤p.n∧p.n≤768000)∧(1≤p.d∧p.d≤768000)∧(-4096≤p.a∧p.a≤4096)∧(0≤p.p∧p.p≤1125899906842624)∧(0≤p.f∧p.f < p.d*65536)∧prt p=p.d*65536:=by
 simp only [phV,rtV,tuX,Bool.and_eq_true,decide_eq_true_eq] at h
 obtain ⟨⟨⟨⟨⟨⟨⟨⟨⟨⟨⟨h1,h2⟩,h3⟩,h4⟩,h5⟩,h6⟩,h7⟩,h8,h9⟩,h10⟩,h11⟩,h12⟩,h13⟩:=h
 have hp:prt p=p.d*65536:=IntWalk.i64_in _ (by omega)
 rw [hp] at h13
 exact ⟨⟨h1,h6⟩,⟨h2,h7⟩,⟨h8,h9⟩,⟨h10,h11⟩,⟨h12,h13⟩,hp⟩
theorem Zdf {p:Ph} (h:phV p=true):65536≤prt p∧prt p≤50331648000:=by
 obtain ⟨_,h2,_,_,_,h6⟩:=ZbG h
 omega
theorem ZGa {x y A B:Int} (h1:0≤x) (h2:x≤A) (h3:0≤y) (h4:y≤B):0≤x*y∧x*y≤A*B :=
 ⟨Int.mul_nonneg h1 h3,Int.le_trans (Int.mul_le_mul_of_nonneg_right h2 h3) (Int.mul_le_mul_of_nonneg_left h4 (by omega))⟩
theorem ZfB {p:Ph} (h:phV p=true):stp p=p.n*(65536+p.a)∧61440≤stp p∧stp p≤53477376000:=by
 obtain ⟨h1,h2,h3,_⟩:=ZbG h
 have hb:=ZGa (x:=p.n) (y:=65536+p.a) (A:=768000) (B:=69632) (by omega) (by omega) (by omega) (by omega)
 have hl:1*61440≤p.n*(65536+p.a):=Int.mul_le_mul h1.1 (by omega) (by decide) (by omega)
 unfold stp
 rw [IntWalk.i64_in (65536+p.a) (by omega),IntWalk.i64_in _ (by omega)]
 omega
def ahd (p:Ph) (n:Int):Int:=p.f+n*stp p
theorem ZzB {p:Ph} (h:phV p=true) {n:Int} (hn:0≤n∧n≤65536):0≤ahd p n∧ahd p n≤4000000000000000:=by
 obtain ⟨_,h2,_,_,h5,_⟩:=ZbG h
 obtain ⟨_,s1,s2⟩:=ZfB h
 have hb:=ZGa (x:=n) (y:=stp p) (A:=65536) (B:=53477376000) hn.1 hn.2 (by omega) s2
 unfold ahd
 omega
theorem ZHi {p:Ph} (h:phV p=true) {n:Int} (hn:0≤n∧n≤65536):IntKind.i64.wrap (p.f+IntKind.i64.wrap (IntKind.i64.wrap (n*p.n)*IntKind.i64.wrap (65536+p.a)))=ahd p n:=by
 obtain ⟨h1,h2,h3,_,h5,_⟩:=ZbG h
 obtain ⟨s0,s1,s2⟩:=ZfB h
 have hb:=ZGa (x:=n) (y:=p.n) (A:=65536) (B:=768000) hn.1 hn.2 (by omega) h1.2
 have hb2:=ZGa (x:=n) (y:=stp p) (A:=65536) (B:=53477376000) hn.1 hn.2 (by omega) s2
 have e:n*p.n*(65536+p.a)=n*stp p:=by rw [s0,Int.mul_assoc]
 rw [IntWalk.i64_in (n*p.n) (by omega),IntWalk.i64_in (65536+p.a) (by omega),e,IntWalk.i64_in (n*stp p) (by omega),IntWalk.i64_in _ (by omega)]
 rfl
theorem ZFF {p:Ph} (h:phV p=true) {n:Int} (hn:0≤n∧n≤65536):IntKind.i64.wrap (p.f+IntKind.i64.wrap (n*stp p))=ahd p n:=by
 obtain ⟨h1,h2,h3,_,h5,_⟩:=ZbG h
 obtain ⟨s0,s1,s2⟩:=ZfB h
 have hb2:=ZGa (x:=n) (y:=stp p) (A:=65536) (B:=53477376000) hn.1 hn.2 (by omega) s2
 rw [IntWalk.i64_in (n*stp p) (by omega),IntWalk.i64_in _ (by omega)]
 rfl
theorem Zvi {p:Ph} (h:phV p=true) {n:Int} (hn:0≤n∧n≤65536):(ahd p n).tdiv (prt p)=ahd p n / prt p∧(ahd p n).tmod (prt p)=ahd p n % prt p :=
 ⟨Int.tdiv_eq_ediv_of_nonneg (ZzB h hn).1,Int.tmod_eq_emod_of_nonneg (ZzB h hn).1⟩
def phC (p:Ph) (n:Int):Int:=if phV p=false then 1 else if (decide (n < 0) || decide (65536 < n))=true then 2 else 0
theorem Zp9 {p:Ph} {n:Int} (h:phC p n=0):phV p=true∧0≤n∧n≤65536:=by
 unfold phC at h
 split at h
 ·cases h
 ·split at h
  ·cases h
  ·rename_i h1 h2
   simp only [Bool.or_eq_true,decide_eq_true_eq,not_or] at h2
   exact ⟨by simpa using h1,by omega,by omega⟩
theorem ZfA {p:Ph} {n:Int} (h:phV p=true) (hn:0≤n∧n≤65536):phC p n=0:=by
 unfold phC
 rw [if_neg (by rw [h]; decide),if_neg (by simp only [Bool.or_eq_true,decide_eq_true_eq]; omega)]
def qAt (p:Ph) (n:Int):Int:=ahd p n / prt p
def fAt (p:Ph) (n:Int):Int:=ahd p n % prt p
theorem Zbk {p:Ph} (h:phV p=true) {n:Int} (hn:0≤n∧n≤65536):(0≤qAt p n∧qAt p n≤62000000000)∧0≤fAt p n∧fAt p n < prt p∧ahd p n=qAt p n*prt p+fAt p n:=by
 obtain ⟨_,h2,_,_,h5,h6⟩:=ZbG h
 obtain ⟨a1,a2⟩:=ZzB h hn
 have hp:65536≤prt p:=by omega
 have h7:ahd p n=qAt p n*prt p+fAt p n:=by
  unfold qAt fAt
  have:=Int.mul_ediv_add_emod (ahd p n) (prt p)
  rw [Int.mul_comm] at this
  exact this.symm
 have h8:0≤qAt p n:=Int.ediv_nonneg a1 (by omega)
 have h9:0≤fAt p n:=Int.emod_nonneg _ (by omega)
 have h10:fAt p n < prt p:=Int.emod_lt_of_pos _ (by omega)
 refine ⟨⟨h8,?_⟩,h9,h10,h7⟩
 have:=Int.mul_le_mul_of_nonneg_left hp h8
 omega
def atP (p:Ph) (n:Int):Int:=if phC p n=0 then p.p+qAt p n else 0
def atF (p:Ph) (n:Int):Int:=if phC p n=0 then fAt p n else 0
def adE (p:Ph) (n:Int):Int:=if phC p n=0 then (if 1125899906842624 < atP p n then 2 else 0) else phC p n
def adP (p:Ph) (n:Int):Ph:=if adE p n=0 then ⟨p.n,p.d,p.a,atP p n,atF p n⟩ else ⟨0,0,0,0,0⟩
def ned (p:Ph) (n:Int):Int:=if n=0 then 0 else max (qAt p (n - 1)+2) (qAt p n)
def neE (p:Ph) (n:Int):Int:=if phC p n=0 then ned p n else 0
theorem Zvj {p:Ph} (h:phV p=true) {n m:Int} (hm:n≤m):qAt p n≤qAt p m:=by
 obtain ⟨_,h2,_,_,h5,h6⟩:=ZbG h
 obtain ⟨_,s1,_⟩:=ZfB h
 unfold qAt ahd
 refine Int.ediv_le_ediv (by omega) ?_
 have:=Int.mul_le_mul_of_nonneg_right hm (show 0≤stp p by omega)
 omega
theorem ZHQ {p:Ph} (h:phV p=true) {n:Int} (hn:0≤n∧n≤65536):0≤ned p n∧ned p n≤70000000000:=by
 unfold ned
 split
 ·omega
 ·have h1:=Zbk h (n:=n - 1) (by omega)
  have h2:=Zbk h (n:=n) (by omega)
  omega
theorem Zfq {p:Ph} (h:phV p=true) {n m:Int} (h0:0≤n) (hm:n≤m) (hb:m≤65536):ned p n≤ned p m:=by
 by_cases hz:n=0
 ·have:=(ZHQ h (n:=m) (by omega)).1
  unfold ned at this ⊢
  rw [if_pos hz]
  exact this
 ·unfold ned
  rw [if_neg hz,if_neg (by omega)]
  have h1:=Zvj h (show n - 1≤m - 1 by omega)
  have h2:=Zvj h hm
  omega
def bsN (p:Ph) (n:Int):Nat→Nat→Nat→Nat
 | 0,lo,_=>lo
 | f+1,lo,hi=>if lo < hi then (if ned p (((lo+hi+1) / 2:Nat):Int)≤n then bsN p n f ((lo+hi+1) / 2) hi else bsN p n f lo ((lo+hi+1) / 2 - 1)) else lo
def mkN (p:Ph) (n:Int):Nat:=bsN p n 17 0 65536
theorem ZmS {p:Ph} (h:phV p=true) {n:Int}:∀ (f lo hi:Nat),lo≤hi→hi≤65536→hi - lo < 2 ^ f→(∀ k:Nat,k≤lo→ned p k≤n)→(∀ k:Nat,k≤65536→ned p k≤n→k≤hi)→
  bsN p n f lo hi≤65536∧∀ k:Nat,k≤65536→(k≤bsN p n f lo hi↔ned p k≤n)
 | 0,lo,hi,h1,h2,h3,h4,h5=>by
  have:lo=hi:=by simp at h3; omega
  subst this
  exact ⟨h2,fun k hk=>⟨h4 k,h5 k hk⟩⟩
 | f+1,lo,hi,h1,h2,h3,h4,h5=>by
  unfold bsN
  rw [Nat.pow_succ] at h3
  split
  ·rename_i hlt
   generalize hm:(lo+hi+1) / 2=m
   split
   ·rename_i hle
    exact ZmS h f m hi (by omega) h2 (by omega) (fun k hk=>Int.le_trans (Zfq h (by omega) (by omega) (by omega)) hle) h5
   ·rename_i hle
    exact ZmS h f lo (m - 1) (by omega) (by omega) (by omega) h4 (fun k hk hn=>by
     have:¬ (m≤k):=fun hmk=>hle (Int.le_trans (Zfq h (by omega) (by omega) (by omega)) hn)
     omega)
  ·rename_i hlt
   have:lo=hi:=by omega
   subst this
   exact ⟨h2,fun k hk=>⟨h4 k,h5 k hk⟩⟩
theorem Znc {p:Ph} (h:phV p=true) {n:Int} (h0:0≤n):mkN p n≤65536∧∀ k:Nat,k≤65536→(k≤mkN p n↔ned p k≤n) :=
 ZmS h 17 0 65536 (by decide) (by decide) (by decide) (fun k hk=>by
  have:k=0:=by omega
  subst this
  simp [ned,h0]) (fun k hk _=>hk)
theorem ZE7 {p:Ph} (h:phV p=true) {n:Int} (h0:0≤n):mkN p n≤65536:=(Znc h h0).1
theorem Zaz {p:Ph} (h:phV p=true) {n:Int} (h0:0≤n) {k:Nat} (hk:k≤65536):k≤mkN p n↔ned p k≤n:=(Znc h h0).2 k hk
def maE (p:Ph) (n:Int):Int:=if phV p=false then 1 else if (decide (n < 0) || decide (1099511627776 < n))=true then 2 else 0
def maN (p:Ph) (n:Int):Int:=if maE p n=0 then ((mkN p n:Nat):Int) else 0
theorem ZD6 (a b:Int) (ha:0≤a) (hb:0≤b):Spec Tryz.prog 0 177 [vI .i64 a,vI .i64 b] [] [] (vI .i64 (Zeg a b)) [] []:=by
 refine sE (md:=fun _=>0) (L:=[]) [] 83 Zb Tryz.func177 rfl rfl rfl ?_
 simp (maxSteps:=1000000) only [↓Zn,Ze,Zd,Zm,gSt,gS0,Ya,Yb,↓reduceIte,reduceCtorEq,Yc,Yd,Ye,Yf,Yg,Yj,Yk,Yl,Ym,Yn,Tryz.ntmps177,Tryz.results177,gTT]
 refine Zk (fun g:Nat×Nat=>⟨[(0,vI .i64 (g.1:Nat)),(1,vI .i64 (g.2:Nat))],[],[]⟩) (fun g=>Zeg (g.1:Nat) (g.2:Nat)=Zeg a b) (fun g=>g.2) (fun g=>(g.2,g.1 % g.2)) (a.toNat,b.toNat) (by rw [show ((a.toNat:Nat):Int)=a by omega,show ((b.toNat:Nat):Int)=b by omega]) ?_ ?_
 ·simp (maxSteps:=1000000) only [↓Zn,Ze,Zd,Zm,gSt,gS0,Ya,Yb,↓reduceIte,reduceCtorEq,Yc,Yd,Ye,Yf,Yg,Yj,Yk,Yl,Ym,Yn,Tryz.ntmps177,Tryz.results177,gTT]
  exact ⟨by omega,by omega⟩
 rintro ⟨x,y⟩ hg
 replace hg:Zeg (x:Int) (y:Int)=Zeg a b:=hg
 simp (maxSteps:=1000000) only [↓Zn,Ze,Zd,Zm,gSt,gS0,Ya,Yb,↓reduceIte,reduceCtorEq,Yc,Yd,Ye,Yf,Yg,Yj,Yk,Yl,Ym,Yn,Tryz.ntmps177,Tryz.results177,gTT]
 refine ⟨fun h=>⟨by kernel_rfl,?_⟩,fun h=>?_⟩
 ·have hy:0 < y:=by simp at h; omega
  refine ⟨by omega,(ZCF x (s:=(y:Int)) (by omega)).symm,?_,Nat.mod_lt _ hy⟩
  have h1:=ZpK (a:=(x:Int)) (b:=(y:Int)) (by omega) (by omega)
  rw [ZCF x (by omega)] at h1
  rw [← hg,h1]
  rfl
 ·have hy:y=0:=by simp at h; exact h
  subst hy
  rw [← hg]
  exact ZpL (by omega)
def ZrP:List V→Zf→Zr→Name→Option Ent
 | [.c (.d (.int .i64 a)),.c (.d (.int .i64 b))],[],[],_=>some ⟨0≤a∧0≤b,vI .i64 (Zeg a b),[],[]⟩
 | _,_,_,_=>none
def Zmw:=And.intro (@ZrP.eq_1) (@ZrP.eq_1)
theorem Zmx:Snd Tryz.prog 177 ZrP:=by
 intro vs b k n e h hn hp
 unfold ZrP at h
 split at h
 ·cases h; obtain ⟨hp0,hp1⟩:=hp; exact (ZD6 _ _ hp0 hp1).lift rfl _
 ·cases h
theorem ZB9 (a b:Int) (ha:0≤a) (hb:0≤b):Spec Tryz.prog 0 157 [vI .i64 a,vI .i64 b] [] [] (vI .i64 (Zeg a b)) [] []:=by
 refine sE (md:=fun _=>0) (L:=[]) [] 83 Zb Tryz.func157 rfl rfl rfl ?_
 simp (maxSteps:=1000000) only [↓Zn,Ze,Zd,Zm,gSt,gS0,Ya,Yb,↓reduceIte,reduceCtorEq,Yc,Yd,Ye,Yf,Yg,Yj,Yk,Yl,Ym,Yn,Tryz.ntmps157,Tryz.results157,gTT]
 refine Zk (fun g:Nat×Nat=>⟨[(0,vI .i64 (g.1:Nat)),(1,vI .i64 (g.2:Nat))],[],[]⟩) (fun g=>Zeg (g.1:Nat) (g.2:Nat)=Zeg a b) (fun g=>g.2) (fun g=>(g.2,g.1 % g.2)) (a.toNat,b.toNat) (by rw [show ((a.toNat:Nat):Int)=a by omega,show ((b.toNat:Nat):Int)=b by omega]) ?_ ?_
 ·simp (maxSteps:=1000000) only [↓Zn,Ze,Zd,Zm,gSt,gS0,Ya,Yb,↓reduceIte,reduceCtorEq,Yc,Yd,Ye,Yf,Yg,Yj,Yk,Yl,Ym,Yn,Tryz.ntmps157,Tryz.results157,gTT]
  exact ⟨by omega,by omega⟩
 rintro ⟨x,y⟩ hg
 replace hg:Zeg (x:Int) (y:Int)=Zeg a b:=hg
 simp (maxSteps:=1000000) only [↓Zn,Ze,Zd,Zm,gSt,gS0,Ya,Yb,↓reduceIte,reduceCtorEq,Yc,Yd,Ye,Yf,Yg,Yj,Yk,Yl,Ym,Yn,Tryz.ntmps157,Tryz.results157,gTT]
 refine ⟨fun h=>⟨by kernel_rfl,?_⟩,fun h=>?_⟩
 ·have hy:0 < y:=by simp at h; omega
  refine ⟨by omega,(ZCF x (s:=(y:Int)) (by omega)).symm,?_,Nat.mod_lt _ hy⟩
  have h1:=ZpK (a:=(x:Int)) (b:=(y:Int)) (by omega) (by omega)
  rw [ZCF x (by omega)] at h1
  rw [← hg,h1]
  rfl
 ·have hy:y=0:=by simp at h; exact h
  subst hy
  rw [← hg]
  exact ZpL (by omega)
def ZlD:List V→Zf→Zr→Name→Option Ent
 | [.c (.d (.int .i64 a)),.c (.d (.int .i64 b))],[],[],_=>some ⟨0≤a∧0≤b,vI .i64 (Zeg a b),[],[]⟩
 | _,_,_,_=>none
def ZoK:=And.intro (@ZlD.eq_1) (@ZlD.eq_1)
theorem ZoL:Snd Tryz.prog 157 ZlD:=by
 intro vs b k n e h hn hp
 unfold ZlD at h
 split at h
 ·cases h; obtain ⟨hp0,hp1⟩:=hp; exact (ZB9 _ _ hp0 hp1).lift rfl _
 ·cases h
theorem Zq9 (n d:Int):Spec Tryz.prog 0 216 [.agg [.d (.int .i64 n),.d (.int .i64 d)]] [] [] (vB (rtV n d)) [] []:=by
 refine sE (md:=fun _=>0) (L:=[(177,ZrP)]) [(1,[0,0,0,0,0,536870727,0,0,0,0,0,536856583,0,0,0,0,0,535822343,0,0,0,0,0,471859207,0,0,0])] 7 (Za Zmx Zb) Tryz.func216 rfl rfl rfl ?_
 simp (maxSteps:=1000000) only [↓Zn,Ze,Zd,Zm,gSt,gS0,Ya,Yb,↓reduceIte,reduceCtorEq,Yc,Yd,Ye,Yf,Yg,Yj,Yk,Yl,Ym,Yn,Zmw,Tryz.ntmps216,Tryz.results216,gTT]
 refine ⟨fun h=>?_,rfl⟩
 simp only [Bool.and_eq_true,decide_eq_true_eq] at h
 omega
def ZbS:List V→Zf→Zr→Name→Option Ent
 | [.agg [.d (.int .i64 n),.d (.int .i64 d)]],[],[],_=>some ⟨True,vB (rtV n d),[],[]⟩
 | _,_,_,_=>none
def Zck:=And.intro (@ZbS.eq_1) (@ZbS.eq_1)
theorem Zcl:Snd Tryz.prog 216 ZbS:=by
 intro vs b k n e h hn hp
 unfold ZbS at h
 split at h
 ·cases h; exact (Zq9 _ _).lift rfl _
 ·cases h
theorem ZnG (n d:Int):Spec Tryz.prog 0 226 [.agg [.d (.int .i64 n),.d (.int .i64 d)]] [] [] (vB (rtV n d)) [] []:=by
 refine sE (md:=fun _=>0) (L:=[(157,ZlD)]) [(1,[0,0,0,0,0,536870727,0,0,0,0,0,536856583,0,0,0,0,0,535822343,0,0,0,0,0,471859207,0,0,0])] 7 (Za ZoL Zb) Tryz.func226 rfl rfl rfl ?_
 simp (maxSteps:=1000000) only [↓Zn,Ze,Zd,Zm,gSt,gS0,Ya,Yb,↓reduceIte,reduceCtorEq,Yc,Yd,Ye,Yf,Yg,Yj,Yk,Yl,Ym,Yn,ZoK,Tryz.ntmps226,Tryz.results226,gTT]
 refine ⟨fun h=>?_,rfl⟩
 simp only [Bool.and_eq_true,decide_eq_true_eq] at h
 omega
def ZdF:List V→Zf→Zr→Name→Option Ent
 | [.agg [.d (.int .i64 n),.d (.int .i64 d)]],[],[],_=>some ⟨True,vB (rtV n d),[],[]⟩
 | _,_,_,_=>none
def ZmG:=And.intro (@ZdF.eq_1) (@ZdF.eq_1)
theorem ZmH:Snd Tryz.prog 226 ZdF:=by
 intro vs b k n e h hn hp
 unfold ZdF at h
 split at h
 ·cases h; exact (ZnG _ _).lift rfl _
 ·cases h
theorem ZxN (n d a p f:Int):Spec Tryz.prog 0 215 [.agg [.d (.int .i64 n),.d (.int .i64 d),.d (.int .i64 a),.d (.int .i64 p),.d (.int .i64 f)]] [] [] (vI .i64 (prt ⟨n,d,a,p,f⟩)) [] []:=by
 refine sE (md:=fun _=>0) (L:=[]) [] 7 Zb Tryz.func215 rfl rfl rfl ?_
 simp (maxSteps:=1000000) only [↓Zn,Ze,Zd,Zm,gSt,gS0,Ya,Yb,↓reduceIte,reduceCtorEq,Yc,Yd,Ye,Yf,Yg,Yj,Yk,Yl,Ym,Yn,Tryz.ntmps215,Tryz.results215,gTT]
 rfl
def ZfH:List V→Zf→Zr→Name→Option Ent
 | [.agg [.d (.int .i64 n),.d (.int .i64 d),.d (.int .i64 a),.d (.int .i64 p),.d (.int .i64 f)]],[],[],_=>some ⟨True,vI .i64 (prt ⟨n,d,a,p,f⟩),[],[]⟩
 | _,_,_,_=>none
def Zhj:=And.intro (@ZfH.eq_1) (@ZfH.eq_1)
theorem Zhk:Snd Tryz.prog 215 ZfH:=by
 intro vs b k n e h hn hp
 unfold ZfH at h
 split at h
 ·cases h; exact (ZxN _ _ _ _ _).lift rfl _
 ·cases h
theorem ZtE (n d a p f:Int):Spec Tryz.prog 0 227 [.agg [.d (.int .i64 n),.d (.int .i64 d),.d (.int .i64 a),.d (.int .i64 p),.d (.int .i64 f)]] [] [] (vI .i64 (prt ⟨n,d,a,p,f⟩)) [] []:=by
 refine sE (md:=fun _=>0) (L:=[]) [] 7 Zb Tryz.func227 rfl rfl rfl ?_
 simp (maxSteps:=1000000) only [↓Zn,Ze,Zd,Zm,gSt,gS0,Ya,Yb,↓reduceIte,reduceCtorEq,Yc,Yd,Ye,Yf,Yg,Yj,Yk,Yl,Ym,Yn,Tryz.ntmps227,Tryz.results227,gTT]
 rfl
def ZdW:List V→Zf→Zr→Name→Option Ent
 | [.agg [.d (.int .i64 n),.d (.int .i64 d),.d (.int .i64 a),.d (.int .i64 p),.d (.int .i64 f)]],[],[],_=>some ⟨True,vI .i64 (prt ⟨n,d,a,p,f⟩),[],[]⟩
 | _,_,_,_=>none
def ZaH:=And.intro (@ZdW.eq_1) (@ZdW.eq_1)
theorem ZfK:Snd Tryz.prog 227 ZdW:=by
 intro vs b k n e h hn hp
 unfold ZdW at h
 split at h
 ·cases h; exact (ZtE _ _ _ _ _).lift rfl _
 ·cases h
theorem Zx5 (n d a p f:Int):Spec Tryz.prog 0 252 [.agg [.d (.int .i64 n),.d (.int .i64 d),.d (.int .i64 a),.d (.int .i64 p),.d (.int .i64 f)]] [] [] (vI .i64 (stp ⟨n,d,a,p,f⟩)) [] []:=by
 refine sE (md:=fun _=>0) (L:=[]) [] 7 Zb Tryz.func252 rfl rfl rfl ?_
 simp (maxSteps:=1000000) only [↓Zn,Ze,Zd,Zm,gSt,gS0,Ya,Yb,↓reduceIte,reduceCtorEq,Yc,Yd,Ye,Yf,Yg,Yj,Yk,Yl,Ym,Yn,Tryz.ntmps252,Tryz.results252,gTT]
 rfl
def ZjM:List V→Zf→Zr→Name→Option Ent
 | [.agg [.d (.int .i64 n),.d (.int .i64 d),.d (.int .i64 a),.d (.int .i64 p),.d (.int .i64 f)]],[],[],_=>some ⟨True,vI .i64 (stp ⟨n,d,a,p,f⟩),[],[]⟩
 | _,_,_,_=>none
def Zwv:=And.intro (@ZjM.eq_1) (@ZjM.eq_1)
theorem Zww:Snd Tryz.prog 252 ZjM:=by
 intro vs b k n e h hn hp
 unfold ZjM at h
 split at h
 ·cases h; exact (Zx5 _ _ _ _ _).lift rfl _
 ·cases h
theorem Zxp (n d a p f:Int) (i:Int) (hv:phV ⟨n,d,a,p,f⟩=true) (hi:0≤i∧i≤65536):Spec Tryz.prog 0 214 [.agg [.d (.int .i64 n),.d (.int .i64 d),.d (.int .i64 a),.d (.int .i64 p),.d (.int .i64 f)],vI .i64 i] [] [] (vI .i64 (ahd ⟨n,d,a,p,f⟩ i)) [] []:=by
 refine sE (md:=fun _=>0) (L:=[]) [(1,[0,0,0,0,0,130263,0,0,0,0,0,65559,0])] 23 Zb Tryz.func214 rfl rfl rfl ?_
 simp (maxSteps:=1000000) only [↓Zn,Ze,Zd,Zm,gSt,gS0,Ya,Yb,↓reduceIte,reduceCtorEq,Yc,Yd,Ye,Yf,Yg,Yj,Yk,Yl,Ym,Yn,Tryz.ntmps214,Tryz.results214,gTT]
 exact (ZHi hv hi).symm
def Zhd:List V→Zf→Zr→Name→Option Ent
 | [.agg [.d (.int .i64 n),.d (.int .i64 d),.d (.int .i64 a),.d (.int .i64 p),.d (.int .i64 f)],.c (.d (.int .i64 i))],[],[],_=>some ⟨phV ⟨n,d,a,p,f⟩=true∧(0≤i∧i≤65536),vI .i64 (ahd ⟨n,d,a,p,f⟩ i),[],[]⟩
 | _,_,_,_=>none
def Zlo:=And.intro (@Zhd.eq_1) (@Zhd.eq_1)
theorem Zlp:Snd Tryz.prog 214 Zhd:=by
 intro vs b k n e h hn hp
 unfold Zhd at h
 split at h
 ·cases h; obtain ⟨hp0,hp1⟩:=hp; exact (Zxp _ _ _ _ _ _ hp0 hp1).lift rfl _
 ·cases h
theorem Zye (a:Int):Spec Tryz.prog 0 217 [vI .i64 a] [] [] (vB (tuX a)) [] []:=by
 refine sE (md:=fun _=>0) (L:=[]) [] 5 Zb Tryz.func217 rfl rfl rfl ?_
 simp (maxSteps:=1000000) only [↓Zn,Ze,Zd,Zm,gSt,gS0,Ya,Yb,↓reduceIte,reduceCtorEq,Yc,Yd,Ye,Yf,Yg,Yj,Yk,Yl,Ym,Yn,Tryz.ntmps217,Tryz.results217,gTT]
 rfl
def Zhr:List V→Zf→Zr→Name→Option Ent
 | [.c (.d (.int .i64 a))],[],[],_=>some ⟨True,vB (tuX a),[],[]⟩
 | _,_,_,_=>none
def ZlK:=And.intro (@Zhr.eq_1) (@Zhr.eq_1)
theorem ZlL:Snd Tryz.prog 217 Zhr:=by
 intro vs b k n e h hn hp
 unfold Zhr at h
 split at h
 ·cases h; exact (Zye _).lift rfl _
 ·cases h
theorem ZqS (n d a p f:Int):Spec Tryz.prog 0 160 [.agg [.d (.int .i64 n),.d (.int .i64 d),.d (.int .i64 a),.d (.int .i64 p),.d (.int .i64 f)]] [] [] (vB (phV ⟨n,d,a,p,f⟩)) [] []:=by
 refine sE (md:=fun _=>0) (L:=[(216,ZbS),(217,Zhr),(215,ZfH)]) [(1,[0,0,0,0,0,35184372088647,0,0,0,0,0,35184372076551,0,0,0,0,0,35184371302407,0,0,0,0,0,35184313368583,0,0,0,0,0,35180077121543,0,0,0,0,0,34909494181895,0,0,0,0,0,17592186044423,0])] 7 (Za Zcl (Za ZlL (Za Zhk Zb))) Tryz.func160 rfl rfl rfl ?_
 simp (maxSteps:=1000000) only [↓Zn,Ze,Zd,Zm,gSt,gS0,Ya,Yb,↓reduceIte,reduceCtorEq,Yc,Yd,Ye,Yf,Yg,Yj,Yk,Yl,Ym,Yn,Zck,ZlK,Zhj,Tryz.ntmps160,Tryz.results160,gTT]
 exact ⟨by kernel_rfl,rfl⟩
def ZbN:List V→Zf→Zr→Name→Option Ent
 | [.agg [.d (.int .i64 n),.d (.int .i64 d),.d (.int .i64 a),.d (.int .i64 p),.d (.int .i64 f)]],[],[],_=>some ⟨True,vB (phV ⟨n,d,a,p,f⟩),[],[]⟩
 | _,_,_,_=>none
def Zcg:=And.intro (@ZbN.eq_1) (@ZbN.eq_1)
theorem Zch:Snd Tryz.prog 160 ZbN:=by
 intro vs b k n e h hn hp
 unfold ZbN at h
 split at h
 ·cases h; exact (ZqS _ _ _ _ _).lift rfl _
 ·cases h
theorem ZnE (n d a p f:Int):Spec Tryz.prog 0 171 [.agg [.d (.int .i64 n),.d (.int .i64 d),.d (.int .i64 a),.d (.int .i64 p),.d (.int .i64 f)]] [] [] (vB (phV ⟨n,d,a,p,f⟩)) [] []:=by
 refine sE (md:=fun _=>0) (L:=[(226,ZdF),(227,ZdW)]) [(1,[0,0,0,0,0,1125899906842439,0,0,0,0,0,1125899906830343,0,0,0,0,0,1125899906056199,0,0,0,0,0,1125899848122375,0,0,0,0,0,1125895611875335,0,0,0,0,0,1125625028935687,0,0,0,0,0,1117103813820423,0,0,0,0,0,0])] 7 (Za ZmH (Za ZfK Zb)) Tryz.func171 rfl rfl rfl ?_
 simp (maxSteps:=1000000) only [↓Zn,Ze,Zd,Zm,gSt,gS0,Ya,Yb,↓reduceIte,reduceCtorEq,Yc,Yd,Ye,Yf,Yg,Yj,Yk,Yl,Ym,Yn,ZmG,ZaH,Tryz.ntmps171,Tryz.results171,gTT]
 refine ⟨by kernel_rfl,?_⟩
 simp only [phV,tuX,Bool.and_assoc]
def Zb2:List V→Zf→Zr→Name→Option Ent
 | [.agg [.d (.int .i64 n),.d (.int .i64 d),.d (.int .i64 a),.d (.int .i64 p),.d (.int .i64 f)]],[],[],_=>some ⟨True,vB (phV ⟨n,d,a,p,f⟩),[],[]⟩
 | _,_,_,_=>none
def ZbQ:=And.intro (@Zb2.eq_1) (@Zb2.eq_1)
theorem ZdX:Snd Tryz.prog 171 Zb2:=by
 intro vs b k n e h hn hp
 unfold Zb2 at h
 split at h
 ·cases h; exact (ZnE _ _ _ _ _).lift rfl _
 ·cases h
theorem Ztz (n d a p f:Int) (i:Int):Spec Tryz.prog 0 158 [.agg [.d (.int .i64 n),.d (.int .i64 d),.d (.int .i64 a),.d (.int .i64 p),.d (.int .i64 f)],vI .i64 i] [] [] (vI .i64 (phC ⟨n,d,a,p,f⟩ i)) [] []:=by
 refine sE (md:=fun _=>0) (L:=[(160,ZbN)]) [] 567 (Za Zch Zb) Tryz.func158 rfl rfl rfl ?_
 simp (maxSteps:=1000000) only [↓Zn,Ze,Zd,Zm,gSt,gS0,Ya,Yb,↓reduceIte,reduceCtorEq,Yc,Yd,Ye,Yf,Yg,Yj,Yk,Yl,Ym,Yn,Zcg,Tryz.ntmps158,Tryz.results158,gTT]
 refine ⟨fun h=>by unfold phC; rw [if_pos h],fun h=>?_⟩
 have hv:phV ⟨n,d,a,p,f⟩=true:=by simpa using h
 exact ⟨fun h2=>by unfold phC; rw [if_neg (by rw [hv]; decide),if_pos h2],fun h2=>by unfold phC; rw [if_neg (by rw [hv]; decide),if_neg (by rw [h2]; decide)]⟩
def Zfg:List V→Zf→Zr→Name→Option Ent
 | [.agg [.d (.int .i64 n),.d (.int .i64 d),.d (.int .i64 a),.d (.int .i64 p),.d (.int .i64 f)],.c (.d (.int .i64 i))],[],[],_=>some ⟨True,vI .i64 (phC ⟨n,d,a,p,f⟩ i),[],[]⟩
 | _,_,_,_=>none
def Zjr:=And.intro (@Zfg.eq_1) (@Zfg.eq_1)
theorem Zjs:Snd Tryz.prog 158 Zfg:=by
 intro vs b k n e h hn hp
 unfold Zfg at h
 split at h
 ·cases h; exact (Ztz _ _ _ _ _ _).lift rfl _
 ·cases h
theorem ZEb (n d a p f:Int) (i:Int):Spec Tryz.prog 0 219 [.agg [.d (.int .i64 n),.d (.int .i64 d),.d (.int .i64 a),.d (.int .i64 p),.d (.int .i64 f)],vI .i64 i] [] [] (.tup [.int .i64 (atP ⟨n,d,a,p,f⟩ i),.int .i64 (atF ⟨n,d,a,p,f⟩ i),.int .i64 (phC ⟨n,d,a,p,f⟩ i)]) [] []:=by
 refine sE (md:=fun _=>0) (L:=[(158,Zfg),(214,Zhd),(215,ZfH)]) [(5,[0,0,0,0,0,529015287,0,0,0,0,0,268444151,0,0])] 8695 (Za Zjs (Za Zlp (Za Zhk Zb))) Tryz.func219 rfl rfl rfl ?_
 simp (maxSteps:=1000000) only [↓Zn,Ze,Zd,Zm,gSt,gS0,Ya,Yb,↓reduceIte,reduceCtorEq,Yc,Yd,Ye,Yf,Yg,Yj,Yk,Yl,Ym,Yn,Zjr,Zlo,Zhj,Tryz.ntmps219,Tryz.results219,gTT]
 refine ⟨fun h=>?_,fun h=>?_⟩
 ·have hne:phC ⟨n,d,a,p,f⟩ i≠0:=by simpa using h
  simp [atP,atF,hne]
 have he:phC ⟨n,d,a,p,f⟩ i=0:=by simpa using h
 obtain ⟨hv,hi⟩:=Zp9 he
 have hp:=Zdf hv
 have hq:=Zbk hv hi
 have hb:=ZbG hv
 obtain ⟨e1,e2⟩:=Zvi hv hi
 refine ⟨⟨hv,hi⟩,by kernel_rfl,by omega,by omega,?_⟩
 rw [e1,e2]
 have e3:ahd ⟨n,d,a,p,f⟩ i / prt ⟨n,d,a,p,f⟩=qAt ⟨n,d,a,p,f⟩ i:=rfl
 have e4:ahd ⟨n,d,a,p,f⟩ i % prt ⟨n,d,a,p,f⟩=fAt ⟨n,d,a,p,f⟩ i:=rfl
 rw [e3,e4,IntWalk.i64_in (qAt ⟨n,d,a,p,f⟩ i) (by omega),IntWalk.i64_in (p+qAt ⟨n,d,a,p,f⟩ i) (by have:=hb.2.2.2.1; simp only at this; omega)]
 simp [atP,atF,he]
def Zr4:List V→Zf→Zr→Name→Option Ent
 | [.agg [.d (.int .i64 n),.d (.int .i64 d),.d (.int .i64 a),.d (.int .i64 p),.d (.int .i64 f)],.c (.d (.int .i64 i))],[],[],_=>some ⟨True,.tup [.int .i64 (atP ⟨n,d,a,p,f⟩ i),.int .i64 (atF ⟨n,d,a,p,f⟩ i),.int .i64 (phC ⟨n,d,a,p,f⟩ i)],[],[]⟩
 | _,_,_,_=>none
def ZbM:=And.intro (@Zr4.eq_1) (@Zr4.eq_1)
theorem ZmB:Snd Tryz.prog 219 Zr4:=by
 intro vs b k n e h hn hp
 unfold Zr4 at h
 split at h
 ·cases h; exact (ZEb _ _ _ _ _ _).lift rfl _
 ·cases h
theorem ZCb (n d a p f:Int) (i:Int):Spec Tryz.prog 0 228 [.agg [.d (.int .i64 n),.d (.int .i64 d),.d (.int .i64 a),.d (.int .i64 p),.d (.int .i64 f)],vI .i64 i] [] [] (.tup [.int .i64 (atP ⟨n,d,a,p,f⟩ i),.int .i64 (atF ⟨n,d,a,p,f⟩ i),.int .i64 (phC ⟨n,d,a,p,f⟩ i)]) [] []:=by
 refine sE (md:=fun _=>0) (L:=[(171,Zb2),(227,ZdW),(252,ZjM)]) [(6,[0,0,0,0,0,33856488695,0,0,0,0,0,17179935991,0,0])] 66807 (Za ZdX (Za ZfK (Za Zww Zb))) Tryz.func228 rfl rfl rfl ?_
 simp (maxSteps:=1000000) only [↓Zn,Ze,Zd,Zm,gSt,gS0,Ya,Yb,↓reduceIte,reduceCtorEq,Yc,Yd,Ye,Yf,Yg,Yj,Yk,Yl,Ym,Yn,ZbQ,ZaH,Zwv,Tryz.ntmps228,Tryz.results228,gTT]
 refine ⟨fun h=>?_,fun h=>⟨fun h2=>?_,fun h2=>?_⟩⟩
 ·have he:phC ⟨n,d,a,p,f⟩ i=1:=by unfold phC; rw [if_pos h]
  simp [atP,atF,he]
 ·have hv:phV ⟨n,d,a,p,f⟩=true:=by simpa using h
  have he:phC ⟨n,d,a,p,f⟩ i=2:=by unfold phC; rw [if_neg (by rw [hv]; decide),if_pos h2]
  simp [atP,atF,he]
 have hv:phV ⟨n,d,a,p,f⟩=true:=by simpa using h
 have he:phC ⟨n,d,a,p,f⟩ i=0:=by unfold phC; rw [if_neg (by rw [hv]; decide),if_neg (by rw [h2]; decide)]
 obtain ⟨_,hi⟩:=Zp9 he
 have hp:=Zdf hv
 have hq:=Zbk hv hi
 have hb:=ZbG hv
 obtain ⟨e1,e2⟩:=Zvi hv hi
 refine ⟨by kernel_rfl,by kernel_rfl,by omega,by omega,?_⟩
 have e0:=ZFF hv hi
 simp only at e0
 rw [e0,e1,e2]
 have e3:ahd ⟨n,d,a,p,f⟩ i / prt ⟨n,d,a,p,f⟩=qAt ⟨n,d,a,p,f⟩ i:=rfl
 have e4:ahd ⟨n,d,a,p,f⟩ i % prt ⟨n,d,a,p,f⟩=fAt ⟨n,d,a,p,f⟩ i:=rfl
 rw [e3,e4,IntWalk.i64_in (qAt ⟨n,d,a,p,f⟩ i) (by omega),IntWalk.i64_in (p+qAt ⟨n,d,a,p,f⟩ i) (by have:=hb.2.2.2.1; simp only at this; omega)]
 simp [atP,atF,he]
def ZjG:List V→Zf→Zr→Name→Option Ent
 | [.agg [.d (.int .i64 n),.d (.int .i64 d),.d (.int .i64 a),.d (.int .i64 p),.d (.int .i64 f)],.c (.d (.int .i64 i))],[],[],_=>some ⟨True,.tup [.int .i64 (atP ⟨n,d,a,p,f⟩ i),.int .i64 (atF ⟨n,d,a,p,f⟩ i),.int .i64 (phC ⟨n,d,a,p,f⟩ i)],[],[]⟩
 | _,_,_,_=>none
def ZbP:=And.intro (@ZjG.eq_1) (@ZjG.eq_1)
theorem ZjH:Snd Tryz.prog 228 ZjG:=by
 intro vs b k n e h hn hp
 unfold ZjG at h
 split at h
 ·cases h; exact (ZCb _ _ _ _ _ _).lift rfl _
 ·cases h
theorem ZB1 (n d a p f:Int) (i:Int):Spec Tryz.prog 0 218 [.agg [.d (.int .i64 n),.d (.int .i64 d),.d (.int .i64 a),.d (.int .i64 p),.d (.int .i64 f)],vI .i64 i] [] [] (.tup [.agg [.int .i64 (adP ⟨n,d,a,p,f⟩ i).n,.int .i64 (adP ⟨n,d,a,p,f⟩ i).d,.int .i64 (adP ⟨n,d,a,p,f⟩ i).a,.int .i64 (adP ⟨n,d,a,p,f⟩ i).p,.int .i64 (adP ⟨n,d,a,p,f⟩ i).f],.int .i64 (adE ⟨n,d,a,p,f⟩ i)]) [] []:=by
 refine sE (md:=fun _=>0) (L:=[(219,Zr4)]) [] 10486263 (Za ZmB Zb) Tryz.func218 rfl rfl rfl ?_
 simp (maxSteps:=1000000) only [↓Zn,Ze,Zd,Zm,gSt,gS0,Ya,Yb,↓reduceIte,reduceCtorEq,Yc,Yd,Ye,Yf,Yg,Yj,Yk,Yl,Ym,Yn,ZbM,Tryz.ntmps218,Tryz.results218,gTT]
 refine ⟨fun h=>⟨fun _=>?_,fun h2=>absurd h2 (by decide)⟩,fun h=>⟨fun h2=>?_,fun h2=>?_⟩⟩
 ·simp only [Bool.and_eq_true,beq_iff_eq,decide_eq_true_eq] at h
  have e:adE ⟨n,d,a,p,f⟩ i=2:=by unfold adE; rw [if_pos h.1,if_pos h.2]
  simp [adP,e]
 ·have hne:phC ⟨n,d,a,p,f⟩ i≠0:=by simpa using h2
  have e:adE ⟨n,d,a,p,f⟩ i=phC ⟨n,d,a,p,f⟩ i:=by unfold adE; rw [if_neg hne]
  simp [adP,e,hne]
 ·have he:phC ⟨n,d,a,p,f⟩ i=0:=by simpa using h2
  rw [he] at h
  have e:adE ⟨n,d,a,p,f⟩ i=0:=by unfold adE; rw [if_pos he,if_neg (by simpa using h)]
  simp [adP,e]
def ZlA:List V→Zf→Zr→Name→Option Ent
 | [.agg [.d (.int .i64 n),.d (.int .i64 d),.d (.int .i64 a),.d (.int .i64 p),.d (.int .i64 f)],.c (.d (.int .i64 i))],[],[],_=>some ⟨True,.tup [.agg [.int .i64 (adP ⟨n,d,a,p,f⟩ i).n,.int .i64 (adP ⟨n,d,a,p,f⟩ i).d,.int .i64 (adP ⟨n,d,a,p,f⟩ i).a,.int .i64 (adP ⟨n,d,a,p,f⟩ i).p,.int .i64 (adP ⟨n,d,a,p,f⟩ i).f],.int .i64 (adE ⟨n,d,a,p,f⟩ i)],[],[]⟩
 | _,_,_,_=>none
def Zbg:=And.intro (@ZlA.eq_1) (@ZlA.eq_1)
theorem Zot:Snd Tryz.prog 218 ZlA:=by
 intro vs b k n e h hn hp
 unfold ZlA at h
 split at h
 ·cases h; exact (ZB1 _ _ _ _ _ _).lift rfl _
 ·cases h
theorem Zx1 (n d a p f:Int) (i:Int):Spec Tryz.prog 0 229 [.agg [.d (.int .i64 n),.d (.int .i64 d),.d (.int .i64 a),.d (.int .i64 p),.d (.int .i64 f)],vI .i64 i] [] [] (.tup [.agg [.int .i64 (adP ⟨n,d,a,p,f⟩ i).n,.int .i64 (adP ⟨n,d,a,p,f⟩ i).d,.int .i64 (adP ⟨n,d,a,p,f⟩ i).a,.int .i64 (adP ⟨n,d,a,p,f⟩ i).p,.int .i64 (adP ⟨n,d,a,p,f⟩ i).f],.int .i64 (adE ⟨n,d,a,p,f⟩ i)]) [] []:=by
 refine sE (md:=fun _=>0) (L:=[(228,ZjG)]) [] 2228727 (Za ZjH Zb) Tryz.func229 rfl rfl rfl ?_
 simp (maxSteps:=1000000) only [↓Zn,Ze,Zd,Zm,gSt,gS0,Ya,Yb,↓reduceIte,reduceCtorEq,Yc,Yd,Ye,Yf,Yg,Yj,Yk,Yl,Ym,Yn,ZbP,Tryz.ntmps229,Tryz.results229,gTT]
 refine ⟨fun h=>?_,fun h=>⟨fun h2=>?_,fun h2=>?_⟩⟩
 ·have hne:phC ⟨n,d,a,p,f⟩ i≠0:=by simpa using h
  have e:adE ⟨n,d,a,p,f⟩ i=phC ⟨n,d,a,p,f⟩ i:=by unfold adE; rw [if_neg hne]
  simp [adP,e,hne]
 ·have he:phC ⟨n,d,a,p,f⟩ i=0:=by simpa using h
  have e:adE ⟨n,d,a,p,f⟩ i=2:=by unfold adE; rw [if_pos he,if_pos (by simpa using h2)]
  simp [adP,e]
 ·have he:phC ⟨n,d,a,p,f⟩ i=0:=by simpa using h
  have e:adE ⟨n,d,a,p,f⟩ i=0:=by unfold adE; rw [if_pos he,if_neg (by simpa using h2)]
  simp [adP,e]
def ZjF:List V→Zf→Zr→Name→Option Ent
 | [.agg [.d (.int .i64 n),.d (.int .i64 d),.d (.int .i64 a),.d (.int .i64 p),.d (.int .i64 f)],.c (.d (.int .i64 i))],[],[],_=>some ⟨True,.tup [.agg [.int .i64 (adP ⟨n,d,a,p,f⟩ i).n,.int .i64 (adP ⟨n,d,a,p,f⟩ i).d,.int .i64 (adP ⟨n,d,a,p,f⟩ i).a,.int .i64 (adP ⟨n,d,a,p,f⟩ i).p,.int .i64 (adP ⟨n,d,a,p,f⟩ i).f],.int .i64 (adE ⟨n,d,a,p,f⟩ i)],[],[]⟩
 | _,_,_,_=>none
def Zwr:=And.intro (@ZjF.eq_1) (@ZjF.eq_1)
theorem Zws:Snd Tryz.prog 229 ZjF:=by
 intro vs b k n e h hn hp
 unfold ZjF at h
 split at h
 ·cases h; exact (Zx1 _ _ _ _ _ _).lift rfl _
 ·cases h
end Go.Vam
end
section
set_option linter.unusedVariables false
set_option linter.defProp false
set_option linter.unusedSimpArgs false
set_option maxRecDepth 40000
set_option maxHeartbeats 4000000
namespace Go.Vam
open Go.Proofs
open Nat renaming reduceShiftRight→Ya,reduceMod→Yb,reduceEqDiff→Yc,reduceLT→Yd,reduceLeDiff→Ye,reduceAdd→Yf,reduceMul→Yg
open Int renaming reduceLE→Yj,reduceLT→Yk,reduceNeg→Yl,reduceAdd→Ym,reduceToNat→Yn
theorem ZF1 {i j:Nat} (h:i+j≤1000000):IntKind.i64.wrap ((IntKind.u64.wrap (IntKind.i64.wrap ((i:Int)+(j:Int)))).fdiv (2 ^ Nat.min 1 IntKind.u64.bits))=(((i+j) / 2:Nat):Int):=by
 have e1:(2:Int) ^ Nat.min 1 IntKind.u64.bits=2:=rfl
 have e2:((i:Int)+(j:Int))=((i+j:Nat):Int):=by omega
 have e3:IntKind.u64.wrap ((i+j:Nat):Int)=((i+j:Nat):Int):=by unfold IntKind.wrap; simp [IntKind.signed,IntKind.bits]; omega
 rw [e2,IntWalk.i64_in ((i+j:Nat):Int) (by omega),e3,e1,Int.fdiv_eq_ediv_of_nonneg _ (by decide),IntWalk.i64_in (((i+j:Nat):Int) / 2) (by omega)]
 omega
theorem ZBX (n d a p f:Int) (i:Int) (hv:phV ⟨n,d,a,p,f⟩=true) (hi:0≤i∧i≤65536):Spec Tryz.prog 0 159 [.agg [.d (.int .i64 n),.d (.int .i64 d),.d (.int .i64 a),.d (.int .i64 p),.d (.int .i64 f)],vI .i64 i] [] [] (vI .i64 (ned ⟨n,d,a,p,f⟩ i)) [] []:=by
 refine sE (md:=fun _=>0) (L:=[(214,Zhd),(215,ZfH)]) [(3,[0,0,0,0,0,4191319,0,0,0,0,0,4079703,0,0,0,0])] 87 (Za Zlp (Za Zhk Zb)) Tryz.func159 rfl rfl rfl ?_
 simp (maxSteps:=1000000) only [↓Zn,Ze,Zd,Zm,gSt,gS0,Ya,Yb,↓reduceIte,reduceCtorEq,Yc,Yd,Ye,Yf,Yg,Yj,Yk,Yl,Ym,Yn,Zlo,Zhj,Tryz.ntmps159,Tryz.results159,gTT]
 refine ⟨fun h=>?_,fun h=>?_⟩
 ·have:i=0:=by simpa using h
  subst this
  rfl
 have hne:i≠0:=by simpa using h
 have hp:=Zdf hv
 have hq1:=Zbk hv (n:=i - 1) (by omega)
 have hq2:=Zbk hv hi
 refine ⟨by kernel_rfl,?_⟩
 rw [IntWalk.i64_in (i - 1) (by omega),(Zvi hv (n:=i - 1) (by omega)).1,(Zvi hv hi).1]
 have e1:ahd ⟨n,d,a,p,f⟩ (i - 1) / prt ⟨n,d,a,p,f⟩=qAt ⟨n,d,a,p,f⟩ (i - 1):=rfl
 have e2:ahd ⟨n,d,a,p,f⟩ i / prt ⟨n,d,a,p,f⟩=qAt ⟨n,d,a,p,f⟩ i:=rfl
 rw [e1,e2,IntWalk.i64_in (qAt ⟨n,d,a,p,f⟩ (i - 1)) (by omega),IntWalk.i64_in (qAt ⟨n,d,a,p,f⟩ i) (by omega),IntWalk.i64_in (qAt ⟨n,d,a,p,f⟩ (i - 1)+2) (by omega)]
 refine ⟨⟨hv,by omega⟩,by omega,⟨hv,hi⟩,by omega,?_⟩
 unfold ned
 rw [if_neg hne]
 split <;> omega
def Zlw:List V→Zf→Zr→Name→Option Ent
 | [.agg [.d (.int .i64 n),.d (.int .i64 d),.d (.int .i64 a),.d (.int .i64 p),.d (.int .i64 f)],.c (.d (.int .i64 i))],[],[],_=>some ⟨phV ⟨n,d,a,p,f⟩=true∧(0≤i∧i≤65536),vI .i64 (ned ⟨n,d,a,p,f⟩ i),[],[]⟩
 | _,_,_,_=>none
def Zop:=And.intro (@Zlw.eq_1) (@Zlw.eq_1)
theorem Zoq:Snd Tryz.prog 159 Zlw:=by
 intro vs b k n e h hn hp
 unfold Zlw at h
 split at h
 ·cases h; obtain ⟨hp0,hp1⟩:=hp; exact (ZBX _ _ _ _ _ _ hp0 hp1).lift rfl _
 ·cases h
theorem ZxP (n d a p f:Int) (i:Int):Spec Tryz.prog 0 90 [.agg [.d (.int .i64 n),.d (.int .i64 d),.d (.int .i64 a),.d (.int .i64 p),.d (.int .i64 f)],vI .i64 i] [] [] (.tup [.int .i64 (neE ⟨n,d,a,p,f⟩ i),.int .i64 (phC ⟨n,d,a,p,f⟩ i)]) [] []:=by
 refine sE (md:=fun _=>0) (L:=[(158,Zfg),(159,Zlw)]) [] 2167 (Za Zjs (Za Zoq Zb)) Tryz.func90 rfl rfl rfl ?_
 simp (maxSteps:=1000000) only [↓Zn,Ze,Zd,Zm,gSt,gS0,Ya,Yb,↓reduceIte,reduceCtorEq,Yc,Yd,Ye,Yf,Yg,Yj,Yk,Yl,Ym,Yn,Zjr,Zop,Tryz.ntmps90,Tryz.results90,gTT]
 refine ⟨fun h=>?_,fun h=>?_⟩
 ·have hne:phC ⟨n,d,a,p,f⟩ i≠0:=by simpa using h
  simp [neE,hne]
 ·have he:phC ⟨n,d,a,p,f⟩ i=0:=by simpa using h
  refine ⟨Zp9 he,?_⟩
  simp [neE,he]
def ZfI:List V→Zf→Zr→Name→Option Ent
 | [.agg [.d (.int .i64 n),.d (.int .i64 d),.d (.int .i64 a),.d (.int .i64 p),.d (.int .i64 f)],.c (.d (.int .i64 i))],[],[],_=>some ⟨True,.tup [.int .i64 (neE ⟨n,d,a,p,f⟩ i),.int .i64 (phC ⟨n,d,a,p,f⟩ i)],[],[]⟩
 | _,_,_,_=>none
def Zhl:=And.intro (@ZfI.eq_1) (@ZfI.eq_1)
theorem Zhm:Snd Tryz.prog 90 ZfI:=by
 intro vs b k n e h hn hp
 unfold ZfI at h
 split at h
 ·cases h; exact (ZxP _ _ _ _ _ _).lift rfl _
 ·cases h
theorem ZtG (n d a p f:Int) (i:Int):Spec Tryz.prog 0 173 [.agg [.d (.int .i64 n),.d (.int .i64 d),.d (.int .i64 a),.d (.int .i64 p),.d (.int .i64 f)],vI .i64 i] [] [] (.tup [.int .i64 (neE ⟨n,d,a,p,f⟩ i),.int .i64 (phC ⟨n,d,a,p,f⟩ i)]) [] []:=by
 refine sE (md:=fun _=>0) (L:=[(228,ZjG)]) [] 9438071 (Za ZjH Zb) Tryz.func173 rfl rfl rfl ?_
 simp (maxSteps:=1000000) only [↓Zn,Ze,Zd,Zm,gSt,gS0,Ya,Yb,↓reduceIte,reduceCtorEq,Yc,Yd,Ye,Yf,Yg,Yj,Yk,Yl,Ym,Yn,ZbP,Tryz.ntmps173,Tryz.results173,gTT]
 refine ⟨fun h=>?_,fun h=>⟨fun h2=>?_,fun h2=>?_⟩⟩
 ·have hne:phC ⟨n,d,a,p,f⟩ i≠0:=by simpa using h
  simp [neE,hne]
 ·have he:phC ⟨n,d,a,p,f⟩ i=0:=by simpa using h
  have:i=0:=by simpa using h2
  subst this
  simp [neE,he,ned]
 have he:phC ⟨n,d,a,p,f⟩ i=0:=by simpa using h
 have hne:i≠0:=by simpa using h2
 obtain ⟨hv,hi⟩:=Zp9 he
 have hp:=(ZbG hv).2.2.2.1
 simp only at hp
 have hq1:=Zbk hv (n:=i - 1) (by omega)
 have hq2:=Zbk hv hi
 have a1:atP ⟨n,d,a,p,f⟩ (i - 1)=p+qAt ⟨n,d,a,p,f⟩ (i - 1):=by unfold atP; rw [if_pos (ZfA hv (by omega))]
 have a2:atP ⟨n,d,a,p,f⟩ i=p+qAt ⟨n,d,a,p,f⟩ i:=by unfold atP; rw [if_pos he]
 rw [IntWalk.i64_in (i - 1) (by omega),a1,a2,IntWalk.i64_in (p+qAt ⟨n,d,a,p,f⟩ (i - 1)+2) (by omega)]
 have e:neE ⟨n,d,a,p,f⟩ i=max (qAt ⟨n,d,a,p,f⟩ (i - 1)+2) (qAt ⟨n,d,a,p,f⟩ i):=by unfold neE ned; rw [if_pos he,if_neg hne]
 rw [e,he]
 congr 2
 split <;> rw [IntWalk.i64_in _ (by omega)] <;> congr 1 <;> omega
def Zfi:List V→Zf→Zr→Name→Option Ent
 | [.agg [.d (.int .i64 n),.d (.int .i64 d),.d (.int .i64 a),.d (.int .i64 p),.d (.int .i64 f)],.c (.d (.int .i64 i))],[],[],_=>some ⟨True,.tup [.int .i64 (neE ⟨n,d,a,p,f⟩ i),.int .i64 (phC ⟨n,d,a,p,f⟩ i)],[],[]⟩
 | _,_,_,_=>none
def ZdY:=And.intro (@Zfi.eq_1) (@Zfi.eq_1)
theorem ZjI:Snd Tryz.prog 173 Zfi:=by
 intro vs b k n e h hn hp
 unfold Zfi at h
 split at h
 ·cases h; exact (ZtG _ _ _ _ _ _).lift rfl _
 ·cases h
theorem ZD9 (n d a p f:Int) (k m:Int) (hv:phV ⟨n,d,a,p,f⟩=true) (hi:0≤k∧k < 65536):Spec Tryz.prog 0 162 [vI .i64 k,.c (.lp ⟨0,0⟩ 0),.c (.lp ⟨0,1⟩ 0)] [(⟨0,0⟩,[.d (.int .i64 n),.d (.int .i64 d),.d (.int .i64 a),.d (.int .i64 p),.d (.int .i64 f)]),(⟨0,1⟩,[.d (.int .i64 m)])] [] (vB (decide (m < ned ⟨n,d,a,p,f⟩ (k+1)))) [(⟨0,0⟩,[.d (.int .i64 n),.d (.int .i64 d),.d (.int .i64 a),.d (.int .i64 p),.d (.int .i64 f)]),(⟨0,1⟩,[.d (.int .i64 m)])] []:=by
 refine spec_of_E (X:=⟨Tryz.prog,tt,Tryz.f162.ntmps,1,fun _=>0,(tab [(159,Zlw)])⟩) (M:=[]) (m:=23) rfl rfl ⟨Z7,ZI (Za Zoq Zb) _ rfl rfl⟩ Zs Tryz.func162 rfl (by decide) (by show (3:Nat)≤_; exact Nat.le_of_ble_eq_true rfl) ⟨by simp [V.has,C.has],by simp [C.has],by simp⟩ ?_
 simp (maxSteps:=1000000) only [↓Zn,Ze,Zd,Zm,gSt,gS0,Ya,Yb,↓reduceIte,reduceCtorEq,Yc,Yd,Ye,Yf,Yg,Yj,Yk,Yl,Ym,Yn,Zop,Tryz.ntmps162,Tryz.results162,gTT]
 rw [IntWalk.i64_in (k+1) (by omega)]
 exact ⟨by kernel_rfl,⟨hv,by omega⟩,rfl⟩
def ZyO:List V→Zf→Zr→Name→Option Ent
 | [.c (.d (.int .i64 k)),.c (.lp n0 0),.c (.lp n1 0)],[(m0,[.d (.int .i64 n),.d (.int .i64 d),.d (.int .i64 a),.d (.int .i64 p),.d (.int .i64 f)]),(m1,[.d (.int .i64 m)])],[],_=>some ⟨phV ⟨n,d,a,p,f⟩=true∧(0≤k∧k < 65536)∧n0.lv≤1∧n1.lv≤1∧m0=n0∧m1=n1∧n1≠n0,vB (decide (m < ned ⟨n,d,a,p,f⟩ (k+1))),[(n0,[.d (.int .i64 n),.d (.int .i64 d),.d (.int .i64 a),.d (.int .i64 p),.d (.int .i64 f)]),(n1,[.d (.int .i64 m)])],[]⟩
 | _,_,_,_=>none
def Zmz:=And.intro (@ZyO.eq_1) (@ZyO.eq_1)
theorem ZCV:Snd Tryz.prog 162 ZyO:=by
 intro vs b k n e h hn hp
 unfold ZyO at h
 split at h
 ·cases h; obtain ⟨hp0,hp1,hl0,hl1,rfl,rfl,hd10⟩:=hp; exact Spec.ren2 (ZD9 _ _ _ _ _ _ _ hp0 hp1) 0 1 (by simp [Za9,V.names,C.names,ZJ,ZK]) hl0 hl1 hd10
 ·cases h
theorem ZqU (n d a p f:Int) (w m:Int) (hw:w=65536) (hv:phV ⟨n,d,a,p,f⟩=true) (hm:0≤m):Spec Tryz.prog 0 161 [vI .i64 w,.c (.fn 162 [(⟨0,0⟩,0),(⟨0,1⟩,0)])] [(⟨0,0⟩,[.d (.int .i64 n),.d (.int .i64 d),.d (.int .i64 a),.d (.int .i64 p),.d (.int .i64 f)]),(⟨0,1⟩,[.d (.int .i64 m)])] [] (vI .i64 ((mkN ⟨n,d,a,p,f⟩ m:Nat):Int)) [(⟨0,0⟩,[.d (.int .i64 n),.d (.int .i64 d),.d (.int .i64 a),.d (.int .i64 p),.d (.int .i64 f)]),(⟨0,1⟩,[.d (.int .i64 m)])] []:=by
 refine spec_of_E (X:=⟨Tryz.prog,tt,Tryz.f161.ntmps,1,fun _=>0,(tab [(162,ZyO)])⟩) (M:=[]) (m:=2099443) rfl rfl ⟨Z7,ZI (Za ZCV Zb) _ rfl rfl⟩ Zs Tryz.func161 rfl (by decide) (by show (2:Nat)≤_; exact Nat.le_of_ble_eq_true rfl) ⟨by simp [V.has,C.has],by simp [C.has],by simp⟩ ?_
 simp (maxSteps:=1000000) only [↓Zn,Ze,Zd,Zm,gSt,gS0,Ya,Yb,↓reduceIte,reduceCtorEq,Yc,Yd,Ye,Yf,Yg,Yj,Yk,Yl,Ym,Yn,Zmz,Tryz.ntmps161,Tryz.results161,gTT]
 subst hw
 refine Zk (fun g:Nat×Nat=>⟨[(5,vI .i64 (g.1:Nat)),(6,vI .i64 (g.2:Nat))],[],[]⟩) (fun g=>g.1≤mkN ⟨n,d,a,p,f⟩ m∧mkN ⟨n,d,a,p,f⟩ m≤g.2∧g.2≤65536) (fun g=>g.2 - g.1) (fun g=>if decide (m < ned ⟨n,d,a,p,f⟩ (((g.1+g.2) / 2:Nat)+1))=true then (g.1,(g.1+g.2) / 2) else ((g.1+g.2) / 2+1,g.2)) (0,65536) ⟨Nat.zero_le _,ZE7 hv hm,Nat.le_refl _⟩ ?_ ?_
 ·simp (maxSteps:=1000000) only [↓Zn,Ze,Zd,Zm,gSt,gS0,Ya,Yb,↓reduceIte,reduceCtorEq,Yc,Yd,Ye,Yf,Yg,Yj,Yk,Yl,Ym,Yn,Zmz,Tryz.ntmps161,Tryz.results161,gTT]
  exact ⟨rfl,rfl⟩
 rintro ⟨i,j⟩ ⟨h1,h2,h3⟩
 replace h1:i≤mkN ⟨n,d,a,p,f⟩ m:=h1
 replace h2:mkN ⟨n,d,a,p,f⟩ m≤j:=h2
 replace h3:j≤65536:=h3
 simp (maxSteps:=1000000) only [↓Zn,Ze,Zd,Zm,gSt,gS0,Ya,Yb,↓reduceIte,reduceCtorEq,Yc,Yd,Ye,Yf,Yg,Yj,Yk,Yl,Ym,Yn,Zmz,Tryz.ntmps161,Tryz.results161,gTT]
 generalize hh:(i+j) / 2=h
 refine ⟨fun h4=>?_,fun h4=>?_⟩
 ·have hij:i < j:=by have:=of_decide_eq_true h4; omega
  have hk:=Zaz hv hm (k:=h+1) (by omega)
  rw [ZF1 (by omega),hh]
  rw [IntWalk.i64_in ((h:Int)+1) (by omega)]
  have e:((h+1:Nat):Int)=(h:Int)+1:=by omega
  rw [e] at hk
  refine ⟨⟨hv,by omega⟩,fun h5=>?_,fun h5=>?_⟩
  ·have h6:=of_decide_eq_false h5
   rw [if_neg (by rw [h5]; decide)]
   have:=hk.2 (by omega)
   exact ⟨⟨by show ((h+1:Nat):Int)=_; omega,rfl⟩,⟨this,h2,h3⟩,by show j - (h+1) < j - i; omega⟩
  ·have h5':decide (m < ned ⟨n,d,a,p,f⟩ ((h:Int)+1))=true:=by simpa using h5
   have h6:=of_decide_eq_true h5'
   rw [if_pos h5']
   have h7:¬ (h+1≤mkN ⟨n,d,a,p,f⟩ m):=fun h=>by have:=hk.1 h; omega
   exact ⟨⟨rfl,rfl⟩,⟨h1,by show mkN _ m≤h; omega,by show h≤65536; omega⟩,by show h - i < j - i; omega⟩
 ·have:i=j:=by have:=of_decide_eq_false h4; omega
  have:mkN ⟨n,d,a,p,f⟩ m=i:=by omega
  rw [this]
def ZeG:List V→Zf→Zr→Name→Option Ent
 | [.c (.d (.int .i64 w)),.c (.fn 162 [(n0,0),(n1,0)])],[(m0,[.d (.int .i64 n),.d (.int .i64 d),.d (.int .i64 a),.d (.int .i64 p),.d (.int .i64 f)]),(m1,[.d (.int .i64 m)])],[],_=>some ⟨w=65536∧phV ⟨n,d,a,p,f⟩=true∧0≤m∧n0.lv≤1∧n1.lv≤1∧m0=n0∧m1=n1∧n1≠n0,vI .i64 ((mkN ⟨n,d,a,p,f⟩ m:Nat):Int),[(n0,[.d (.int .i64 n),.d (.int .i64 d),.d (.int .i64 a),.d (.int .i64 p),.d (.int .i64 f)]),(n1,[.d (.int .i64 m)])],[]⟩
 | _,_,_,_=>none
def Zoy:=And.intro (@ZeG.eq_1) (@ZeG.eq_1)
theorem Zoz:Snd Tryz.prog 161 ZeG:=by
 intro vs b k n e h hn hp
 unfold ZeG at h
 split at h
 ·cases h; obtain ⟨hp0,hp1,hp2,hl0,hl1,rfl,rfl,hd10⟩:=hp; exact Spec.ren2 (ZqU _ _ _ _ _ _ _ hp0 hp1 hp2) 0 1 (by simp [Za9,V.names,C.names,ZJ,ZK]) hl0 hl1 hd10
 ·cases h
theorem ZxO (n d a p f:Int) (i:Int):Spec Tryz.prog 0 91 [.agg [.d (.int .i64 n),.d (.int .i64 d),.d (.int .i64 a),.d (.int .i64 p),.d (.int .i64 f)],vI .i64 i] [] [] (.tup [.int .i64 (maN ⟨n,d,a,p,f⟩ i),.int .i64 (maE ⟨n,d,a,p,f⟩ i)]) [] []:=by
 refine spec_of_E (X:=⟨Tryz.prog,tt,Tryz.f91.ntmps,1,fun _=>0,(tab [(160,ZbN),(161,ZeG)])⟩) (M:=[]) (m:=1151) rfl rfl ⟨Z7,ZI (Za Zch (Za Zoz Zb)) _ rfl rfl⟩ Zs Tryz.func91 rfl (by decide) (by show (2:Nat)≤_; exact Nat.le_of_ble_eq_true rfl) ⟨by simp [V.has,C.has],by simp [C.has],by simp⟩ ?_
 simp (maxSteps:=1000000) only [↓Zn,Ze,Zd,Zm,gSt,gS0,Ya,Yb,↓reduceIte,reduceCtorEq,Yc,Yd,Ye,Yf,Yg,Yj,Yk,Yl,Ym,Yn,Zcg,Zoy,Tryz.ntmps91,Tryz.results91,gTT]
 refine ⟨fun h=>?_,fun h=>⟨fun h2=>?_,fun h2=>?_⟩⟩
 ·have e:maE ⟨n,d,a,p,f⟩ i=1:=by unfold maE; rw [if_pos h]
  simp [maN,e]
 ·have hv:phV ⟨n,d,a,p,f⟩=true:=by simpa using h
  have e:maE ⟨n,d,a,p,f⟩ i=2:=by unfold maE; rw [if_neg (by rw [hv]; decide),if_pos h2]
  simp [maN,e]
 have hv:phV ⟨n,d,a,p,f⟩=true:=by simpa using h
 have e:maE ⟨n,d,a,p,f⟩ i=0:=by unfold maE; rw [if_neg (by rw [hv]; decide),if_neg (by rw [h2]; decide)]
 have h0:0≤i:=by simp only [Bool.or_eq_false_iff,decide_eq_false_iff_not] at h2; omega
 refine ⟨⟨hv,h0⟩,?_⟩
 simp [maN,e]
def ZdV:List V→Zf→Zr→Name→Option Ent
 | [.agg [.d (.int .i64 n),.d (.int .i64 d),.d (.int .i64 a),.d (.int .i64 p),.d (.int .i64 f)],.c (.d (.int .i64 i))],[],[],_=>some ⟨True,.tup [.int .i64 (maN ⟨n,d,a,p,f⟩ i),.int .i64 (maE ⟨n,d,a,p,f⟩ i)],[],[]⟩
 | _,_,_,_=>none
def Zdx:=And.intro (@ZdV.eq_1) (@ZdV.eq_1)
theorem Zdy:Snd Tryz.prog 91 ZdV:=by
 intro vs b k n e h hn hp
 unfold ZdV at h
 split at h
 ·cases h; exact (ZxO _ _ _ _ _ _).lift rfl _
 ·cases h
theorem ZtF (n d a p f:Int) (i:Int):Spec Tryz.prog 0 99 [.agg [.d (.int .i64 n),.d (.int .i64 d),.d (.int .i64 a),.d (.int .i64 p),.d (.int .i64 f)],vI .i64 i] [] [] (.tup [.int .i64 (maN ⟨n,d,a,p,f⟩ i),.int .i64 (maE ⟨n,d,a,p,f⟩ i)]) [] []:=by
 refine spec_of_E (X:=⟨Tryz.prog,tt,Tryz.f99.ntmps,1,fun _=>0,(tab [(171,Zb2),(173,Zfi)])⟩) (M:=[]) (m:=68724204535) rfl rfl ⟨Z7,ZI (Za ZdX (Za ZjI Zb)) _ rfl rfl⟩ Zs Tryz.func99 rfl (by decide) (by show (2:Nat)≤_; exact Nat.le_of_ble_eq_true rfl) ⟨by simp [V.has,C.has],by simp [C.has],by simp⟩ ?_
 simp (maxSteps:=1000000) only [↓Zn,Ze,Zd,Zm,gSt,gS0,Ya,Yb,↓reduceIte,reduceCtorEq,Yc,Yd,Ye,Yf,Yg,Yj,Yk,Yl,Ym,Yn,ZbQ,ZdY,Tryz.ntmps99,Tryz.results99,gTT]
 refine ⟨fun h=>?_,fun h=>⟨fun h2=>?_,fun h2=>?_⟩⟩
 ·have e:maE ⟨n,d,a,p,f⟩ i=1:=by unfold maE; rw [if_pos h]
  simp [maN,e]
 ·have hv:phV ⟨n,d,a,p,f⟩=true:=by simpa using h
  have e:maE ⟨n,d,a,p,f⟩ i=2:=by unfold maE; rw [if_neg (by rw [hv]; decide),if_pos h2]
  simp [maN,e]
 have hv:phV ⟨n,d,a,p,f⟩=true:=by simpa using h
 have e:maE ⟨n,d,a,p,f⟩ i=0:=by unfold maE; rw [if_neg (by rw [hv]; decide),if_neg (by rw [h2]; decide)]
 have h0:0≤i:=by simp only [Bool.or_eq_false_iff,decide_eq_false_iff_not] at h2; omega
 refine Zk (fun g:Nat×Nat=>⟨[(6,vI .i64 (g.1:Nat)),(7,vI .i64 (g.2:Nat))],[],[]⟩) (fun g=>g.1≤mkN ⟨n,d,a,p,f⟩ i∧mkN ⟨n,d,a,p,f⟩ i≤g.2∧g.2≤65536) (fun g=>g.2 - g.1) (fun g=>if decide (ned ⟨n,d,a,p,f⟩ (((g.1+g.2+1) / 2:Nat))≤i)=true then ((g.1+g.2+1) / 2,g.2) else (g.1,(g.1+g.2+1) / 2 - 1)) (0,65536) ⟨Nat.zero_le _,ZE7 hv h0,Nat.le_refl _⟩ ?_ ?_
 ·simp (maxSteps:=1000000) only [↓Zn,Ze,Zd,Zm,gSt,gS0,Ya,Yb,↓reduceIte,reduceCtorEq,Yc,Yd,Ye,Yf,Yg,Yj,Yk,Yl,Ym,Yn,ZbQ,ZdY,Tryz.ntmps99,Tryz.results99,gTT]
  exact ⟨rfl,rfl⟩
 rintro ⟨x,y⟩ ⟨h3,h4,h5⟩
 replace h3:x≤mkN ⟨n,d,a,p,f⟩ i:=h3
 replace h4:mkN ⟨n,d,a,p,f⟩ i≤y:=h4
 replace h5:y≤65536:=h5
 simp (maxSteps:=1000000) only [↓Zn,Ze,Zd,Zm,gSt,gS0,Ya,Yb,↓reduceIte,reduceCtorEq,Yc,Yd,Ye,Yf,Yg,Yj,Yk,Yl,Ym,Yn,ZbQ,ZdY,Tryz.ntmps99,Tryz.results99,gTT]
 generalize hm:(x+y+1) / 2=m
 refine ⟨fun h6=>⟨by decide,?_⟩,fun h6=>?_⟩
 ·have hxy:x < y:=by have:=of_decide_eq_true h6; omega
  have hk:=Zaz hv h0 (k:=m) (by omega)
  have w1:IntKind.i64.wrap ((IntKind.i64.wrap (IntKind.i64.wrap ((x:Int)+(y:Int))+1)).tdiv 2)=(m:Int):=by
   rw [IntWalk.i64_in ((x:Int)+(y:Int)) (by omega),IntWalk.i64_in ((x:Int)+(y:Int)+1) (by omega),Int.tdiv_eq_ediv_of_nonneg (by omega),IntWalk.i64_in (((x:Int)+(y:Int)+1) / 2) (by omega)]
   omega
  have hn:neE ⟨n,d,a,p,f⟩ (m:Int)=ned ⟨n,d,a,p,f⟩ (m:Int):=by unfold neE; rw [if_pos (ZfA hv (by omega))]
  rw [w1,hn,IntWalk.i64_in ((m:Int) - 1) (by omega)]
  refine ⟨fun h7=>?_,fun h7=>?_⟩
  ·have h8:=of_decide_eq_true h7
   rw [if_pos h7]
   exact ⟨⟨rfl,rfl⟩,⟨hk.2 h8,h4,h5⟩,by show y - m < y - x; omega⟩
  ·have h8:=of_decide_eq_false h7
   rw [if_neg (by rw [h7]; decide)]
   have h9:¬ m≤mkN ⟨n,d,a,p,f⟩ i:=fun h=>h8 (hk.1 h)
   exact ⟨⟨rfl,by show ((m - 1:Nat):Int)=_; omega⟩,⟨h3,by show mkN _ i≤m - 1; omega,by show m - 1≤65536; omega⟩,by show m - 1 - x < y - x; omega⟩
 ·have:x=y:=by have:=of_decide_eq_false h6; omega
  have:mkN ⟨n,d,a,p,f⟩ i=x:=by omega
  simp [maN,e,this]
def ZgA:List V→Zf→Zr→Name→Option Ent
 | [.agg [.d (.int .i64 n),.d (.int .i64 d),.d (.int .i64 a),.d (.int .i64 p),.d (.int .i64 f)],.c (.d (.int .i64 i))],[],[],_=>some ⟨True,.tup [.int .i64 (maN ⟨n,d,a,p,f⟩ i),.int .i64 (maE ⟨n,d,a,p,f⟩ i)],[],[]⟩
 | _,_,_,_=>none
def Zsa:=And.intro (@ZgA.eq_1) (@ZgA.eq_1)
theorem Zsb:Snd Tryz.prog 99 ZgA:=by
 intro vs b k n e h hn hp
 unfold ZgA at h
 split at h
 ·cases h; exact (ZtF _ _ _ _ _ _).lift rfl _
 ·cases h
end Go.Vam
end
