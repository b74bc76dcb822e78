/- A part of the proof. Conditions: none. -/
import Derived.Test.YtmpbpijnbmpbhaaGreatSWc
section
set_option linter.unusedVariables false
set_option linter.defProp false
set_option linter.unusedSimpArgs false
set_option maxRecDepth 40000
set_option maxHeartbeats 4000000
namespace Go.Vam
open Go.Proofs
open Nat renaming reduceShiftRight→Ya,reduceMod→Yb,reduceEqDiff→Yc,reduceLT→Yd,reduceLeDiff→Ye,reduceAdd→Yf,reduceMul→Yg
open Int renaming reduceLE→Yj,reduceLT→Yk,reduceNeg→Yl,reduceAdd→Ym,reduceToNat→Yn
def btw (a b f P:Int):Int:=(a*(P - f)+b*f+P / 2) / P
theorem ZEE {x P:Int} (hP:0 < P):(if x.tmod P < 0 then x.tdiv P - 1 else x.tdiv P)=x / P:=by
 have h1:=Int.mul_tdiv_add_tmod x P
 have h2:=Int.lt_tmod_of_pos x hP
 have h3:=Int.tmod_lt_of_pos x hP
 have key:∀ q r:Int,P*q+r=x→0≤r→r < P→q=x / P:=fun q r h ha hb=>by
  rw [← h,Int.mul_add_ediv_left _ _ (by omega),Int.ediv_eq_zero_of_lt ha hb,Int.add_zero]
 split
 ·refine key _ (x.tmod P+P) ?_ (by omega) (by omega)
  rw [Int.mul_sub]; omega
 ·exact key _ (x.tmod P) h1 (by omega) h3
theorem ZGf {a b f P M:Int} (hP:0 < P) (hf:0≤f∧f < P) (ha:a≤M) (hb:b≤M):btw a b f P≤M:=by
 have h1:=Int.mul_le_mul_of_nonneg_right ha (show 0≤P - f by omega)
 have h2:=Int.mul_le_mul_of_nonneg_right hb hf.1
 have h3:M*(P - f)+M*f=M*P:=by rw [← Int.mul_add]; congr 1; omega
 unfold btw
 have h4:a*(P - f)+b*f+P / 2 < (M+1)*P:=by
  have:(M+1)*P=M*P+P:=by rw [Int.add_mul,Int.one_mul]
  omega
 have:=Int.ediv_lt_of_lt_mul hP h4
 omega
theorem ZGe {a b f P m:Int} (hP:0 < P) (hf:0≤f∧f < P) (ha:m≤a) (hb:m≤b):m≤btw a b f P:=by
 have h1:=Int.mul_le_mul_of_nonneg_right ha (show 0≤P - f by omega)
 have h2:=Int.mul_le_mul_of_nonneg_right hb hf.1
 have h3:m*(P - f)+m*f=m*P:=by rw [← Int.mul_add]; congr 1; omega
 unfold btw
 exact Int.le_ediv_of_mul_le hP (by omega)
theorem ZDx {a b f P:Int} (hP:0 < P) (hf:0≤f∧f < P) (ha:-8388608≤a∧a≤8388607) (hb:-8388608≤b∧b≤8388607):-8388608≤btw a b f P∧btw a b f P≤8388607 :=
 ⟨ZGe hP hf ha.1 hb.1,ZGf hP hf ha.2 hb.2⟩
theorem ZMy {x y A B:Int} (h1:-A≤x) (h2:x≤A) (h3:0≤y) (h4:y≤B) (hA:0≤A):-(A*B)≤x*y∧x*y≤A*B:=by
 have e1:x*y≤A*y:=Int.mul_le_mul_of_nonneg_right h2 h3
 have e2:A*y≤A*B:=Int.mul_le_mul_of_nonneg_left h4 hA
 have e3:-A*y≤x*y:=Int.mul_le_mul_of_nonneg_right h1 h3
 have e4:-A*y=-(A*y):=Int.neg_mul A y
 omega
def Ztg (a b f P:Int):Int:=IntKind.i64.wrap (IntKind.i64.wrap (IntKind.i64.wrap (IntKind.i64.wrap a*IntKind.i64.wrap (P - f))+IntKind.i64.wrap (IntKind.i64.wrap b*f))+IntKind.i64.wrap (P.tdiv 2))
theorem ZFx {a b f P:Int} (hP:65536≤P∧P≤50331648000) (hf:0≤f∧f < P) (ha:-8388608≤a∧a≤8388607) (hb:-8388608≤b∧b≤8388607):Ztg a b f P=a*(P - f)+b*f+P / 2∧-1000000000000000000≤Ztg a b f P∧Ztg a b f P≤1000000000000000000:=by
 have h1:=ZMy (x:=a) (y:=P - f) (A:=8388608) (B:=50331648000) (by omega) (by omega) (by omega) (by omega) (by decide)
 have h2:=ZMy (x:=b) (y:=f) (A:=8388608) (B:=50331648000) (by omega) (by omega) (by omega) (by omega) (by decide)
 have e:Ztg a b f P=a*(P - f)+b*f+P / 2:=by
  unfold Ztg
  rw [IntWalk.i64_in a (by omega),IntWalk.i64_in b (by omega),IntWalk.i64_in (P - f) (by omega),IntWalk.i64_in (a*(P - f)) (by omega),IntWalk.i64_in (b*f) (by omega),IntWalk.i64_in (a*(P - f)+b*f) (by omega),
   Int.tdiv_eq_ediv_of_nonneg (by omega),IntWalk.i64_in (P / 2) (by omega),IntWalk.i64_in _ (by omega)]
 rw [e]
 exact ⟨rfl,by omega,by omega⟩
theorem ZBo {a b f P:Int} (hP:65536≤P∧P≤50331648000) (hf:0≤f∧f < P) (ha:-8388608≤a∧a≤8388607) (hb:-8388608≤b∧b≤8388607) :
  (decide ((Ztg a b f P).tmod P < 0)=true→IntKind.i32.wrap (IntKind.i64.wrap (IntKind.i64.wrap ((Ztg a b f P).tdiv P) - 1))=btw a b f P)∧(decide ((Ztg a b f P).tmod P < 0)=false→IntKind.i32.wrap (IntKind.i64.wrap ((Ztg a b f P).tdiv P))=btw a b f P):=by
 obtain ⟨e,e1,e2⟩:=ZFx hP hf ha hb
 have hb2:=ZDx (P:=P) (by omega) hf ha hb
 have hg:=ZEE (x:=Ztg a b f P) (P:=P) (by omega)
 have hbt:Ztg a b f P / P=btw a b f P:=by rw [e]; rfl
 rw [hbt] at hg
 generalize hq:(Ztg a b f P).tdiv P=q at *
 refine ⟨fun h=>?_,fun h=>?_⟩
 ·rw [if_pos (of_decide_eq_true h)] at hg
  rw [IntWalk.i64_in q (by omega),IntWalk.i64_in (q - 1) (by omega),hg,IntWalk.i32_in _ (by omega)]
 ·rw [if_neg (of_decide_eq_false h)] at hg
  rw [hg,IntWalk.i64_in _ (by omega),IntWalk.i32_in _ (by omega)]
def frA (x:Rs) (k:Nat):Nat:=min (k*x.c.toNat) (x.l.length - x.c.toNat)
def gx (x:Rs) (k ch:Nat):Int:=(x.l[frA x k+ch]?).getD 0
def qN (p:Ph) (i:Nat):Nat:=(qAt p i).toNat
def ZMB (x:Rs) (i ch:Nat):Int:=btw (gx x (qN x.p i) ch) (gx x (qN x.p i+1) ch) (fAt x.p i) (prt x.p)
def ZiB (x:Rs) (i n:Nat):List Int:=(List.range n).map (ZMB x i)
def Zbo (x:Rs):Nat→List Int
 | 0=>[]
 | n+1=>Zbo x n++ZiB x n x.c.toNat
theorem ZiC (x:Rs) (i n:Nat):(ZiB x i n).length=n:=by simp [ZiB]
theorem ZkA (x:Rs) (i n:Nat):ZiB x i (n+1)=ZiB x i n++[ZMB x i n]:=by simp [ZiB,List.range_succ]
theorem Zbp (x:Rs):∀ n,(Zbo x n).length=n*x.c.toNat
 | 0=>by simp [Zbo]
 | n+1=>by rw [Zbo,List.length_append,ZiC,Zbp x n,Nat.add_mul,Nat.one_mul]
def poE (x:Rs) (n:Int):Int:=adE x.p n
def poC (x:Rs) (n:Int):Int:=if poE x n=0 then x.c else 0
def poO (x:Rs) (n:Int):List Int:=if poE x n=0 then Zbo x n.toNat else []
def poR (x:Rs) (n:Int):Rs:=if poE x n=0 then ⟨x.c,adP x.p n,x.l.drop (min x.l.length (qN x.p n.toNat*x.c.toNat))⟩ else rs0
theorem ZoL {p:Ph} {n:Int} (h:adE p n=0):phC p n=0∧adP p n=⟨p.n,p.d,p.a,p.p+qAt p n,fAt p n⟩:=by
 have h0:phC p n=0:=by
  unfold adE at h
  split at h
  ·assumption
  ·rename_i h1; exact absurd h h1
 refine ⟨h0,?_⟩
 unfold adP
 rw [if_pos h]
 simp [atP,atF,h0]
theorem Zh7 {x:Rs} (hv:rsV x=true) (hl:x.l.length≤1000000) (hne:0 < x.l.length) (k:Nat):frA x k+x.c.toNat≤x.l.length∧x.c.toNat≤x.l.length:=by
 obtain ⟨⟨k1,k2⟩,k3,k4,k5⟩:=ZW (ZD hv).2 hl
 have hw:1≤x.l.length / x.c.toNat:=by
  rcases Nat.eq_zero_or_pos (x.l.length / x.c.toNat) with h | h
  ·rw [h,Nat.zero_mul] at k3; omega
  ·exact h
 have:1*x.c.toNat≤x.l.length / x.c.toNat*x.c.toNat:=Nat.mul_le_mul_right _ hw
 unfold frA
 omega
theorem ZmO {w q c len:Nat} (h:len=w*c):min w q*c=min len (q*c):=by
 rcases Nat.le_total w q with h1 | h1
 ·have:=Nat.mul_le_mul_right c h1
  rw [Nat.min_eq_left h1]; omega
 ·have:=Nat.mul_le_mul_right c h1
  rw [Nat.min_eq_right h1]; omega
theorem ZfT {p:Ph} (h:phV p=true) {g:Nat} (hg:g≤65536):((qN p g:Nat):Int)=qAt p g∧qN p g≤62000000000:=by
 have:=Zbm h (n:=(g:Int)) (by omega)
 unfold qN
 omega
theorem at_eq {p:Ph} (h:phV p=true) {g:Nat} (hg:g≤65536):atP p g=p.p+qN p g∧atF p g=fAt p g∧IntKind.i64.wrap (atP p g - p.p)=((qN p g:Nat):Int):=by
 have h0:=ZgY h (n:=(g:Int)) (by omega)
 obtain ⟨h1,h2⟩:=ZfT h hg
 have e:atP p g=p.p+qN p g:=by unfold atP; rw [if_pos h0,h1]
 refine ⟨e,by unfold atF; rw [if_pos h0],?_⟩
 rw [e,IntWalk.i64_in _ (by omega)]
 omega
theorem ZDE {x:Rs} (hv:rsV x=true) (hl:x.l.length≤1000000) (hne:0 < x.l.length) {k:Nat} (hk:k≤100000000000) :
  IntKind.i64.wrap ((if IntKind.i64.wrap (waN x - 1) < (k:Int) then IntKind.i64.wrap (waN x - 1) else (k:Int))*x.c)=((frA x k:Nat):Int):=by
 obtain ⟨⟨k1,k2⟩,k3,k4,k5⟩:=ZW (ZD hv).2 hl
 have hw:waN x=((x.l.length / x.c.toNat:Nat):Int):=by unfold waN; rw [if_pos hv]
 rw [hw]
 generalize x.l.length / x.c.toNat=w at *
 have hw1:1≤w:=by
  rcases Nat.eq_zero_or_pos w with h | h
  ·rw [h,Nat.zero_mul] at k3; omega
  ·exact h
 have hc:(x.c.toNat:Int)=x.c:=by omega
 have e1:(if IntKind.i64.wrap ((w:Int) - 1) < (k:Int) then IntKind.i64.wrap ((w:Int) - 1) else (k:Int))=((min (w - 1) k:Nat):Int):=by
  rw [IntWalk.i64_in ((w:Int) - 1) (by omega)]; split <;> omega
 have e2:((min (w - 1) k:Nat):Int)*x.c=((min (w - 1) k*x.c.toNat:Nat):Int):=by rw [Int.natCast_mul,hc]
 have e3:min (w - 1) k*x.c.toNat=frA x k:=by
  have e4:(w - 1)*x.c.toNat=x.l.length - x.c.toNat:=by rw [Nat.sub_mul,Nat.one_mul]; omega
  unfold frA
  rw [ZmO rfl,e4,Nat.min_comm]
 have h5:=Zh7 hv hl hne k
 rw [e1,e2,e3,IntWalk.i64_in _ (by omega)]
theorem Zww (c n d a p f:Int) (l:List Int) (i:Int) (hl:l.length≤1000000) (hv:rsV ⟨c,⟨n,d,a,p,f⟩,l⟩=true) (hne:0 < l.length) (hi:0≤i∧i≤1000000000000):Spec Tryz.prog 0 220 [.agg [.d (.int .i64 c),.d (.int .i64 n),.d (.int .i64 d),.d (.int .i64 a),.d (.int .i64 p),.d (.int .i64 f),.d (.list (LI .i32 l))],vI .i64 i] [] [] (vL (LI .i32 ((l.drop (frA ⟨c,⟨n,d,a,p,f⟩,l⟩ i.toNat)).take c.toNat))) [] []:=by
 refine spec_of_E (X:=⟨Tryz.prog,tt,Tryz.f220.ntmps,1,fun _=>0,(tab [])⟩) (M:=[(3,[0,0,0,0,0,2138046583,0,0,0,0,0,1073741943,0])]) (m:=119) rfl rfl ⟨Zah,ZU Zb _ rfl rfl⟩ ZB Tryz.func220 rfl (by decide) (by show (2:Nat)≤_; exact Nat.le_of_ble_eq_true rfl) ⟨by simp [V.has,C.has],by simp [C.has],by simp⟩ ?_
 simp (maxSteps:=1000000) only [↓Zo,Ze,Zd,Zn,gSt,gS0,Ya,Yb,↓reduceIte,reduceCtorEq,Yc,Yd,Ye,Yf,Yg,Yj,Yk,Yl,Ym,Yn,Tryz.ntmps220,Tryz.results220,gTT]
 obtain ⟨⟨k1,k2⟩,k3,k4,k5⟩:=ZW (ZD hv).2 hl
 obtain ⟨h1,h2⟩:=Zh7 hv hl hne i.toNat
 simp only at k1 k2 h1 h2
 have hc:(c.toNat:Int)=c:=by omega
 have hi2:(i.toNat:Int)=i:=by omega
 have hm:i*c=((i.toNat*c.toNat:Nat):Int):=by rw [Int.natCast_mul,hc,hi2]
 have hb:=Nat.mul_le_mul (show i.toNat≤1000000000000 by omega) (show c.toNat≤8 by omega)
 have e:(if IntKind.i64.wrap ((l.length:Int) - c) < IntKind.i64.wrap (i*c) then IntKind.i64.wrap ((l.length:Int) - c) else IntKind.i64.wrap (i*c))=((frA ⟨c,⟨n,d,a,p,f⟩,l⟩ i.toNat:Nat):Int):=by
  rw [hm]
  unfold frA
  simp only
  generalize i.toNat*c.toNat=m at *
  rw [IntWalk.i64_in ((l.length:Int) - c) (by omega),IntWalk.i64_in (m:Int) (by omega)]
  split <;> omega
 rw [e]
 generalize frA ⟨c,⟨n,d,a,p,f⟩,l⟩ i.toNat=q at *
 have e2:IntKind.i64.wrap ((q:Int)+c)=((q+c.toNat:Nat):Int):=by rw [IntWalk.i64_in _ (by omega)]; omega
 rw [e2,Int.toNat_natCast,Int.toNat_natCast,Nat.add_sub_cancel_left]
 exact ⟨⟨by omega,by omega,by omega,by omega⟩,rfl⟩
def Zhi:List V→Zf→Zw→Name→Option Ent
 | [.agg [.d (.int .i64 c),.d (.int .i64 n),.d (.int .i64 d),.d (.int .i64 a),.d (.int .i64 p),.d (.int .i64 f),.d (.list q_l)],.c (.d (.int .i64 i))],[],[],_=>some ⟨(Zc q_l).length≤1000000∧rsV ⟨c,⟨n,d,a,p,f⟩,(Zc q_l)⟩=true∧0 < (Zc q_l).length∧(0≤i∧i≤1000000000000)∧q_l=LI .i32 (Zc q_l),vL (LI .i32 (((Zc q_l).drop (frA ⟨c,⟨n,d,a,p,f⟩,(Zc q_l)⟩ i.toNat)).take c.toNat)),[],[]⟩
 | _,_,_,_=>none
def ZaM:=And.intro (@Zhi.eq_1) (@Zhi.eq_1)
theorem Zlf:Snd Tryz.prog 220 Zhi:=by
 intro vs b k n e h hn hp
 unfold Zhi at h
 split at h
 ·cases h; obtain ⟨hp0,hp1,hp2,hp3,hq0⟩:=hp; obtain ⟨_,rfl⟩:=Zu hq0; simp only [Zi,Zp,Zj,Zq] at hp0 hp1 hp2 hp3 ⊢; exact (Zww _ _ _ _ _ _ _ _ hp0 hp1 hp2 hp3).lift rfl _
 ·cases h
theorem Zqf (c n d a p f:Int) (l:List Int) (i:Int) (hl:l.length≤1000000) (hv:rsV ⟨c,⟨n,d,a,p,f⟩,l⟩=true) (hi:0≤i∧i≤65536) (hne:0 < i→0 < l.length):Spec Tryz.prog 0 164 [.agg [.d (.int .i64 c),.d (.int .i64 n),.d (.int .i64 d),.d (.int .i64 a),.d (.int .i64 p),.d (.int .i64 f),.d (.list (LI .i32 l))],vI .i64 i] [] [] (.tup [.agg [.int .i64 (poC ⟨c,⟨n,d,a,p,f⟩,l⟩ i),.list (LI .i32 (poO ⟨c,⟨n,d,a,p,f⟩,l⟩ i))],.agg [.int .i64 (poR ⟨c,⟨n,d,a,p,f⟩,l⟩ i).c,.int .i64 (poR ⟨c,⟨n,d,a,p,f⟩,l⟩ i).p.n,.int .i64 (poR ⟨c,⟨n,d,a,p,f⟩,l⟩ i).p.d,.int .i64 (poR ⟨c,⟨n,d,a,p,f⟩,l⟩ i).p.a,.int .i64 (poR ⟨c,⟨n,d,a,p,f⟩,l⟩ i).p.p,.int .i64 (poR ⟨c,⟨n,d,a,p,f⟩,l⟩ i).p.f,.list (LI .i32 (poR ⟨c,⟨n,d,a,p,f⟩,l⟩ i).l)],.int .i64 (poE ⟨c,⟨n,d,a,p,f⟩,l⟩ i)]) [] []:=by
 refine sE (md:=fun s=>if s=45 then 1 else 0) (L:=[(218,Zll),(219,Zrq),(220,Zhi),(131,Zeg)]) [(15,[0,0,0,0,0,5149829387557928694202194968567,0,0,0,0,0,5149695196791951470363802583031,0,0,0,0,0,5144878836326606787731773177847,0,0,0]),(22,[0,0,0,0,0,169891958281861993975001811129907265527,0,0,0,0,0,127688969415690915010305936966006325239,0,0])] 5070602433969483971237825724407 (Za Zn5 (Za Zmj (Za Zlf (Za Ze8 Zb)))) Tryz.func164 rfl rfl rfl ?_
 simp (maxSteps:=1000000) only [↓Zo,Ze,Zd,Zn,gSt,gS0,Ya,Yb,↓reduceIte,reduceCtorEq,Yc,Yd,Ye,Yf,Yg,Yj,Yk,Yl,Ym,Yn,Zbj,ZbA,ZaM,Zai,Tryz.ntmps164,Tryz.results164,gTT]
 obtain ⟨⟨k1,k2⟩,k3,k4,k5⟩:=ZW (ZD hv).2 hl
 have hp:=(ZD hv).1
 simp only at k1 k2 hp k3
 have hc:(c.toNat:Int)=c:=by omega
 have hi2:(i.toNat:Int)=i:=by omega
 have hm:i*c=((i.toNat*c.toNat:Nat):Int):=by rw [Int.natCast_mul,hc,hi2]
 have hmb:=Nat.mul_le_mul (show i.toNat≤65536 by omega) (show c.toNat≤8 by omega)
 have hd:=Zbw hp
 simp only at hd
 have hpr:=ZcG hp
 have hP:IntKind.i64.wrap (d*65536)=prt ⟨n,d,a,p,f⟩:=rfl
 rw [hP]
 refine ⟨fun h=>?_,fun h=>⟨by kernel_rfl,?_⟩⟩
 ·have hne:adE ⟨n,d,a,p,f⟩ i≠0:=by simpa using h
  simp [poC,poO,poR,poE,hne,rs0,Zy]
 have he:adE ⟨n,d,a,p,f⟩ i=0:=by simpa using h
 obtain ⟨he0,hadP⟩:=ZoL he
 rw [hm,IntWalk.i64_in ((i.toNat*c.toNat:Nat):Int) (by omega)]
 refine ⟨⟨by omega,by omega,by omega⟩,?_⟩
 refine Zl (fun g=>⟨[(48,vI .i64 (g:Nat))],[(⟨1,10⟩,[.d (.int .i64 c),.own ⟨1,45⟩ (LI .i32 (Zbo ⟨c,⟨n,d,a,p,f⟩,l⟩ g))])],[(⟨1,45⟩,⟨false,1,LI .i32 (Zbo ⟨c,⟨n,d,a,p,f⟩,l⟩ g)⟩)]⟩) (fun g=>g≤i.toNat) (fun g=>i.toNat - g) (·+1) 0 (Nat.zero_le _) ?_ ?_
 ·simp (maxSteps:=1000000) only [↓Zo,Ze,Zd,Zn,gSt,gS0,Ya,Yb,↓reduceIte,reduceCtorEq,Yc,Yd,Ye,Yf,Yg,Yj,Yk,Yl,Ym,Yn,Zbj,ZbA,ZaM,Zai,Tryz.ntmps164,Tryz.results164,gTT]
  exact ⟨rfl,rfl,rfl⟩
 intro g hg
 simp (maxSteps:=1000000) only [↓Zo,Ze,Zd,Zn,gSt,gS0,Ya,Yb,↓reduceIte,reduceCtorEq,Yc,Yd,Ye,Yf,Yg,Yj,Yk,Yl,Ym,Yn,Zbj,ZbA,ZaM,Zai,Tryz.ntmps164,Tryz.results164,gTT]
 refine ⟨fun h1=>?_,fun h1=>?_⟩
 ·have hgi:(g:Int) < i:=of_decide_eq_true h1
  have hg6:g≤65536:=by omega
  obtain ⟨q1,q2,q3⟩:=at_eq hp hg6
  have q4:=(ZfT hp hg6).2
  simp only at q3
  rw [q3]
  have q5:IntKind.i64.wrap (((qN ⟨n,d,a,p,f⟩ g:Nat):Int)+1)=((qN ⟨n,d,a,p,f⟩ g+1:Nat):Int):=by rw [IntWalk.i64_in _ (by omega)]; rfl
  rw [q5]
  have hl0:0 < l.length:=hne (by omega)
  have hfa:=Zh7 hv hl hl0 (qN ⟨n,d,a,p,f⟩ g)
  have hfb:=Zh7 hv hl hl0 (qN ⟨n,d,a,p,f⟩ g+1)
  simp only at hfa hfb
  have hfr0:=(Zbm hp (n:=(g:Int)) (by omega)).2
  have hfr:0≤fAt ⟨n,d,a,p,f⟩ g∧fAt ⟨n,d,a,p,f⟩ g < prt ⟨n,d,a,p,f⟩:=⟨hfr0.1,hfr0.2.1⟩
  refine ⟨by kernel_rfl,⟨hl,hv,hl0,by omega,by omega⟩,⟨hl,hv,hl0,by omega,by omega⟩,?_⟩
  rw [Int.toNat_natCast,Int.toNat_natCast]
  have hA:∀ j,j < c.toNat→(List.take c.toNat (List.drop (frA ⟨c,⟨n,d,a,p,f⟩,l⟩ (qN ⟨n,d,a,p,f⟩ g)) l))[j]?.getD 0=gx ⟨c,⟨n,d,a,p,f⟩,l⟩ (qN ⟨n,d,a,p,f⟩ g) j:=fun j hj=>by
   rw [List.getElem?_take_of_lt hj,List.getElem?_drop]; rfl
  have hB:∀ j,j < c.toNat→(List.take c.toNat (List.drop (frA ⟨c,⟨n,d,a,p,f⟩,l⟩ (qN ⟨n,d,a,p,f⟩ g+1)) l))[j]?.getD 0=gx ⟨c,⟨n,d,a,p,f⟩,l⟩ (qN ⟨n,d,a,p,f⟩ g+1) j:=fun j hj=>by
   rw [List.getElem?_take_of_lt hj,List.getElem?_drop]; rfl
  have hlA:(List.take c.toNat (List.drop (frA ⟨c,⟨n,d,a,p,f⟩,l⟩ (qN ⟨n,d,a,p,f⟩ g)) l)).length=c.toNat:=by rw [List.length_take,List.length_drop]; omega
  have hlB:(List.take c.toNat (List.drop (frA ⟨c,⟨n,d,a,p,f⟩,l⟩ (qN ⟨n,d,a,p,f⟩ g+1)) l)).length=c.toNat:=by rw [List.length_take,List.length_drop]; omega
  generalize List.take c.toNat (List.drop (frA ⟨c,⟨n,d,a,p,f⟩,l⟩ (qN ⟨n,d,a,p,f⟩ g)) l)=FA at *
  generalize List.take c.toNat (List.drop (frA ⟨c,⟨n,d,a,p,f⟩,l⟩ (qN ⟨n,d,a,p,f⟩ g+1)) l)=FB at *
  have hol:=Zbp ⟨c,⟨n,d,a,p,f⟩,l⟩ g
  simp only at hol
  have hgc:=Nat.mul_le_mul (show g≤65536 by omega) (show c.toNat≤8 by omega)
  refine Zl (fun j=>⟨[(73,vI .i64 (j:Nat))],[(⟨1,10⟩,[.d (.int .i64 c),.own ⟨1,45⟩ (LI .i32 (Zbo ⟨c,⟨n,d,a,p,f⟩,l⟩ g++ZiB ⟨c,⟨n,d,a,p,f⟩,l⟩ g j))])],[(⟨1,45⟩,⟨false,1,LI .i32 (Zbo ⟨c,⟨n,d,a,p,f⟩,l⟩ g++ZiB ⟨c,⟨n,d,a,p,f⟩,l⟩ g j)⟩)]⟩) (fun j=>j≤c.toNat) (fun j=>c.toNat - j) (·+1) 0 (Nat.zero_le _) ?_ ?_
  ·simp (maxSteps:=1000000) only [↓Zo,Ze,Zd,Zn,gSt,gS0,Ya,Yb,↓reduceIte,reduceCtorEq,Yc,Yd,Ye,Yf,Yg,Yj,Yk,Yl,Ym,Yn,Zbj,ZbA,ZaM,Zai,Tryz.ntmps164,Tryz.results164,gTT]
   simp [ZiB]
  intro j hj
  simp (maxSteps:=1000000) only [↓Zo,Ze,Zd,Zn,gSt,gS0,Ya,Yb,↓reduceIte,reduceCtorEq,Yc,Yd,Ye,Yf,Yg,Yj,Yk,Yl,Ym,Yn,Zbj,ZbA,ZaM,Zai,Tryz.ntmps164,Tryz.results164,gTT]
  have hfl:=ZiC ⟨c,⟨n,d,a,p,f⟩,l⟩ g j
  refine ⟨fun h2=>?_,fun h2=>?_⟩
  ·have hjc:j < c.toNat:=by have:=of_decide_eq_true h2; omega
   have sA:=Ze0 k5 (frA ⟨c,⟨n,d,a,p,f⟩,l⟩ (qN ⟨n,d,a,p,f⟩ g)+j)
   have sB:=Ze0 k5 (frA ⟨c,⟨n,d,a,p,f⟩,l⟩ (qN ⟨n,d,a,p,f⟩ g+1)+j)
   have hq:=ZBo (a:=gx ⟨c,⟨n,d,a,p,f⟩,l⟩ (qN ⟨n,d,a,p,f⟩ g) j) (b:=gx ⟨c,⟨n,d,a,p,f⟩,l⟩ (qN ⟨n,d,a,p,f⟩ g+1) j) hpr hfr sA sB
   refine ⟨by kernel_rfl,?_⟩
   rw [hA j hjc,hB j hjc,q2]
   have hs:Zbo ⟨c,⟨n,d,a,p,f⟩,l⟩ g++ZiB ⟨c,⟨n,d,a,p,f⟩,l⟩ g (j+1)=Zbo ⟨c,⟨n,d,a,p,f⟩,l⟩ g++ZiB ⟨c,⟨n,d,a,p,f⟩,l⟩ g j++[btw (gx ⟨c,⟨n,d,a,p,f⟩,l⟩ (qN ⟨n,d,a,p,f⟩ g) j) (gx ⟨c,⟨n,d,a,p,f⟩,l⟩ (qN ⟨n,d,a,p,f⟩ g+1) j) (fAt ⟨n,d,a,p,f⟩ g) (prt ⟨n,d,a,p,f⟩)]:=by
    rw [ZkA,List.append_assoc]; rfl
   rw [hs]
   unfold Ztg at hq
   refine ⟨by omega,by omega,by decide,by omega,by omega,fun h3=>?_,fun h3=>?_⟩
   ·rw [hq.1 h3]
    exact ⟨by unfold Zag; rw [List.length_append]; omega,⟨(Zaz _ (by omega)).symm,rfl,rfl⟩,by omega,by omega⟩
   ·rw [hq.2 h3]
    exact ⟨by unfold Zag; rw [List.length_append]; omega,⟨(Zaz _ (by omega)).symm,rfl,rfl⟩,by omega,by omega⟩
  ·have hjc:j=c.toNat:=by have:=of_decide_eq_false h2; omega
   subst hjc
   exact ⟨⟨(Zaz _ (by omega)).symm,rfl,rfl⟩,by omega,by omega⟩
 ·have hgi:g=i.toNat:=by have:=of_decide_eq_false h1; omega
  have hq:=ZfT hp (g:=i.toNat) (by omega)
  rw [hi2] at hq
  refine ⟨by kernel_rfl,?_⟩
  have hpp:(adP ⟨n,d,a,p,f⟩ i).p - p=((qN ⟨n,d,a,p,f⟩ i.toNat:Nat):Int):=by rw [hadP,hq.1]; show p+_ - p=_; omega
  rw [hpp]
  have hgone:(if IntKind.i64.wrap (IntKind.i64.wrap ((qN ⟨n,d,a,p,f⟩ i.toNat:Nat):Int)*c) < (l.length:Int) then IntKind.i64.wrap (IntKind.i64.wrap ((qN ⟨n,d,a,p,f⟩ i.toNat:Nat):Int)*c) else (l.length:Int))=((min l.length (qN ⟨n,d,a,p,f⟩ i.toNat*c.toNat):Nat):Int):=by
   have hqc:=Nat.mul_le_mul hq.2 (show c.toNat≤8 by omega)
   rw [IntWalk.i64_in ((qN ⟨n,d,a,p,f⟩ i.toNat:Nat):Int) (by omega)]
   have e:((qN ⟨n,d,a,p,f⟩ i.toNat:Nat):Int)*c=((qN ⟨n,d,a,p,f⟩ i.toNat*c.toNat:Nat):Int):=by rw [Int.natCast_mul,hc]
   rw [e,IntWalk.i64_in _ (by omega)]
   split <;> omega
  rw [hgone,Int.toNat_natCast]
  have htk:∀ m,List.take (l.length - m) (List.drop m l)=List.drop m l:=fun m=>List.take_of_length_le (by rw [List.length_drop]; omega)
  rw [htk]
  refine ⟨⟨by omega,by omega,by omega⟩,by rw [List.length_drop]; omega,by kernel_rfl,?_⟩
  simp [poC,poO,poR,poE,he,hgi]
def Zdk:List V→Zf→Zw→Name→Option Ent
 | [.agg [.d (.int .i64 c),.d (.int .i64 n),.d (.int .i64 d),.d (.int .i64 a),.d (.int .i64 p),.d (.int .i64 f),.d (.list q_l)],.c (.d (.int .i64 i))],[],[],_=>some ⟨(Zc q_l).length≤1000000∧rsV ⟨c,⟨n,d,a,p,f⟩,(Zc q_l)⟩=true∧(0≤i∧i≤65536)∧(0 < i→0 < (Zc q_l).length)∧q_l=LI .i32 (Zc q_l),.tup [.agg [.int .i64 (poC ⟨c,⟨n,d,a,p,f⟩,(Zc q_l)⟩ i),.list (LI .i32 (poO ⟨c,⟨n,d,a,p,f⟩,(Zc q_l)⟩ i))],.agg [.int .i64 (poR ⟨c,⟨n,d,a,p,f⟩,(Zc q_l)⟩ i).c,.int .i64 (poR ⟨c,⟨n,d,a,p,f⟩,(Zc q_l)⟩ i).p.n,.int .i64 (poR ⟨c,⟨n,d,a,p,f⟩,(Zc q_l)⟩ i).p.d,.int .i64 (poR ⟨c,⟨n,d,a,p,f⟩,(Zc q_l)⟩ i).p.a,.int .i64 (poR ⟨c,⟨n,d,a,p,f⟩,(Zc q_l)⟩ i).p.p,.int .i64 (poR ⟨c,⟨n,d,a,p,f⟩,(Zc q_l)⟩ i).p.f,.list (LI .i32 (poR ⟨c,⟨n,d,a,p,f⟩,(Zc q_l)⟩ i).l)],.int .i64 (poE ⟨c,⟨n,d,a,p,f⟩,(Zc q_l)⟩ i)],[],[]⟩
 | _,_,_,_=>none
def ZhW:=And.intro (@Zdk.eq_1) (@Zdk.eq_1)
theorem ZhX:Snd Tryz.prog 164 Zdk:=by
 intro vs b k n e h hn hp
 unfold Zdk at h
 split at h
 ·cases h; obtain ⟨hp0,hp1,hp2,hp3,hq0⟩:=hp; obtain ⟨_,rfl⟩:=Zu hq0; simp only [Zi,Zp,Zj,Zq] at hp0 hp1 hp2 hp3 ⊢; exact (Zqf _ _ _ _ _ _ _ _ hp0 hp1 hp2 hp3).lift rfl _
 ·cases h
theorem ZpR (a b f P:Int) (hP:65536≤P∧P≤50331648000) (hf:0≤f∧f < P) (ha:-8388608≤a∧a≤8388607) (hb:-8388608≤b∧b≤8388607):Spec Tryz.prog 0 230 [vI .i32 a,vI .i32 b,vI .i64 f,vI .i64 P] [] [] (vI .i32 (btw a b f P)) [] []:=by
 refine sE (md:=fun _=>0) (L:=[]) [(1,[0,0,0,0,0,2180974351,0,0,0,0,0,2178942735,0,0,0])] 2147485455 Zb Tryz.func230 rfl rfl rfl ?_
 simp (maxSteps:=1000000) only [↓Zo,Ze,Zd,Zn,gSt,gS0,Ya,Yb,↓reduceIte,reduceCtorEq,Yc,Yd,Ye,Yf,Yg,Yj,Yk,Yl,Ym,Yn,Tryz.ntmps230,Tryz.results230,gTT]
 have h:=ZBo hP hf ha hb
 unfold Ztg at h
 exact ⟨by decide,by omega,by omega,fun k=>(h.1 k).symm,fun k=>(h.2 k).symm⟩
def Zec:List V→Zf→Zw→Name→Option Ent
 | [.c (.d (.int .i32 a)),.c (.d (.int .i32 b)),.c (.d (.int .i64 f)),.c (.d (.int .i64 P))],[],[],_=>some ⟨(65536≤P∧P≤50331648000)∧(0≤f∧f < P)∧(-8388608≤a∧a≤8388607)∧(-8388608≤b∧b≤8388607),vI .i32 (btw a b f P),[],[]⟩
 | _,_,_,_=>none
def ZaV:=And.intro (@Zec.eq_1) (@Zec.eq_1)
theorem Zns:Snd Tryz.prog 230 Zec:=by
 intro vs b k n e h hn hp
 unfold Zec at h
 split at h
 ·cases h; obtain ⟨hp0,hp1,hp2,hp3⟩:=hp; exact (ZpR _ _ _ _ hp0 hp1 hp2 hp3).lift rfl _
 ·cases h
theorem Zqm (c n d a p f:Int) (l:List Int) (i:Int) (hl:l.length≤1000000) (hv:rsV ⟨c,⟨n,d,a,p,f⟩,l⟩=true) (hi:0≤i∧i≤65536) (hne:0 < i→0 < l.length):Spec Tryz.prog 0 175 [.agg [.d (.int .i64 c),.d (.int .i64 n),.d (.int .i64 d),.d (.int .i64 a),.d (.int .i64 p),.d (.int .i64 f),.d (.list (LI .i32 l))],vI .i64 i] [] [] (.agg [.d (.int .i64 c),.d (.list (LI .i32 (Zbo ⟨c,⟨n,d,a,p,f⟩,l⟩ i.toNat)))]) [] []:=by
 refine spec_of_E (X:=⟨Tryz.prog,tt,Tryz.f175.ntmps,1,fun _=>0,(tab [(100,ZaB),(228,Zh4),(227,ZdL),(230,Zec)])⟩) (M:=[(8,[0,0,0,0,0,81058196227128311,0,0,0,0,0,80519435529518071,0,0,0,0,0]),(12,[0,0,0,0,0,9671403170210113619262455,0,0,0,0,0,9670965060038363017411575,0,0,0,0,0,9652665889917243142208503,0,0,0,0,0,7253554989745369090391031,0])]) (m:=72057594042153975) rfl rfl ⟨Zah,ZU (Za ZaH (Za Zgz (Za ZfF (Za Zns Zb)))) _ rfl rfl⟩ ZB Tryz.func175 rfl (by decide) (by show (2:Nat)≤_; exact Nat.le_of_ble_eq_true rfl) ⟨by simp [V.has,C.has],by simp [C.has],by simp⟩ ?_
 simp (maxSteps:=1000000) only [↓Zo,Ze,Zd,Zn,gSt,gS0,Ya,Yb,↓reduceIte,reduceCtorEq,Yc,Yd,Ye,Yf,Yg,Yj,Yk,Yl,Ym,Yn,ZV,ZaK,ZaG,ZaV,Tryz.ntmps175,Tryz.results175,gTT]
 obtain ⟨⟨k1,k2⟩,k3,k4,k5⟩:=ZW (ZD hv).2 hl
 have hp:=(ZD hv).1
 simp only at k1 k2 hp k3
 refine ⟨hl,?_⟩
 refine Ze3 ⟨1,5⟩ 1 1 ⟨1,99⟩ rfl rfl (by simp (maxSteps:=1000000) only [↓Zo,Ze,Zd,Zn,gSt,gS0,Ya,Yb,↓reduceIte,reduceCtorEq,Yc,Yd,Ye,Yf,Yg,Yj,Yk,Yl,Ym,Yn,ZV,ZaK,ZaG,ZaV,Tryz.ntmps175,Tryz.results175,gTT]) (Nat.le_refl _) ?_
 simp (maxSteps:=1000000) only [↓Zo,Ze,Zd,Zn,gSt,gS0,Ya,Yb,↓reduceIte,reduceCtorEq,Yc,Yd,Ye,Yf,Yg,Yj,Yk,Yl,Ym,Yn,ZV,ZaK,ZaG,ZaV,Tryz.ntmps175,Tryz.results175,gTT]
 refine Zl (fun g=>⟨[(7,vI .i64 (g:Nat))],[(⟨1,5⟩,[.d (.int .i64 c),.own ⟨1,99⟩ (LI .i32 (Zbo ⟨c,⟨n,d,a,p,f⟩,l⟩ g))])],[(⟨1,99⟩,⟨false,1,LI .i32 (Zbo ⟨c,⟨n,d,a,p,f⟩,l⟩ g)⟩)]⟩) (fun g=>g≤i.toNat) (fun g=>i.toNat - g) (·+1) 0 (Nat.zero_le _) ?_ ?_
 ·simp (maxSteps:=1000000) only [↓Zo,Ze,Zd,Zn,gSt,gS0,Ya,Yb,↓reduceIte,reduceCtorEq,Yc,Yd,Ye,Yf,Yg,Yj,Yk,Yl,Ym,Yn,ZV,ZaK,ZaG,ZaV,Tryz.ntmps175,Tryz.results175,gTT]
  exact ⟨rfl,rfl,rfl⟩
 intro g hg
 simp (maxSteps:=1000000) only [↓Zo,Ze,Zd,Zn,gSt,gS0,Ya,Yb,↓reduceIte,reduceCtorEq,Yc,Yd,Ye,Yf,Yg,Yj,Yk,Yl,Ym,Yn,ZV,ZaK,ZaG,ZaV,Tryz.ntmps175,Tryz.results175,gTT]
 refine ⟨fun h1=>⟨by kernel_rfl,?_⟩,fun h1=>?_⟩
 ·have hgi:(g:Int) < i:=of_decide_eq_true h1
  have hg6:g≤65536:=by omega
  have hpr:=ZcG hp
  obtain ⟨q1,q2,q3⟩:=at_eq hp hg6
  have q4:=(ZfT hp hg6).2
  simp only at q3
  rw [q3]
  have q5:IntKind.i64.wrap (((qN ⟨n,d,a,p,f⟩ g:Nat):Int)+1)=((qN ⟨n,d,a,p,f⟩ g+1:Nat):Int):=by rw [IntWalk.i64_in _ (by omega)]; rfl
  rw [q5,q2]
  have hl0:0 < l.length:=hne (by omega)
  have hfa:=Zh7 hv hl hl0 (qN ⟨n,d,a,p,f⟩ g)
  have hfb:=Zh7 hv hl hl0 (qN ⟨n,d,a,p,f⟩ g+1)
  have hga:=ZDE hv hl hl0 (k:=qN ⟨n,d,a,p,f⟩ g) (by omega)
  have hgb:=ZDE hv hl hl0 (k:=qN ⟨n,d,a,p,f⟩ g+1) (by omega)
  simp only at hfa hfb hga hgb
  rw [hga,hgb]
  have hfr0:=(Zbm hp (n:=(g:Int)) (by omega)).2
  have hfr:0≤fAt ⟨n,d,a,p,f⟩ g∧fAt ⟨n,d,a,p,f⟩ g < prt ⟨n,d,a,p,f⟩:=⟨hfr0.1,hfr0.2.1⟩
  have hol:=Zbp ⟨c,⟨n,d,a,p,f⟩,l⟩ g
  simp only at hol
  have hgc:=Nat.mul_le_mul (show g≤65536 by omega) (show c.toNat≤8 by omega)
  refine Zl (fun j=>⟨[(14,vI .i64 (j:Nat))],[(⟨1,5⟩,[.d (.int .i64 c),.own ⟨1,99⟩ (LI .i32 (Zbo ⟨c,⟨n,d,a,p,f⟩,l⟩ g++ZiB ⟨c,⟨n,d,a,p,f⟩,l⟩ g j))])],[(⟨1,99⟩,⟨false,1,LI .i32 (Zbo ⟨c,⟨n,d,a,p,f⟩,l⟩ g++ZiB ⟨c,⟨n,d,a,p,f⟩,l⟩ g j)⟩)]⟩) (fun j=>j≤c.toNat) (fun j=>c.toNat - j) (·+1) 0 (Nat.zero_le _) ?_ ?_
  ·simp (maxSteps:=1000000) only [↓Zo,Ze,Zd,Zn,gSt,gS0,Ya,Yb,↓reduceIte,reduceCtorEq,Yc,Yd,Ye,Yf,Yg,Yj,Yk,Yl,Ym,Yn,ZV,ZaK,ZaG,ZaV,Tryz.ntmps175,Tryz.results175,gTT]
   simp [ZiB]
  intro j hj
  simp (maxSteps:=1000000) only [↓Zo,Ze,Zd,Zn,gSt,gS0,Ya,Yb,↓reduceIte,reduceCtorEq,Yc,Yd,Ye,Yf,Yg,Yj,Yk,Yl,Ym,Yn,ZV,ZaK,ZaG,ZaV,Tryz.ntmps175,Tryz.results175,gTT]
  have hfl:=ZiC ⟨c,⟨n,d,a,p,f⟩,l⟩ g j
  refine ⟨fun h2=>?_,fun h2=>?_⟩
  ·have hjc:j < c.toNat:=by have:=of_decide_eq_true h2; omega
   have sA:=Ze0 k5 (frA ⟨c,⟨n,d,a,p,f⟩,l⟩ (qN ⟨n,d,a,p,f⟩ g)+j)
   have sB:=Ze0 k5 (frA ⟨c,⟨n,d,a,p,f⟩,l⟩ (qN ⟨n,d,a,p,f⟩ g+1)+j)
   refine ⟨by kernel_rfl,?_⟩
   have w1:IntKind.i64.wrap (((frA ⟨c,⟨n,d,a,p,f⟩,l⟩ (qN ⟨n,d,a,p,f⟩ g):Nat):Int)+(j:Int))=((frA ⟨c,⟨n,d,a,p,f⟩,l⟩ (qN ⟨n,d,a,p,f⟩ g)+j:Nat):Int):=by rw [IntWalk.i64_in _ (by omega)]; omega
   have w2:IntKind.i64.wrap (((frA ⟨c,⟨n,d,a,p,f⟩,l⟩ (qN ⟨n,d,a,p,f⟩ g+1):Nat):Int)+(j:Int))=((frA ⟨c,⟨n,d,a,p,f⟩,l⟩ (qN ⟨n,d,a,p,f⟩ g+1)+j:Nat):Int):=by rw [IntWalk.i64_in _ (by omega)]; omega
   rw [w1,w2,Int.toNat_natCast,Int.toNat_natCast]
   have hs:Zbo ⟨c,⟨n,d,a,p,f⟩,l⟩ g++ZiB ⟨c,⟨n,d,a,p,f⟩,l⟩ g (j+1)=Zbo ⟨c,⟨n,d,a,p,f⟩,l⟩ g++ZiB ⟨c,⟨n,d,a,p,f⟩,l⟩ g j++[btw (l[frA ⟨c,⟨n,d,a,p,f⟩,l⟩ (qN ⟨n,d,a,p,f⟩ g)+j]?.getD 0) (l[frA ⟨c,⟨n,d,a,p,f⟩,l⟩ (qN ⟨n,d,a,p,f⟩ g+1)+j]?.getD 0) (fAt ⟨n,d,a,p,f⟩ g) (prt ⟨n,d,a,p,f⟩)]:=by
    rw [ZkA,List.append_assoc]; rfl
   rw [hs]
   exact ⟨by omega,by omega,⟨hpr,hfr,sA,sB⟩,by unfold Zag; rw [List.length_append]; omega,⟨(Zaz _ (by omega)).symm,rfl,rfl⟩,by omega,by omega⟩
  ·have hjc:j=c.toNat:=by have:=of_decide_eq_false h2; omega
   subst hjc
   exact ⟨⟨(Zaz _ (by omega)).symm,rfl,rfl⟩,by omega,by omega⟩
 ·have hgi:g=i.toNat:=by have:=of_decide_eq_false h1; omega
  rw [hgi]
def Zdp:List V→Zf→Zw→Name→Option Ent
 | [.agg [.d (.int .i64 c),.d (.int .i64 n),.d (.int .i64 d),.d (.int .i64 a),.d (.int .i64 p),.d (.int .i64 f),.d (.list q_l)],.c (.d (.int .i64 i))],[],[],_=>some ⟨(Zc q_l).length≤1000000∧rsV ⟨c,⟨n,d,a,p,f⟩,(Zc q_l)⟩=true∧(0≤i∧i≤65536)∧(0 < i→0 < (Zc q_l).length)∧q_l=LI .i32 (Zc q_l),.agg [.d (.int .i64 c),.d (.list (LI .i32 (Zbo ⟨c,⟨n,d,a,p,f⟩,(Zc q_l)⟩ i.toNat)))],[],[]⟩
 | _,_,_,_=>none
def ZcP:=And.intro (@Zdp.eq_1) (@Zdp.eq_1)
theorem Zh2:Snd Tryz.prog 175 Zdp:=by
 intro vs b k n e h hn hp
 unfold Zdp at h
 split at h
 ·cases h; obtain ⟨hp0,hp1,hp2,hp3,hq0⟩:=hp; obtain ⟨_,rfl⟩:=Zu hq0; simp only [Zi,Zp,Zj,Zq] at hp0 hp1 hp2 hp3 ⊢; exact (Zqm _ _ _ _ _ _ _ _ hp0 hp1 hp2 hp3).lift rfl _
 ·cases h
theorem Zqp (c n d a p f:Int) (l:List Int) (i:Int) (hl:l.length≤1000000) (hv:rsV ⟨c,⟨n,d,a,p,f⟩,l⟩=true) (hi:0≤i∧i≤65536):Spec Tryz.prog 0 174 [.agg [.d (.int .i64 c),.d (.int .i64 n),.d (.int .i64 d),.d (.int .i64 a),.d (.int .i64 p),.d (.int .i64 f),.d (.list (LI .i32 l))],vI .i64 i] [] [] (.tup [.agg [.int .i64 (poR ⟨c,⟨n,d,a,p,f⟩,l⟩ i).c,.int .i64 (poR ⟨c,⟨n,d,a,p,f⟩,l⟩ i).p.n,.int .i64 (poR ⟨c,⟨n,d,a,p,f⟩,l⟩ i).p.d,.int .i64 (poR ⟨c,⟨n,d,a,p,f⟩,l⟩ i).p.a,.int .i64 (poR ⟨c,⟨n,d,a,p,f⟩,l⟩ i).p.p,.int .i64 (poR ⟨c,⟨n,d,a,p,f⟩,l⟩ i).p.f,.list (LI .i32 (poR ⟨c,⟨n,d,a,p,f⟩,l⟩ i).l)],.int .i64 (poE ⟨c,⟨n,d,a,p,f⟩,l⟩ i)]) [] []:=by
 refine sE (md:=fun _=>0) (L:=[(229,Zjk),(100,ZaB)]) [] 131575 (Za Zvr (Za ZaH Zb)) Tryz.func174 rfl rfl rfl ?_
 simp (maxSteps:=1000000) only [↓Zo,Ze,Zd,Zn,gSt,gS0,Ya,Yb,↓reduceIte,reduceCtorEq,Yc,Yd,Ye,Yf,Yg,Yj,Yk,Yl,Ym,Yn,Zvq,ZV,Tryz.ntmps174,Tryz.results174,gTT]
 obtain ⟨⟨k1,k2⟩,k3,k4,k5⟩:=ZW (ZD hv).2 hl
 have hp:=(ZD hv).1
 simp only at k1 k2 hp k3
 refine ⟨fun h=>?_,fun h=>⟨by kernel_rfl,hl,?_⟩⟩
 ·have hne:adE ⟨n,d,a,p,f⟩ i≠0:=by simpa using h
  simp [poR,poE,hne,rs0,Zy]
 have he:adE ⟨n,d,a,p,f⟩ i=0:=by simpa using h
 obtain ⟨he0,hadP⟩:=ZoL he
 have hc:(c.toNat:Int)=c:=by omega
 have hi2:(i.toNat:Int)=i:=by omega
 have hq:=ZfT hp (g:=i.toNat) (by omega)
 rw [hi2] at hq
 have hpp:(adP ⟨n,d,a,p,f⟩ i).p - p=((qN ⟨n,d,a,p,f⟩ i.toNat:Nat):Int):=by rw [hadP,hq.1]; show p+_ - p=_; omega
 have hw:waN ⟨c,⟨n,d,a,p,f⟩,l⟩=((l.length / c.toNat:Nat):Int):=by unfold waN; rw [if_pos hv]
 have hgm:=ZmO (q:=qN ⟨n,d,a,p,f⟩ i.toNat) k3
 simp only at k4
 have hgone:IntKind.i64.wrap ((if waN ⟨c,⟨n,d,a,p,f⟩,l⟩ < IntKind.i64.wrap ((adP ⟨n,d,a,p,f⟩ i).p - p) then waN ⟨c,⟨n,d,a,p,f⟩,l⟩ else IntKind.i64.wrap ((adP ⟨n,d,a,p,f⟩ i).p - p))*c)=((min l.length (qN ⟨n,d,a,p,f⟩ i.toNat*c.toNat):Nat):Int):=by
  rw [hpp,hw,← hgm]
  generalize l.length / c.toNat=w at *
  rw [IntWalk.i64_in ((qN ⟨n,d,a,p,f⟩ i.toNat:Nat):Int) (by omega)]
  have e1:(if (w:Int) < ((qN ⟨n,d,a,p,f⟩ i.toNat:Nat):Int) then (w:Int) else ((qN ⟨n,d,a,p,f⟩ i.toNat:Nat):Int))=((min w (qN ⟨n,d,a,p,f⟩ i.toNat):Nat):Int):=by split <;> omega
  have e2:((min w (qN ⟨n,d,a,p,f⟩ i.toNat):Nat):Int)*c=((min w (qN ⟨n,d,a,p,f⟩ i.toNat)*c.toNat:Nat):Int):=by rw [Int.natCast_mul,hc]
  rw [e1,e2]
  exact IntWalk.i64_in _ (by omega)
 rw [hgone,Int.toNat_natCast]
 have htk:∀ m,List.take (l.length - m) (List.drop m l)=List.drop m l:=fun m=>List.take_of_length_le (by rw [List.length_drop]; omega)
 rw [htk]
 refine ⟨⟨by omega,by omega,by omega⟩,by unfold Zag; rw [List.length_drop]; omega,?_⟩
 simp [poR,poE,he]
def Zdq:List V→Zf→Zw→Name→Option Ent
 | [.agg [.d (.int .i64 c),.d (.int .i64 n),.d (.int .i64 d),.d (.int .i64 a),.d (.int .i64 p),.d (.int .i64 f),.d (.list q_l)],.c (.d (.int .i64 i))],[],[],_=>some ⟨(Zc q_l).length≤1000000∧rsV ⟨c,⟨n,d,a,p,f⟩,(Zc q_l)⟩=true∧(0≤i∧i≤65536)∧q_l=LI .i32 (Zc q_l),.tup [.agg [.int .i64 (poR ⟨c,⟨n,d,a,p,f⟩,(Zc q_l)⟩ i).c,.int .i64 (poR ⟨c,⟨n,d,a,p,f⟩,(Zc q_l)⟩ i).p.n,.int .i64 (poR ⟨c,⟨n,d,a,p,f⟩,(Zc q_l)⟩ i).p.d,.int .i64 (poR ⟨c,⟨n,d,a,p,f⟩,(Zc q_l)⟩ i).p.a,.int .i64 (poR ⟨c,⟨n,d,a,p,f⟩,(Zc q_l)⟩ i).p.p,.int .i64 (poR ⟨c,⟨n,d,a,p,f⟩,(Zc q_l)⟩ i).p.f,.list (LI .i32 (poR ⟨c,⟨n,d,a,p,f⟩,(Zc q_l)⟩ i).l)],.int .i64 (poE ⟨c,⟨n,d,a,p,f⟩,(Zc q_l)⟩ i)],[],[]⟩
 | _,_,_,_=>none
def ZcQ:=And.intro (@Zdq.eq_1) (@Zdq.eq_1)
theorem Zh3:Snd Tryz.prog 174 Zdq:=by
 intro vs b k n e h hn hp
 unfold Zdq at h
 split at h
 ·cases h; obtain ⟨hp0,hp1,hp2,hq0⟩:=hp; obtain ⟨_,rfl⟩:=Zu hq0; simp only [Zi,Zp,Zj,Zq] at hp0 hp1 hp2 ⊢; exact (Zqp _ _ _ _ _ _ _ _ hp0 hp1 hp2).lift rfl _
 ·cases h
end Go.Vam
end
section
set_option linter.unusedVariables false
set_option linter.defProp false
set_option linter.unusedSimpArgs false
set_option maxRecDepth 40000
set_option maxHeartbeats 4000000
namespace Go.Vam
open Go.Proofs
open Nat renaming reduceShiftRight→Ya,reduceMod→Yb,reduceEqDiff→Yc,reduceLT→Yd,reduceLeDiff→Ye,reduceAdd→Yf,reduceMul→Yg
open Int renaming reduceLE→Yj,reduceLT→Yk,reduceNeg→Yl,reduceAdd→Ym,reduceToNat→Yn
def rcE (x:Rs) (n:Int):Int:=if rsV x=false then 1 else if (decide (n < 0) || decide (65536 < n))=true then 2 else 0
theorem ZkD {x:Rs} {n:Int} (h:rcE x n=0):rsV x=true∧0≤n∧n≤65536:=by
 unfold rcE at h
 split at h
 ·cases h
 ·split at h
  ·cases h
  ·rename_i h1 h2
   simp only [Bool.or_eq_true,decide_eq_true_eq,not_or] at h2
   exact ⟨by simpa using h1,by omega,by omega⟩
theorem Zut {x:Rs} {n:Int} (h:rsV x=true) (hn:0≤n∧n≤65536):rcE x n=0:=by
 unfold rcE
 rw [if_neg (by rw [h]; decide),if_neg (by simp only [Bool.or_eq_true,decide_eq_true_eq]; omega)]
theorem ZFh {x:Rs} {n:Int} (h:rsV x=true):phC x.p n=rcE x n:=by
 have e1:phC x.p n=if (decide (n < 0) || decide (65536 < n))=true then 2 else 0:=by unfold phC; rw [if_neg (by rw [(ZD h).1]; decide)]
 have e2:rcE x n=if (decide (n < 0) || decide (65536 < n))=true then 2 else 0:=by unfold rcE; rw [if_neg (by rw [h]; decide)]
 rw [e1,e2]
def tkE (x:Rs) (n:Int):Int:=if rcE x n≠0 then rcE x n else if ((x.l.length / x.c.toNat:Nat):Int) < ned x.p n then 4 else poE x n
def tkC (x:Rs) (n:Int):Int:=if tkE x n=0 then x.c else 0
def tkO (x:Rs) (n:Int):List Int:=if tkE x n=0 then Zbo x n.toNat else []
def tkR (x:Rs) (n:Int):Rs:=if tkE x n=0 then poR x n else rs0
theorem Zr7 {p:Ph} (h:phV p=true) {n:Int} (hn:1≤n∧n≤65536):2≤ned p n:=by
 have:=Zbm h (n:=n - 1) (by omega)
 unfold ned
 rw [if_neg (by omega)]
 omega
def Zfo (x:Rs):Int:=((x.l.length / x.c.toNat:Nat):Int)*prt x.p - x.p.f
def cnt (x:Rs) (n:Int):Int:=if 0 < Zfo x then min n ((Zfo x+stp x.p - 1) / stp x.p) else 0
theorem ZzJ {x:Rs} (hv:rsV x=true) (hl:x.l.length≤1000000):-50331648000≤Zfo x∧Zfo x≤3400000000000000:=by
 obtain ⟨⟨k1,k2⟩,k3,k4,k5⟩:=ZW (ZD hv).2 hl
 have hp:=Zbw (ZD hv).1
 have hpr:=ZcG (ZD hv).1
 have hb:=ZE4 (x:=((x.l.length / x.c.toNat:Nat):Int)) (y:=prt x.p) (A:=65536) (B:=50331648000) (Int.natCast_nonneg _) (Int.ofNat_le.2 k4) (by omega) hpr.2
 unfold Zfo
 generalize ((x.l.length / x.c.toNat:Nat):Int)*prt x.p=m at *
 omega
theorem Zj5 {x:Rs} (hv:rsV x=true) (hl:x.l.length≤1000000) {n:Int} (hn:0≤n):0≤cnt x n∧cnt x n≤n∧(0 < cnt x n→0 < x.l.length):=by
 have h1:=ZzJ hv hl
 have h2:=Zfx (ZD hv).1
 have hp:=Zbw (ZD hv).1
 unfold cnt
 split
 ·rename_i h
  have:0≤(Zfo x+stp x.p - 1) / stp x.p:=Int.ediv_nonneg (by omega) (by omega)
  refine ⟨by omega,by omega,fun _=>?_⟩
  rcases Nat.eq_zero_or_pos x.l.length with h0 | h0
  ·unfold Zfo at h
   rw [h0,Nat.zero_div] at h
   simp at h
   omega
  ·exact h0
 ·exact ⟨Int.le_refl _,hn,fun h=>by omega⟩
theorem ZEC {x:Rs} (hv:rsV x=true) {n:Int} {k:Nat} (hk:(k:Int) < n):qAt x.p k < ((x.l.length / x.c.toNat:Nat):Int)↔(k:Int) < cnt x n:=by
 have hp:=Zbw (ZD hv).1
 have hpr:=ZcG (ZD hv).1
 have hs:=Zfx (ZD hv).1
 have e1:qAt x.p k < ((x.l.length / x.c.toNat:Nat):Int)↔(k:Int)*stp x.p < Zfo x:=by
  unfold qAt Zfo ahd
  rw [Int.ediv_lt_iff_lt_mul (by omega)]
  constructor <;> intro h <;> omega
 rw [e1]
 unfold cnt
 split
 ·rename_i h
  have e2:(k:Int) < (Zfo x+stp x.p - 1) / stp x.p↔(k:Int)*stp x.p < Zfo x:=by
   rw [Int.lt_iff_add_one_le,Int.le_ediv_iff_mul_le (by omega),Int.add_mul,Int.one_mul]
   constructor <;> intro h <;> omega
  rw [← e2]
  omega
 ·rename_i h
  have:0≤(k:Int)*stp x.p:=Int.mul_nonneg (by omega) (by omega)
  constructor <;> intro h <;> omega
def fiE (x:Rs) (n:Int):Int:=if rcE x n≠0 then rcE x n else poE x (cnt x n)
def fiC (x:Rs) (n:Int):Int:=if fiE x n=0 then x.c else 0
def fiO (x:Rs) (n:Int):List Int:=if fiE x n=0 then Zbo x (cnt x n).toNat else []
def fiR (x:Rs) (n:Int):Rs:=if fiE x n=0 then poR x (cnt x n) else rs0
def cvN (x:Rs) (k:Int) (y:List Int):Int:=((mkN (feR x k y).p (((feR x k y).l.length / (feR x k y).c.toNat:Nat):Int):Nat):Int)
def cvE (x:Rs) (k:Int) (y:List Int):Int:=if feE x k y≠0 then feE x k y else tkE (feR x k y) (cvN x k y)
def cvC (x:Rs) (k:Int) (y:List Int):Int:=if cvE x k y=0 then x.c else 0
def cvO (x:Rs) (k:Int) (y:List Int):List Int:=if cvE x k y=0 then Zbo (feR x k y) (cvN x k y).toNat else []
def cvR (x:Rs) (k:Int) (y:List Int):Rs:=if cvE x k y=0 then poR (feR x k y) (cvN x k y) else rs0
theorem Zo9 {x:Rs} {k:Int} {y:List Int} (h:feE x k y=0) (hl:x.l.length≤1000000) (hy:y.length≤1000000):feR x k y={ x with l:=x.l++y}∧rsV (feR x k y)=true∧(feR x k y).l.length≤600000:=by
 obtain ⟨h1,h2,h3,h4⟩:=ZGk h
 obtain ⟨⟨k1,k2⟩,k3,k4,k5⟩:=ZW (ZD h1).2 hl
 rw [h3] at h2
 obtain ⟨_,m3,m4,m5⟩:=ZW h2 hy
 have e:feR x k y={ x with l:=x.l++y}:=by unfold feR; rw [if_pos h]
 have hlen:(x.l++y).length=(x.l.length / x.c.toNat+y.length / x.c.toNat)*x.c.toNat:=by rw [List.length_append,Nat.add_mul]; omega
 have hdv:(x.l.length+y.length) / x.c.toNat=x.l.length / x.c.toNat+y.length / x.c.toNat:=by
  rw [← List.length_append,hlen,Nat.mul_div_cancel _ (by omega)]
 have hz:x.l.length / x.c.toNat+y.length / x.c.toNat≤65536:=by omega
 have hb:=Nat.mul_le_mul hz (show x.c.toNat≤8 by omega)
 rw [e]
 refine ⟨rfl,?_,by show (x.l++y).length≤_; omega⟩
 unfold rsV
 rw [(ZD h1).1,Bool.true_and]
 exact Zbg ⟨k1,k2⟩ hlen hz (by rw [List.all_append,k5,m5]; rfl)
theorem Zqs (c n d a p f:Int) (l:List Int) (i:Int) (hl:l.length≤1000000):Spec Tryz.prog 0 163 [.agg [.d (.int .i64 c),.d (.int .i64 n),.d (.int .i64 d),.d (.int .i64 a),.d (.int .i64 p),.d (.int .i64 f),.d (.list (LI .i32 l))],vI .i64 i] [] [] (vI .i64 (rcE ⟨c,⟨n,d,a,p,f⟩,l⟩ i)) [] []:=by
 refine sE (md:=fun _=>0) (L:=[(123,Zbk)]) [] 567 (Za Zbv Zb) Tryz.func163 rfl rfl rfl ?_
 simp (maxSteps:=1000000) only [↓Zo,Ze,Zd,Zn,gSt,gS0,Ya,Yb,↓reduceIte,reduceCtorEq,Yc,Yd,Ye,Yf,Yg,Yj,Yk,Yl,Ym,Yn,Zbu,Tryz.ntmps163,Tryz.results163,gTT]
 refine ⟨hl,fun h=>by unfold rcE; rw [if_pos h],fun h=>?_⟩
 have hv:rsV ⟨c,⟨n,d,a,p,f⟩,l⟩=true:=by simpa using h
 exact ⟨fun h2=>by unfold rcE; rw [if_neg (by rw [hv]; decide),if_pos h2],fun h2=>by unfold rcE; rw [if_neg (by rw [hv]; decide),if_neg (by rw [h2]; decide)]⟩
def Zb8:List V→Zf→Zw→Name→Option Ent
 | [.agg [.d (.int .i64 c),.d (.int .i64 n),.d (.int .i64 d),.d (.int .i64 a),.d (.int .i64 p),.d (.int .i64 f),.d (.list q_l)],.c (.d (.int .i64 i))],[],[],_=>some ⟨(Zc q_l).length≤1000000∧q_l=LI .i32 (Zc q_l),vI .i64 (rcE ⟨c,⟨n,d,a,p,f⟩,(Zc q_l)⟩ i),[],[]⟩
 | _,_,_,_=>none
def ZcS:=And.intro (@Zb8.eq_1) (@Zb8.eq_1)
theorem ZcT:Snd Tryz.prog 163 Zb8:=by
 intro vs b k n e h hn hp
 unfold Zb8 at h
 split at h
 ·cases h; obtain ⟨hp0,hq0⟩:=hp; obtain ⟨_,rfl⟩:=Zu hq0; simp only [Zi,Zp,Zj,Zq] at hp0 ⊢; exact (Zqs _ _ _ _ _ _ _ _ hp0).lift rfl _
 ·cases h
theorem ZBc (c n d a p f:Int) (l:List Int) (i:Int) (hl:l.length≤1000000):Spec Tryz.prog 0 92 [.agg [.d (.int .i64 c),.d (.int .i64 n),.d (.int .i64 d),.d (.int .i64 a),.d (.int .i64 p),.d (.int .i64 f),.d (.list (LI .i32 l))],vI .i64 i] [] [] (.tup [.agg [.int .i64 (tkC ⟨c,⟨n,d,a,p,f⟩,l⟩ i),.list (LI .i32 (tkO ⟨c,⟨n,d,a,p,f⟩,l⟩ i))],.agg [.int .i64 (tkR ⟨c,⟨n,d,a,p,f⟩,l⟩ i).c,.int .i64 (tkR ⟨c,⟨n,d,a,p,f⟩,l⟩ i).p.n,.int .i64 (tkR ⟨c,⟨n,d,a,p,f⟩,l⟩ i).p.d,.int .i64 (tkR ⟨c,⟨n,d,a,p,f⟩,l⟩ i).p.a,.int .i64 (tkR ⟨c,⟨n,d,a,p,f⟩,l⟩ i).p.p,.int .i64 (tkR ⟨c,⟨n,d,a,p,f⟩,l⟩ i).p.f,.list (LI .i32 (tkR ⟨c,⟨n,d,a,p,f⟩,l⟩ i).l)],.int .i64 (tkE ⟨c,⟨n,d,a,p,f⟩,l⟩ i)]) [] []:=by
 refine sE (md:=fun _=>0) (L:=[(163,Zb8),(90,Zhn),(164,Zdk)]) [] 4294984183 (Za ZcT (Za Zln (Za ZhX Zb))) Tryz.func92 rfl rfl rfl ?_
 simp (maxSteps:=1000000) only [↓Zo,Ze,Zd,Zn,gSt,gS0,Ya,Yb,↓reduceIte,reduceCtorEq,Yc,Yd,Ye,Yf,Yg,Yj,Yk,Yl,Ym,Yn,ZcS,Zlm,ZhW,Tryz.ntmps92,Tryz.results92,gTT]
 refine ⟨hl,fun h=>?_,fun h=>?_⟩
 ·have hne:rcE ⟨c,⟨n,d,a,p,f⟩,l⟩ i≠0:=by simpa using h
  have e:tkE ⟨c,⟨n,d,a,p,f⟩,l⟩ i=rcE ⟨c,⟨n,d,a,p,f⟩,l⟩ i:=by unfold tkE; rw [if_pos hne]
  simp [tkC,tkO,tkR,e,hne,rs0,Zy]
 have he:rcE ⟨c,⟨n,d,a,p,f⟩,l⟩ i=0:=by simpa using h
 obtain ⟨hv,hi⟩:=ZkD he
 obtain ⟨⟨k1,k2⟩,k3,k4,k5⟩:=ZW (ZD hv).2 hl
 have hp:=(ZD hv).1
 simp only at k1 k2 hp k3
 have hN:neE ⟨n,d,a,p,f⟩ i=ned ⟨n,d,a,p,f⟩ i:=by unfold neE; rw [if_pos (ZgY hp hi)]
 rw [Zc3 k1 (by omega),hN]
 refine ⟨by omega,fun h2=>?_,fun h2=>?_⟩
 ·have e:tkE ⟨c,⟨n,d,a,p,f⟩,l⟩ i=4:=by unfold tkE; rw [if_neg (by rw [he]; decide),if_pos (of_decide_eq_true h2)]
  simp [tkC,tkO,tkR,e,rs0,Zy]
 have e:tkE ⟨c,⟨n,d,a,p,f⟩,l⟩ i=poE ⟨c,⟨n,d,a,p,f⟩,l⟩ i:=by unfold tkE; rw [if_neg (by rw [he]; decide),if_neg (of_decide_eq_false h2)]
 have hne:0 < i→0 < l.length:=fun h0=>by
  have h3:=Zr7 hp (n:=i) (by omega)
  have h4:=of_decide_eq_false h2
  rcases Nat.eq_zero_or_pos l.length with h5 | h5
  ·rw [h5,Nat.zero_div] at h4; simp at h4; omega
  ·exact h5
 refine ⟨⟨hl,hv,hi,hne⟩,?_⟩
 by_cases h6:poE ⟨c,⟨n,d,a,p,f⟩,l⟩ i=0
 ·simp [tkC,tkO,tkR,e,h6,poC,poO]
 ·simp [tkC,tkO,tkR,e,h6,poC,poO,poR]
def ZjG:List V→Zf→Zw→Name→Option Ent
 | [.agg [.d (.int .i64 c),.d (.int .i64 n),.d (.int .i64 d),.d (.int .i64 a),.d (.int .i64 p),.d (.int .i64 f),.d (.list q_l)],.c (.d (.int .i64 i))],[],[],_=>some ⟨(Zc q_l).length≤1000000∧q_l=LI .i32 (Zc q_l),.tup [.agg [.int .i64 (tkC ⟨c,⟨n,d,a,p,f⟩,(Zc q_l)⟩ i),.list (LI .i32 (tkO ⟨c,⟨n,d,a,p,f⟩,(Zc q_l)⟩ i))],.agg [.int .i64 (tkR ⟨c,⟨n,d,a,p,f⟩,(Zc q_l)⟩ i).c,.int .i64 (tkR ⟨c,⟨n,d,a,p,f⟩,(Zc q_l)⟩ i).p.n,.int .i64 (tkR ⟨c,⟨n,d,a,p,f⟩,(Zc q_l)⟩ i).p.d,.int .i64 (tkR ⟨c,⟨n,d,a,p,f⟩,(Zc q_l)⟩ i).p.a,.int .i64 (tkR ⟨c,⟨n,d,a,p,f⟩,(Zc q_l)⟩ i).p.p,.int .i64 (tkR ⟨c,⟨n,d,a,p,f⟩,(Zc q_l)⟩ i).p.f,.list (LI .i32 (tkR ⟨c,⟨n,d,a,p,f⟩,(Zc q_l)⟩ i).l)],.int .i64 (tkE ⟨c,⟨n,d,a,p,f⟩,(Zc q_l)⟩ i)],[],[]⟩
 | _,_,_,_=>none
def ZjH:=And.intro (@ZjG.eq_1) (@ZjG.eq_1)
theorem ZjI:Snd Tryz.prog 92 ZjG:=by
 intro vs b k n e h hn hp
 unfold ZjG at h
 split at h
 ·cases h; obtain ⟨hp0,hq0⟩:=hp; obtain ⟨_,rfl⟩:=Zu hq0; simp only [Zi,Zp,Zj,Zq] at hp0 ⊢; exact (ZBc _ _ _ _ _ _ _ _ hp0).lift rfl _
 ·cases h
theorem Zw5 (c n d a p f:Int) (l:List Int) (i:Int) (hl:l.length≤1000000):Spec Tryz.prog 0 101 [.agg [.d (.int .i64 c),.d (.int .i64 n),.d (.int .i64 d),.d (.int .i64 a),.d (.int .i64 p),.d (.int .i64 f),.d (.list (LI .i32 l))],vI .i64 i] [] [] (.tup [.agg [.int .i64 (tkC ⟨c,⟨n,d,a,p,f⟩,l⟩ i),.list (LI .i32 (tkO ⟨c,⟨n,d,a,p,f⟩,l⟩ i))],.agg [.int .i64 (tkR ⟨c,⟨n,d,a,p,f⟩,l⟩ i).c,.int .i64 (tkR ⟨c,⟨n,d,a,p,f⟩,l⟩ i).p.n,.int .i64 (tkR ⟨c,⟨n,d,a,p,f⟩,l⟩ i).p.d,.int .i64 (tkR ⟨c,⟨n,d,a,p,f⟩,l⟩ i).p.a,.int .i64 (tkR ⟨c,⟨n,d,a,p,f⟩,l⟩ i).p.p,.int .i64 (tkR ⟨c,⟨n,d,a,p,f⟩,l⟩ i).p.f,.list (LI .i32 (tkR ⟨c,⟨n,d,a,p,f⟩,l⟩ i).l)],.int .i64 (tkE ⟨c,⟨n,d,a,p,f⟩,l⟩ i)]) [] []:=by
 refine sE (md:=fun _=>0) (L:=[(97,ZaO),(173,Zff),(100,ZaB),(174,Zdq),(175,Zdp)]) [] 1100593763319 (Za Zbd (Za Zjl (Za ZaH (Za Zh3 (Za Zh2 Zb))))) Tryz.func101 rfl rfl rfl ?_
 simp (maxSteps:=1000000) only [↓Zo,Ze,Zd,Zn,gSt,gS0,Ya,Yb,↓reduceIte,reduceCtorEq,Yc,Yd,Ye,Yf,Yg,Yj,Yk,Yl,Ym,Yn,Zaq,ZdP,ZV,ZcQ,ZcP,Tryz.ntmps101,Tryz.results101,gTT]
 refine ⟨hl,fun h=>?_,fun h=>?_⟩
 ·have e:tkE ⟨c,⟨n,d,a,p,f⟩,l⟩ i=1:=by simp [tkE,rcE,h]
  simp [tkC,tkO,tkR,e,rs0,Zy]
 have hv:rsV ⟨c,⟨n,d,a,p,f⟩,l⟩=true:=by simpa using h
 have hpc:=ZFh (n:=i) hv
 simp only at hpc
 rw [hpc]
 refine ⟨fun h2=>?_,fun h2=>⟨hl,fun h3=>?_,fun h3=>?_⟩⟩
 ·have hne:rcE ⟨c,⟨n,d,a,p,f⟩,l⟩ i≠0:=by simpa using h2
  have e:tkE ⟨c,⟨n,d,a,p,f⟩,l⟩ i=rcE ⟨c,⟨n,d,a,p,f⟩,l⟩ i:=by unfold tkE; rw [if_pos hne]
  simp [tkC,tkO,tkR,e,hne,rs0,Zy]
 all_goals
  have he:rcE ⟨c,⟨n,d,a,p,f⟩,l⟩ i=0:=by simpa using h2
  obtain ⟨_,hi⟩:=ZkD he
  have hp:=(ZD hv).1
  simp only at hp
  have hN:neE ⟨n,d,a,p,f⟩ i=ned ⟨n,d,a,p,f⟩ i:=by unfold neE; rw [if_pos (ZgY hp hi)]
  have hW:waN ⟨c,⟨n,d,a,p,f⟩,l⟩=((l.length / c.toNat:Nat):Int):=by unfold waN; rw [if_pos hv]
  rw [hW,hN] at h3
 ·have e:tkE ⟨c,⟨n,d,a,p,f⟩,l⟩ i=4:=by unfold tkE; rw [if_neg (by rw [he]; decide),if_pos (of_decide_eq_true h3)]
  simp [tkC,tkO,tkR,e,rs0,Zy]
 have e:tkE ⟨c,⟨n,d,a,p,f⟩,l⟩ i=poE ⟨c,⟨n,d,a,p,f⟩,l⟩ i:=by unfold tkE; rw [if_neg (by rw [he]; decide),if_neg (of_decide_eq_false h3)]
 have hne:0 < i→0 < l.length:=fun h0=>by
  have h3':=Zr7 hp (n:=i) (by omega)
  have h4:=of_decide_eq_false h3
  rcases Nat.eq_zero_or_pos l.length with h5 | h5
  ·rw [h5,Nat.zero_div] at h4; simp at h4; omega
  ·exact h5
 refine ⟨⟨hl,hv,hi⟩,fun h6=>?_,fun h6=>⟨by kernel_rfl,⟨hl,hv,hi,hne⟩,?_⟩⟩
 ·have h7:poE ⟨c,⟨n,d,a,p,f⟩,l⟩ i≠0:=by simpa using h6
  simp [tkC,tkO,tkR,e,h7,rs0,Zy]
 ·have h7:poE ⟨c,⟨n,d,a,p,f⟩,l⟩ i=0:=by simpa using h6
  simp [tkC,tkO,tkR,e,h7]
def ZeJ:List V→Zf→Zw→Name→Option Ent
 | [.agg [.d (.int .i64 c),.d (.int .i64 n),.d (.int .i64 d),.d (.int .i64 a),.d (.int .i64 p),.d (.int .i64 f),.d (.list q_l)],.c (.d (.int .i64 i))],[],[],_=>some ⟨(Zc q_l).length≤1000000∧q_l=LI .i32 (Zc q_l),.tup [.agg [.int .i64 (tkC ⟨c,⟨n,d,a,p,f⟩,(Zc q_l)⟩ i),.list (LI .i32 (tkO ⟨c,⟨n,d,a,p,f⟩,(Zc q_l)⟩ i))],.agg [.int .i64 (tkR ⟨c,⟨n,d,a,p,f⟩,(Zc q_l)⟩ i).c,.int .i64 (tkR ⟨c,⟨n,d,a,p,f⟩,(Zc q_l)⟩ i).p.n,.int .i64 (tkR ⟨c,⟨n,d,a,p,f⟩,(Zc q_l)⟩ i).p.d,.int .i64 (tkR ⟨c,⟨n,d,a,p,f⟩,(Zc q_l)⟩ i).p.a,.int .i64 (tkR ⟨c,⟨n,d,a,p,f⟩,(Zc q_l)⟩ i).p.p,.int .i64 (tkR ⟨c,⟨n,d,a,p,f⟩,(Zc q_l)⟩ i).p.f,.list (LI .i32 (tkR ⟨c,⟨n,d,a,p,f⟩,(Zc q_l)⟩ i).l)],.int .i64 (tkE ⟨c,⟨n,d,a,p,f⟩,(Zc q_l)⟩ i)],[],[]⟩
 | _,_,_,_=>none
def Zfh:=And.intro (@ZeJ.eq_1) (@ZeJ.eq_1)
theorem Zfi:Snd Tryz.prog 101 ZeJ:=by
 intro vs b k n e h hn hp
 unfold ZeJ at h
 split at h
 ·cases h; obtain ⟨hp0,hq0⟩:=hp; obtain ⟨_,rfl⟩:=Zu hq0; simp only [Zi,Zp,Zj,Zq] at hp0 ⊢; exact (Zw5 _ _ _ _ _ _ _ _ hp0).lift rfl _
 ·cases h
theorem Zsx (c n d a p f:Int) (l:List Int) (i:Int) (hl:l.length≤1000000):Spec Tryz.prog 0 93 [.agg [.d (.int .i64 c),.d (.int .i64 n),.d (.int .i64 d),.d (.int .i64 a),.d (.int .i64 p),.d (.int .i64 f),.d (.list (LI .i32 l))],vI .i64 i] [] [] (.tup [.agg [.int .i64 (fiC ⟨c,⟨n,d,a,p,f⟩,l⟩ i),.list (LI .i32 (fiO ⟨c,⟨n,d,a,p,f⟩,l⟩ i))],.agg [.int .i64 (fiR ⟨c,⟨n,d,a,p,f⟩,l⟩ i).c,.int .i64 (fiR ⟨c,⟨n,d,a,p,f⟩,l⟩ i).p.n,.int .i64 (fiR ⟨c,⟨n,d,a,p,f⟩,l⟩ i).p.d,.int .i64 (fiR ⟨c,⟨n,d,a,p,f⟩,l⟩ i).p.a,.int .i64 (fiR ⟨c,⟨n,d,a,p,f⟩,l⟩ i).p.p,.int .i64 (fiR ⟨c,⟨n,d,a,p,f⟩,l⟩ i).p.f,.list (LI .i32 (fiR ⟨c,⟨n,d,a,p,f⟩,l⟩ i).l)],.int .i64 (fiE ⟨c,⟨n,d,a,p,f⟩,l⟩ i)]) [] []:=by
 refine sE (md:=fun _=>0) (L:=[(163,Zb8),(164,Zdk)]) [(6,[0,0,0,0,0,210556476788727,0,0,0,0,0,175921860513783,0])] 140737488424951 (Za ZcT (Za ZhX Zb)) Tryz.func93 rfl rfl rfl ?_
 simp (maxSteps:=1000000) only [↓Zo,Ze,Zd,Zn,gSt,gS0,Ya,Yb,↓reduceIte,reduceCtorEq,Yc,Yd,Ye,Yf,Yg,Yj,Yk,Yl,Ym,Yn,ZcS,ZhW,Tryz.ntmps93,Tryz.results93,gTT]
 refine ⟨hl,fun h=>?_,fun h=>⟨by kernel_rfl,?_⟩⟩
 ·have hne:rcE ⟨c,⟨n,d,a,p,f⟩,l⟩ i≠0:=by simpa using h
  have e:fiE ⟨c,⟨n,d,a,p,f⟩,l⟩ i=rcE ⟨c,⟨n,d,a,p,f⟩,l⟩ i:=by unfold fiE; rw [if_pos hne]
  simp [fiC,fiO,fiR,e,hne,rs0,Zy]
 have he:rcE ⟨c,⟨n,d,a,p,f⟩,l⟩ i=0:=by simpa using h
 obtain ⟨hv,hi⟩:=ZkD he
 obtain ⟨⟨k1,k2⟩,k3,k4,k5⟩:=ZW (ZD hv).2 hl
 have hp:=(ZD hv).1
 simp only at k1 k2 hp k3 k4
 have hpi:=Zbw hp
 simp only at hpi
 have hpr:=ZcG hp
 have hst:=Zfx hp
 have hlf:=ZzJ hv hl
 have hct:=Zj5 hv hl hi.1
 have hP:IntKind.i64.wrap (d*65536)=prt ⟨n,d,a,p,f⟩:=rfl
 have hS:IntKind.i64.wrap (n*IntKind.i64.wrap (65536+a))=stp ⟨n,d,a,p,f⟩:=rfl
 have hL:IntKind.i64.wrap (IntKind.i64.wrap (IntKind.i64.wrap ((l.length:Int).tdiv c)*prt ⟨n,d,a,p,f⟩) - f)=Zfo ⟨c,⟨n,d,a,p,f⟩,l⟩:=by
  have e1:Zfo ⟨c,⟨n,d,a,p,f⟩,l⟩=((l.length / c.toNat:Nat):Int)*prt ⟨n,d,a,p,f⟩ - f:=rfl
  rw [e1] at hlf
  rw [Zc3 k1 (by omega),e1]
  generalize ((l.length / c.toNat:Nat):Int)*prt ⟨n,d,a,p,f⟩=m at *
  rw [IntWalk.i64_in m (by omega),IntWalk.i64_in (m - f) (by omega)]
 rw [hP,hS,hL]
 have e:fiE ⟨c,⟨n,d,a,p,f⟩,l⟩ i=poE ⟨c,⟨n,d,a,p,f⟩,l⟩ (cnt ⟨c,⟨n,d,a,p,f⟩,l⟩ i):=by unfold fiE; rw [if_neg (by rw [he]; decide)]
 have hfin:([D.agg [D.int .i64 (fiC ⟨c,⟨n,d,a,p,f⟩,l⟩ i),D.list (LI .i32 (fiO ⟨c,⟨n,d,a,p,f⟩,l⟩ i))],D.agg [D.int .i64 (fiR ⟨c,⟨n,d,a,p,f⟩,l⟩ i).c,D.int .i64 (fiR ⟨c,⟨n,d,a,p,f⟩,l⟩ i).p.n,D.int .i64 (fiR ⟨c,⟨n,d,a,p,f⟩,l⟩ i).p.d,D.int .i64 (fiR ⟨c,⟨n,d,a,p,f⟩,l⟩ i).p.a,D.int .i64 (fiR ⟨c,⟨n,d,a,p,f⟩,l⟩ i).p.p,D.int .i64 (fiR ⟨c,⟨n,d,a,p,f⟩,l⟩ i).p.f,D.list (LI .i32 (fiR ⟨c,⟨n,d,a,p,f⟩,l⟩ i).l)],D.int .i64 (fiE ⟨c,⟨n,d,a,p,f⟩,l⟩ i)]:List D) =
   [D.agg [D.int .i64 (poC ⟨c,⟨n,d,a,p,f⟩,l⟩ (cnt ⟨c,⟨n,d,a,p,f⟩,l⟩ i)),D.list (LI .i32 (poO ⟨c,⟨n,d,a,p,f⟩,l⟩ (cnt ⟨c,⟨n,d,a,p,f⟩,l⟩ i)))],D.agg [D.int .i64 (poR ⟨c,⟨n,d,a,p,f⟩,l⟩ (cnt ⟨c,⟨n,d,a,p,f⟩,l⟩ i)).c,D.int .i64 (poR ⟨c,⟨n,d,a,p,f⟩,l⟩ (cnt ⟨c,⟨n,d,a,p,f⟩,l⟩ i)).p.n,D.int .i64 (poR ⟨c,⟨n,d,a,p,f⟩,l⟩ (cnt ⟨c,⟨n,d,a,p,f⟩,l⟩ i)).p.d,D.int .i64 (poR ⟨c,⟨n,d,a,p,f⟩,l⟩ (cnt ⟨c,⟨n,d,a,p,f⟩,l⟩ i)).p.a,D.int .i64 (poR ⟨c,⟨n,d,a,p,f⟩,l⟩ (cnt ⟨c,⟨n,d,a,p,f⟩,l⟩ i)).p.p,D.int .i64 (poR ⟨c,⟨n,d,a,p,f⟩,l⟩ (cnt ⟨c,⟨n,d,a,p,f⟩,l⟩ i)).p.f,D.list (LI .i32 (poR ⟨c,⟨n,d,a,p,f⟩,l⟩ (cnt ⟨c,⟨n,d,a,p,f⟩,l⟩ i)).l)],D.int .i64 (poE ⟨c,⟨n,d,a,p,f⟩,l⟩ (cnt ⟨c,⟨n,d,a,p,f⟩,l⟩ i))]:=by
  by_cases h6:poE ⟨c,⟨n,d,a,p,f⟩,l⟩ (cnt ⟨c,⟨n,d,a,p,f⟩,l⟩ i)=0
  ·simp [fiC,fiO,fiR,e,h6,poC,poO]
  ·simp [fiC,fiO,fiR,e,h6,poC,poO,poR]
 rw [hfin]
 refine ⟨by omega,fun h2=>?_,fun h2=>?_⟩
 ·have h3:=of_decide_eq_true h2
  have hcn:(if IntKind.i64.wrap ((IntKind.i64.wrap (IntKind.i64.wrap (Zfo ⟨c,⟨n,d,a,p,f⟩,l⟩+stp ⟨n,d,a,p,f⟩) - 1)).tdiv (stp ⟨n,d,a,p,f⟩)) < i then IntKind.i64.wrap ((IntKind.i64.wrap (IntKind.i64.wrap (Zfo ⟨c,⟨n,d,a,p,f⟩,l⟩+stp ⟨n,d,a,p,f⟩) - 1)).tdiv (stp ⟨n,d,a,p,f⟩)) else i)=cnt ⟨c,⟨n,d,a,p,f⟩,l⟩ i:=by
   have e1:cnt ⟨c,⟨n,d,a,p,f⟩,l⟩ i=min i ((Zfo ⟨c,⟨n,d,a,p,f⟩,l⟩+stp ⟨n,d,a,p,f⟩ - 1) / stp ⟨n,d,a,p,f⟩):=by unfold cnt; rw [if_pos h3]
   rw [e1,IntWalk.i64_in (Zfo ⟨c,⟨n,d,a,p,f⟩,l⟩+stp ⟨n,d,a,p,f⟩) (by omega),IntWalk.i64_in (Zfo ⟨c,⟨n,d,a,p,f⟩,l⟩+stp ⟨n,d,a,p,f⟩ - 1) (by omega),Int.tdiv_eq_ediv_of_nonneg (by omega)]
   have h4:0≤(Zfo ⟨c,⟨n,d,a,p,f⟩,l⟩+stp ⟨n,d,a,p,f⟩ - 1) / stp ⟨n,d,a,p,f⟩:=Int.ediv_nonneg (by omega) (by omega)
   have h5:(Zfo ⟨c,⟨n,d,a,p,f⟩,l⟩+stp ⟨n,d,a,p,f⟩ - 1) / stp ⟨n,d,a,p,f⟩≤Zfo ⟨c,⟨n,d,a,p,f⟩,l⟩+stp ⟨n,d,a,p,f⟩ - 1:=Int.ediv_le_self _ (by omega)
   generalize (Zfo ⟨c,⟨n,d,a,p,f⟩,l⟩+stp ⟨n,d,a,p,f⟩ - 1) / stp ⟨n,d,a,p,f⟩=q at *
   rw [IntWalk.i64_in q (by omega)]
   split <;> omega
  rw [hcn]
  exact ⟨by omega,⟨hl,hv,⟨hct.1,by omega⟩,hct.2.2⟩,rfl⟩
 ·have e1:cnt ⟨c,⟨n,d,a,p,f⟩,l⟩ i=0:=by unfold cnt; rw [if_neg (of_decide_eq_false h2)]
  rw [e1]
  exact ⟨⟨hl,hv⟩,rfl⟩
def Zfa:List V→Zf→Zw→Name→Option Ent
 | [.agg [.d (.int .i64 c),.d (.int .i64 n),.d (.int .i64 d),.d (.int .i64 a),.d (.int .i64 p),.d (.int .i64 f),.d (.list q_l)],.c (.d (.int .i64 i))],[],[],_=>some ⟨(Zc q_l).length≤1000000∧q_l=LI .i32 (Zc q_l),.tup [.agg [.int .i64 (fiC ⟨c,⟨n,d,a,p,f⟩,(Zc q_l)⟩ i),.list (LI .i32 (fiO ⟨c,⟨n,d,a,p,f⟩,(Zc q_l)⟩ i))],.agg [.int .i64 (fiR ⟨c,⟨n,d,a,p,f⟩,(Zc q_l)⟩ i).c,.int .i64 (fiR ⟨c,⟨n,d,a,p,f⟩,(Zc q_l)⟩ i).p.n,.int .i64 (fiR ⟨c,⟨n,d,a,p,f⟩,(Zc q_l)⟩ i).p.d,.int .i64 (fiR ⟨c,⟨n,d,a,p,f⟩,(Zc q_l)⟩ i).p.a,.int .i64 (fiR ⟨c,⟨n,d,a,p,f⟩,(Zc q_l)⟩ i).p.p,.int .i64 (fiR ⟨c,⟨n,d,a,p,f⟩,(Zc q_l)⟩ i).p.f,.list (LI .i32 (fiR ⟨c,⟨n,d,a,p,f⟩,(Zc q_l)⟩ i).l)],.int .i64 (fiE ⟨c,⟨n,d,a,p,f⟩,(Zc q_l)⟩ i)],[],[]⟩
 | _,_,_,_=>none
def Zi0:=And.intro (@Zfa.eq_1) (@Zfa.eq_1)
theorem Zi1:Snd Tryz.prog 93 Zfa:=by
 intro vs b k n e h hn hp
 unfold Zfa at h
 split at h
 ·cases h; obtain ⟨hp0,hq0⟩:=hp; obtain ⟨_,rfl⟩:=Zu hq0; simp only [Zi,Zp,Zj,Zq] at hp0 ⊢; exact (Zsx _ _ _ _ _ _ _ _ hp0).lift rfl _
 ·cases h
theorem Zql (c n d a p f:Int) (l:List Int) (i:Int) (hl:l.length≤1000000):Spec Tryz.prog 0 209 [.agg [.d (.int .i64 c),.d (.int .i64 n),.d (.int .i64 d),.d (.int .i64 a),.d (.int .i64 p),.d (.int .i64 f),.d (.list (LI .i32 l))],vI .i64 i] [] [] (.tup [.agg [.int .i64 (fiC ⟨c,⟨n,d,a,p,f⟩,l⟩ i),.list (LI .i32 (fiO ⟨c,⟨n,d,a,p,f⟩,l⟩ i))],.agg [.int .i64 (fiR ⟨c,⟨n,d,a,p,f⟩,l⟩ i).c,.int .i64 (fiR ⟨c,⟨n,d,a,p,f⟩,l⟩ i).p.n,.int .i64 (fiR ⟨c,⟨n,d,a,p,f⟩,l⟩ i).p.d,.int .i64 (fiR ⟨c,⟨n,d,a,p,f⟩,l⟩ i).p.a,.int .i64 (fiR ⟨c,⟨n,d,a,p,f⟩,l⟩ i).p.p,.int .i64 (fiR ⟨c,⟨n,d,a,p,f⟩,l⟩ i).p.f,.list (LI .i32 (fiR ⟨c,⟨n,d,a,p,f⟩,l⟩ i).l)],.int .i64 (fiE ⟨c,⟨n,d,a,p,f⟩,l⟩ i)]) [] []:=by
 refine sE (md:=fun _=>0) (L:=[(97,ZaO),(100,ZaB),(228,Zh4),(174,Zdq),(175,Zdp)]) [] 72127964946445303 (Za Zbd (Za ZaH (Za Zgz (Za Zh3 (Za Zh2 Zb))))) Tryz.func209 rfl rfl rfl ?_
 simp (maxSteps:=1000000) only [↓Zo,Ze,Zd,Zn,gSt,gS0,Ya,Yb,↓reduceIte,reduceCtorEq,Yc,Yd,Ye,Yf,Yg,Yj,Yk,Yl,Ym,Yn,Zaq,ZV,ZaK,ZcQ,ZcP,Tryz.ntmps209,Tryz.results209,gTT]
 refine ⟨hl,fun h=>?_,fun h=>⟨fun h2=>?_,fun h2=>⟨hl,?_⟩⟩⟩
 ·have e:fiE ⟨c,⟨n,d,a,p,f⟩,l⟩ i=1:=by simp [fiE,rcE,h]
  simp [fiC,fiO,fiR,e,rs0,Zy]
 ·have hv:rsV ⟨c,⟨n,d,a,p,f⟩,l⟩=true:=by simpa using h
  have e0:rcE ⟨c,⟨n,d,a,p,f⟩,l⟩ i=2:=by unfold rcE; rw [if_neg (by rw [hv]; decide),if_pos h2]
  have e:fiE ⟨c,⟨n,d,a,p,f⟩,l⟩ i=2:=by unfold fiE; rw [e0]; rfl
  simp [fiC,fiO,fiR,e,rs0,Zy]
 have hv:rsV ⟨c,⟨n,d,a,p,f⟩,l⟩=true:=by simpa using h
 have he:rcE ⟨c,⟨n,d,a,p,f⟩,l⟩ i=0:=by unfold rcE; rw [if_neg (by rw [hv]; decide),if_neg (by rw [h2]; decide)]
 obtain ⟨_,hi⟩:=ZkD he
 have hp:=(ZD hv).1
 simp only at hp
 have hct:=Zj5 hv hl hi.1
 have hW:waN ⟨c,⟨n,d,a,p,f⟩,l⟩=((l.length / c.toNat:Nat):Int):=by unfold waN; rw [if_pos hv]
 rw [hW]
 refine Zl (fun g=>⟨[(7,vI .i64 (g:Nat))],[],[]⟩) (fun g=>(g:Int)≤cnt ⟨c,⟨n,d,a,p,f⟩,l⟩ i) (fun g=>i.toNat - g) (·+1) 0 (by simpa using hct.1) ?_ ?_
 ·simp (maxSteps:=1000000) only [↓Zo,Ze,Zd,Zn,gSt,gS0,Ya,Yb,↓reduceIte,reduceCtorEq,Yc,Yd,Ye,Yf,Yg,Yj,Yk,Yl,Ym,Yn,Zaq,ZV,ZaK,ZcQ,ZcP,Tryz.ntmps209,Tryz.results209,gTT]
  rfl
 intro g hg
 simp (maxSteps:=1000000) only [↓Zo,Ze,Zd,Zn,gSt,gS0,Ya,Yb,↓reduceIte,reduceCtorEq,Yc,Yd,Ye,Yf,Yg,Yj,Yk,Yl,Ym,Yn,Zaq,ZV,ZaK,ZcQ,ZcP,Tryz.ntmps209,Tryz.results209,gTT]
 have key:(g:Int) < i→((((l.length / c.toNat:Nat):Int)≤IntKind.i64.wrap (atP ⟨n,d,a,p,f⟩ g - p))↔¬ ((g:Int) < cnt ⟨c,⟨n,d,a,p,f⟩,l⟩ i)):=fun h=>by
  have h1:=ZEC hv h
  obtain ⟨_,_,q3⟩:=at_eq hp (g:=g) (by omega)
  have q4:=ZfT hp (g:=g) (by omega)
  simp only at q3 h1
  rw [q3,q4.1,← h1]
  omega
 have fe:(g:Int)=cnt ⟨c,⟨n,d,a,p,f⟩,l⟩ i→fiE ⟨c,⟨n,d,a,p,f⟩,l⟩ i=poE ⟨c,⟨n,d,a,p,f⟩,l⟩ g:=fun h=>by unfold fiE; rw [if_neg (by rw [he]; decide),h]
 refine ⟨fun h3=>⟨fun h4=>?_,fun h4=>?_⟩,fun h3=>?_⟩
 ·have h5:=(key (of_decide_eq_true h3)).1 (of_decide_eq_true h4)
  have hgc:(g:Int)=cnt ⟨c,⟨n,d,a,p,f⟩,l⟩ i:=by omega
  have e:=fe hgc
  refine ⟨⟨hl,hv,by omega,by omega⟩,fun h6=>?_,fun h6=>⟨by kernel_rfl,⟨hl,hv,⟨by omega,by omega⟩,fun h7=>hct.2.2 (by omega)⟩,?_⟩⟩
  ·have h7:poE ⟨c,⟨n,d,a,p,f⟩,l⟩ g≠0:=by simpa using h6
   simp [fiC,fiO,fiR,e,h7,rs0,Zy]
  ·have h7:poE ⟨c,⟨n,d,a,p,f⟩,l⟩ g=0:=by simpa using h6
   simp [fiC,fiO,fiR,e,h7,← hgc]
 ·have h5:(g:Int) < cnt ⟨c,⟨n,d,a,p,f⟩,l⟩ i:=by
   have:=(key (of_decide_eq_true h3)).2
   have h6:=of_decide_eq_false h4
   exact Classical.byContradiction fun h7=>h6 (this h7)
  have:=of_decide_eq_true h3
  exact ⟨(Zaz _ (by omega)).symm,by omega,by omega⟩
 ·have h5:=of_decide_eq_false h3
  have hgc:(g:Int)=cnt ⟨c,⟨n,d,a,p,f⟩,l⟩ i:=by omega
  have e:=fe hgc
  refine ⟨⟨hl,hv,by omega,by omega⟩,fun h6=>?_,fun h6=>⟨by kernel_rfl,⟨hl,hv,⟨by omega,by omega⟩,fun h7=>hct.2.2 (by omega)⟩,?_⟩⟩
  ·have h7:poE ⟨c,⟨n,d,a,p,f⟩,l⟩ g≠0:=by simpa using h6
   simp [fiC,fiO,fiR,e,h7,rs0,Zy]
  ·have h7:poE ⟨c,⟨n,d,a,p,f⟩,l⟩ g=0:=by simpa using h6
   simp [fiC,fiO,fiR,e,h7,← hgc]
def Zcx:List V→Zf→Zw→Name→Option Ent
 | [.agg [.d (.int .i64 c),.d (.int .i64 n),.d (.int .i64 d),.d (.int .i64 a),.d (.int .i64 p),.d (.int .i64 f),.d (.list q_l)],.c (.d (.int .i64 i))],[],[],_=>some ⟨(Zc q_l).length≤1000000∧q_l=LI .i32 (Zc q_l),.tup [.agg [.int .i64 (fiC ⟨c,⟨n,d,a,p,f⟩,(Zc q_l)⟩ i),.list (LI .i32 (fiO ⟨c,⟨n,d,a,p,f⟩,(Zc q_l)⟩ i))],.agg [.int .i64 (fiR ⟨c,⟨n,d,a,p,f⟩,(Zc q_l)⟩ i).c,.int .i64 (fiR ⟨c,⟨n,d,a,p,f⟩,(Zc q_l)⟩ i).p.n,.int .i64 (fiR ⟨c,⟨n,d,a,p,f⟩,(Zc q_l)⟩ i).p.d,.int .i64 (fiR ⟨c,⟨n,d,a,p,f⟩,(Zc q_l)⟩ i).p.a,.int .i64 (fiR ⟨c,⟨n,d,a,p,f⟩,(Zc q_l)⟩ i).p.p,.int .i64 (fiR ⟨c,⟨n,d,a,p,f⟩,(Zc q_l)⟩ i).p.f,.list (LI .i32 (fiR ⟨c,⟨n,d,a,p,f⟩,(Zc q_l)⟩ i).l)],.int .i64 (fiE ⟨c,⟨n,d,a,p,f⟩,(Zc q_l)⟩ i)],[],[]⟩
 | _,_,_,_=>none
def Zey:=And.intro (@Zcx.eq_1) (@Zcx.eq_1)
theorem Zez:Snd Tryz.prog 209 Zcx:=by
 intro vs b k n e h hn hp
 unfold Zcx at h
 split at h
 ·cases h; obtain ⟨hp0,hq0⟩:=hp; obtain ⟨_,rfl⟩:=Zu hq0; simp only [Zi,Zp,Zj,Zq] at hp0 ⊢; exact (Zql _ _ _ _ _ _ _ _ hp0).lift rfl _
 ·cases h
theorem Znd (c n d a p f:Int) (l:List Int) (k:Int) (y:List Int) (hl:l.length≤1000000) (hy:y.length≤1000000):Spec Tryz.prog 0 39 [.agg [.d (.int .i64 c),.d (.int .i64 n),.d (.int .i64 d),.d (.int .i64 a),.d (.int .i64 p),.d (.int .i64 f),.d (.list (LI .i32 l))],.agg [.d (.int .i64 k),.d (.list (LI .i32 y))]] [] [] (.tup [.agg [.int .i64 (cvC ⟨c,⟨n,d,a,p,f⟩,l⟩ k y),.list (LI .i32 (cvO ⟨c,⟨n,d,a,p,f⟩,l⟩ k y))],.agg [.int .i64 (cvR ⟨c,⟨n,d,a,p,f⟩,l⟩ k y).c,.int .i64 (cvR ⟨c,⟨n,d,a,p,f⟩,l⟩ k y).p.n,.int .i64 (cvR ⟨c,⟨n,d,a,p,f⟩,l⟩ k y).p.d,.int .i64 (cvR ⟨c,⟨n,d,a,p,f⟩,l⟩ k y).p.a,.int .i64 (cvR ⟨c,⟨n,d,a,p,f⟩,l⟩ k y).p.p,.int .i64 (cvR ⟨c,⟨n,d,a,p,f⟩,l⟩ k y).p.f,.list (LI .i32 (cvR ⟨c,⟨n,d,a,p,f⟩,l⟩ k y).l)],.int .i64 (cvE ⟨c,⟨n,d,a,p,f⟩,l⟩ k y)]) [] []:=by
 refine sE (md:=fun _=>0) (L:=[(98,Zho),(100,ZaB),(99,ZcR),(101,ZeJ)]) [] 263167 (Za Zlp (Za ZaH (Za ZdO (Za Zfi Zb)))) Tryz.func39 rfl rfl rfl ?_
 simp (maxSteps:=1000000) only [↓Zo,Ze,Zd,Zn,gSt,gS0,Ya,Yb,↓reduceIte,reduceCtorEq,Yc,Yd,Ye,Yf,Yg,Yj,Yk,Yl,Ym,Yn,Zlo,ZV,ZdN,Zfh,Tryz.ntmps39,Tryz.results39,gTT]
 refine ⟨⟨hl,hy⟩,fun h=>?_,fun h=>?_⟩
 ·have hne:feE ⟨c,⟨n,d,a,p,f⟩,l⟩ k y≠0:=by simpa using h
  have e:cvE ⟨c,⟨n,d,a,p,f⟩,l⟩ k y=feE ⟨c,⟨n,d,a,p,f⟩,l⟩ k y:=by unfold cvE; rw [if_pos hne]
  simp [cvC,cvO,cvR,e,hne,rs0,Zy]
 have he:feE ⟨c,⟨n,d,a,p,f⟩,l⟩ k y=0:=by simpa using h
 obtain ⟨fe,fv,fl⟩:=Zo9 he hl hy
 have fc:(feR ⟨c,⟨n,d,a,p,f⟩,l⟩ k y).c=c:=by rw [fe]
 obtain ⟨⟨k1,k2⟩,k3,k4,k5⟩:=ZW (ZD fv).2 (by omega)
 have fp:=(ZD fv).1
 have hz:(((feR ⟨c,⟨n,d,a,p,f⟩,l⟩ k y).l.length / (feR ⟨c,⟨n,d,a,p,f⟩,l⟩ k y).c.toNat:Nat):Int)≤65536:=Int.ofNat_le.2 k4
 have hz0:0≤(((feR ⟨c,⟨n,d,a,p,f⟩,l⟩ k y).l.length / (feR ⟨c,⟨n,d,a,p,f⟩,l⟩ k y).c.toNat:Nat):Int):=Int.natCast_nonneg _
 have hM:maN (feR ⟨c,⟨n,d,a,p,f⟩,l⟩ k y).p (((feR ⟨c,⟨n,d,a,p,f⟩,l⟩ k y).l.length / (feR ⟨c,⟨n,d,a,p,f⟩,l⟩ k y).c.toNat:Nat):Int)=cvN ⟨c,⟨n,d,a,p,f⟩,l⟩ k y:=by
  have e1:maE (feR ⟨c,⟨n,d,a,p,f⟩,l⟩ k y).p (((feR ⟨c,⟨n,d,a,p,f⟩,l⟩ k y).l.length / (feR ⟨c,⟨n,d,a,p,f⟩,l⟩ k y).c.toNat:Nat):Int)=0:=by
   unfold maE
   rw [if_neg (by rw [fp]; decide),if_neg (by simp only [Bool.or_eq_true,decide_eq_true_eq]; omega)]
  unfold maN
  rw [if_pos e1]
  rfl
 have e:cvE ⟨c,⟨n,d,a,p,f⟩,l⟩ k y=tkE (feR ⟨c,⟨n,d,a,p,f⟩,l⟩ k y) (cvN ⟨c,⟨n,d,a,p,f⟩,l⟩ k y):=by unfold cvE; rw [if_neg (by rw [he]; decide)]
 have hfin:([D.agg [D.int .i64 (cvC ⟨c,⟨n,d,a,p,f⟩,l⟩ k y),D.list (LI .i32 (cvO ⟨c,⟨n,d,a,p,f⟩,l⟩ k y))],D.agg [D.int .i64 (cvR ⟨c,⟨n,d,a,p,f⟩,l⟩ k y).c,D.int .i64 (cvR ⟨c,⟨n,d,a,p,f⟩,l⟩ k y).p.n,D.int .i64 (cvR ⟨c,⟨n,d,a,p,f⟩,l⟩ k y).p.d,D.int .i64 (cvR ⟨c,⟨n,d,a,p,f⟩,l⟩ k y).p.a,D.int .i64 (cvR ⟨c,⟨n,d,a,p,f⟩,l⟩ k y).p.p,D.int .i64 (cvR ⟨c,⟨n,d,a,p,f⟩,l⟩ k y).p.f,D.list (LI .i32 (cvR ⟨c,⟨n,d,a,p,f⟩,l⟩ k y).l)],D.int .i64 (cvE ⟨c,⟨n,d,a,p,f⟩,l⟩ k y)]:List D)=[D.agg [D.int .i64 (tkC (feR ⟨c,⟨n,d,a,p,f⟩,l⟩ k y) (cvN ⟨c,⟨n,d,a,p,f⟩,l⟩ k y)),D.list (LI .i32 (tkO (feR ⟨c,⟨n,d,a,p,f⟩,l⟩ k y) (cvN ⟨c,⟨n,d,a,p,f⟩,l⟩ k y)))],D.agg [D.int .i64 (tkR (feR ⟨c,⟨n,d,a,p,f⟩,l⟩ k y) (cvN ⟨c,⟨n,d,a,p,f⟩,l⟩ k y)).c,D.int .i64 (tkR (feR ⟨c,⟨n,d,a,p,f⟩,l⟩ k y) (cvN ⟨c,⟨n,d,a,p,f⟩,l⟩ k y)).p.n,D.int .i64 (tkR (feR ⟨c,⟨n,d,a,p,f⟩,l⟩ k y) (cvN ⟨c,⟨n,d,a,p,f⟩,l⟩ k y)).p.d,D.int .i64 (tkR (feR ⟨c,⟨n,d,a,p,f⟩,l⟩ k y) (cvN ⟨c,⟨n,d,a,p,f⟩,l⟩ k y)).p.a,D.int .i64 (tkR (feR ⟨c,⟨n,d,a,p,f⟩,l⟩ k y) (cvN ⟨c,⟨n,d,a,p,f⟩,l⟩ k y)).p.p,D.int .i64 (tkR (feR ⟨c,⟨n,d,a,p,f⟩,l⟩ k y) (cvN ⟨c,⟨n,d,a,p,f⟩,l⟩ k y)).p.f,D.list (LI .i32 (tkR (feR ⟨c,⟨n,d,a,p,f⟩,l⟩ k y) (cvN ⟨c,⟨n,d,a,p,f⟩,l⟩ k y)).l)],D.int .i64 (tkE (feR ⟨c,⟨n,d,a,p,f⟩,l⟩ k y) (cvN ⟨c,⟨n,d,a,p,f⟩,l⟩ k y))]:=by
  by_cases h6:tkE (feR ⟨c,⟨n,d,a,p,f⟩,l⟩ k y) (cvN ⟨c,⟨n,d,a,p,f⟩,l⟩ k y)=0
  ·simp [cvC,cvO,cvR,tkC,tkO,tkR,e,h6,fc]
  ·simp [cvC,cvO,cvR,tkC,tkO,tkR,e,h6]
 rw [hfin,← hM]
 refine ⟨by kernel_rfl,by omega,by omega,?_⟩
 have hW:waN (feR ⟨c,⟨n,d,a,p,f⟩,l⟩ k y)=(((feR ⟨c,⟨n,d,a,p,f⟩,l⟩ k y).l.length / (feR ⟨c,⟨n,d,a,p,f⟩,l⟩ k y).c.toNat:Nat):Int):=if_pos fv
 rw [← hW]
def Zdo:List V→Zf→Zw→Name→Option Ent
 | [.agg [.d (.int .i64 c),.d (.int .i64 n),.d (.int .i64 d),.d (.int .i64 a),.d (.int .i64 p),.d (.int .i64 f),.d (.list q_l)],.agg [.d (.int .i64 k),.d (.list q_y)]],[],[],_=>some ⟨(Zc q_l).length≤1000000∧(Zc q_y).length≤1000000∧q_l=LI .i32 (Zc q_l)∧q_y=LI .i32 (Zc q_y),.tup [.agg [.int .i64 (cvC ⟨c,⟨n,d,a,p,f⟩,(Zc q_l)⟩ k (Zc q_y)),.list (LI .i32 (cvO ⟨c,⟨n,d,a,p,f⟩,(Zc q_l)⟩ k (Zc q_y)))],.agg [.int .i64 (cvR ⟨c,⟨n,d,a,p,f⟩,(Zc q_l)⟩ k (Zc q_y)).c,.int .i64 (cvR ⟨c,⟨n,d,a,p,f⟩,(Zc q_l)⟩ k (Zc q_y)).p.n,.int .i64 (cvR ⟨c,⟨n,d,a,p,f⟩,(Zc q_l)⟩ k (Zc q_y)).p.d,.int .i64 (cvR ⟨c,⟨n,d,a,p,f⟩,(Zc q_l)⟩ k (Zc q_y)).p.a,.int .i64 (cvR ⟨c,⟨n,d,a,p,f⟩,(Zc q_l)⟩ k (Zc q_y)).p.p,.int .i64 (cvR ⟨c,⟨n,d,a,p,f⟩,(Zc q_l)⟩ k (Zc q_y)).p.f,.list (LI .i32 (cvR ⟨c,⟨n,d,a,p,f⟩,(Zc q_l)⟩ k (Zc q_y)).l)],.int .i64 (cvE ⟨c,⟨n,d,a,p,f⟩,(Zc q_l)⟩ k (Zc q_y))],[],[]⟩
 | _,_,_,_=>none
def Zmm:=And.intro (@Zdo.eq_1) (@Zdo.eq_1)
theorem Zmn:Snd Tryz.prog 39 Zdo:=by
 intro vs b k n e h hn hp
 unfold Zdo at h
 split at h
 ·cases h; obtain ⟨hp0,hp1,hq0,hq1⟩:=hp; obtain ⟨_,rfl⟩:=Zu hq0; obtain ⟨_,rfl⟩:=Zu hq1; simp only [Zi,Zp,Zj,Zq] at hp0 hp1 ⊢; exact (Znd _ _ _ _ _ _ _ _ _ hp0 hp1).lift rfl _
 ·cases h
end Go.Vam
end
section
set_option linter.unusedVariables false
set_option linter.defProp false
set_option linter.unusedSimpArgs false
set_option maxRecDepth 40000
set_option maxHeartbeats 4000000
namespace Go.Vam
open Go.Proofs
open Nat renaming reduceShiftRight→Ya,reduceMod→Yb,reduceEqDiff→Yc,reduceLT→Yd,reduceLeDiff→Ye,reduceAdd→Yf,reduceMul→Yg
open Int renaming reduceLE→Yj,reduceLT→Yk,reduceNeg→Yl,reduceAdd→Ym,reduceToNat→Yn
def waV (s i c:Int):Int:=((i*7919+c*104729+s*15485863).tmod 4001 - 2000)*1000
def waF (s i:Int) (n:Nat):List Int:=(List.range n).map fun (c:Nat)=>waV s i (c:Int)
def waO (s ch fr:Int):Nat→List Int
 | 0=>[]
 | k+1=>waO s ch fr k++waF s (fr+k) ch.toNat
theorem ZBy (s i:Int) (n:Nat):(waF s i n).length=n:=by simp [waF]
theorem ZDk (s i:Int) (n:Nat):waF s i (n+1)=waF s i n++[waV s i n]:=by simp [waF,List.range_succ]
theorem Zti (s ch fr:Int):∀ k,(waO s ch fr k).length=k*ch.toNat
 | 0=>by simp [waO]
 | k+1=>by rw [waO,List.length_append,ZBy,Zti s ch fr k,Nat.add_mul,Nat.one_mul]
theorem ZKo (s i c:Int):-8388608≤waV s i c∧waV s i c≤8388607:=by
 have h1:=Int.lt_tmod_of_pos (i*7919+c*104729+s*15485863) (show (0:Int) < 4001 by decide)
 have h2:=Int.tmod_lt_of_pos (i*7919+c*104729+s*15485863) (show (0:Int) < 4001 by decide)
 unfold waV
 omega
theorem ZKn {s i c:Int} (hs:-1000≤s∧s≤1000) (hi:-10000≤i∧i≤10000) (hc:0≤c∧c≤8) :
  IntKind.i32.wrap (IntKind.i64.wrap (IntKind.i64.wrap ((IntKind.i64.wrap (IntKind.i64.wrap (IntKind.i64.wrap (i*7919)+IntKind.i64.wrap (c*104729))+IntKind.i64.wrap (s*15485863))).tmod 4001 - 2000)*1000))=waV s i c:=by
 have hv:=ZKo s i c
 have h1:=Int.lt_tmod_of_pos (i*7919+c*104729+s*15485863) (show (0:Int) < 4001 by decide)
 have h2:=Int.tmod_lt_of_pos (i*7919+c*104729+s*15485863) (show (0:Int) < 4001 by decide)
 rw [IntWalk.i64_in (i*7919) (by omega),IntWalk.i64_in (c*104729) (by omega),IntWalk.i64_in (s*15485863) (by omega),IntWalk.i64_in (i*7919+c*104729) (by omega),IntWalk.i64_in (i*7919+c*104729+s*15485863) (by omega)]
 unfold waV at hv ⊢
 rw [IntWalk.i64_in (_ - 2000) (by omega),IntWalk.i64_in (_*1000) (by omega),IntWalk.i32_in _ (by omega)]
def mqE (n d:Int):Int:=if (decide (n < 1) || decide (d < 1))=true then 1 else if (decide (68719476736 < n / Zd4 n d) || decide (68719476736 < d / Zd4 n d))=true then 2 else 0
def mqN (n d:Int):Int:=if mqE n d=0 then n / Zd4 n d else 0
def mqD (n d:Int):Int:=if mqE n d=0 then d / Zd4 n d else 0
theorem Zt4 {n d:Int} (hn:1≤n):1≤Zd4 n d:=by
 unfold Zd4
 have:=Nat.gcd_pos_of_pos_left d.toNat (show 0 < n.toNat by omega)
 omega
def baT (i:Nat):Int:=([48000,48000,44100,96000,8000,32000,192000,1000,768000,47999]:List Int)[i]?.getD 0
def baN (l:List UInt8):Int:=mqN (baT (dN l 10).toNat) (baT (dN (dT l 10) 10).toNat)
def baD (l:List UInt8):Int:=mqD (baT (dN l 10).toNat) (baT (dN (dT l 10) 10).toNat)
def baR (l:List UInt8):List UInt8:=dT (dT l 10) 10
theorem ZKB (l:List UInt8):phV ⟨baN l,baD l,0,0,0⟩=true:=by
 have h1:=Zfn l 10 (by decide)
 have h2:=Zfn (dT l 10) 10 (by decide)
 have h3:=ZhC l 10
 have h4:=ZhC (dT l 10) 10
 have key:∀ i,i < 10→∀ j,j < 10→phV ⟨mqN (baT i) (baT j),mqD (baT i) (baT j),0,0,0⟩=true:=by decide +kernel
 exact key _ (by omega) _ (by omega)
structure okR (x:Rs) (ch:Int):Prop where
 v:rsV x=true
 c:x.c=ch
 len:x.l.length≤524288
theorem Zuy {x:Rs} (h:rsV x=true) (hl:x.l.length≤1000000):x.l.length≤524288:=by
 obtain ⟨⟨k1,k2⟩,k3,k4,k5⟩:=ZW (ZD h).2 hl
 have:=Nat.mul_le_mul k4 (show x.c.toNat≤8 by omega)
 omega
theorem Zz5 {p:Ph} (h:phV p=true) {P F:Int} (hP:0≤P∧P≤1125899906842624) (hF:0≤F∧F < prt p):phV ⟨p.n,p.d,p.a,P,F⟩=true:=by
 simp only [phV,Bool.and_eq_true,decide_eq_true_eq] at h ⊢
 exact ⟨⟨⟨⟨h.1.1.1.1,hP.1⟩,hP.2⟩,hF.1⟩,hF.2⟩
theorem ZFc {x:Rs} {n:Int} (hv:rsV x=true) (hl:x.l.length≤1000000) (he:poE x n=0):rsV (poR x n)=true∧(poR x n).c=x.c∧(poR x n).l.length≤x.l.length∧(poR x n).p=⟨x.p.n,x.p.d,x.p.a,x.p.p+qAt x.p n,fAt x.p n⟩∧(0≤n∧n≤65536):=by
 have hE:adE x.p n=0:=he
 obtain ⟨h1,h2⟩:=ZoL hE
 obtain ⟨hp,hn⟩:=Zpz h1
 have hq:=Zbm hp hn
 have hpi:=Zbw hp
 have h3:x.p.p+qAt x.p n≤1125899906842624:=by
  unfold adE at hE
  rw [if_pos h1] at hE
  have e:atP x.p n=x.p.p+qAt x.p n:=by unfold atP; rw [if_pos h1]
  rw [e] at hE
  split at hE
  ·cases hE
  ·omega
 have e:poR x n=⟨x.c,adP x.p n,x.l.drop (min x.l.length (qN x.p n.toNat*x.c.toNat))⟩:=by unfold poR; rw [if_pos he]
 obtain ⟨⟨k1,k2⟩,k3,k4,k5⟩:=ZW (ZD hv).2 hl
 have hg:=ZmO (q:=qN x.p n.toNat) k3
 rw [e,h2]
 refine ⟨?_,rfl,by show (List.drop _ x.l).length≤_; rw [List.length_drop]; omega,rfl,hn⟩
 unfold rsV
 rw [Zz5 hp (by omega) ⟨hq.2.1,hq.2.2.1⟩,Bool.true_and]
 refine Zbg (z:=x.l.length / x.c.toNat - min (x.l.length / x.c.toNat) (qN x.p n.toNat)) ⟨k1,k2⟩ ?_ (Nat.le_trans (Nat.sub_le _ _) k4) ?_
 ·show (List.drop _ x.l).length=_
  rw [List.length_drop,Nat.sub_mul,hg,← k3]
 ·rw [List.all_eq_true] at k5 ⊢
  intro y hy
  exact k5 y (List.mem_of_mem_drop hy)
theorem ZqM {x:Rs} {n:Int} (h:tkE x n=0):rcE x n=0∧poE x n=0∧ned x.p n≤((x.l.length / x.c.toNat:Nat):Int):=by
 unfold tkE at h
 split at h
 ·rename_i h1; exact absurd h h1
 ·rename_i h1
  split at h
  ·cases h
  ·rename_i h2
   exact ⟨by simpa using h1,h,by omega⟩
theorem ZDB {x:Rs} {k:Int} {y:List Int} (h:cvE x k y=0):feE x k y=0∧tkE (feR x k y) (cvN x k y)=0:=by
 unfold cvE at h
 split at h
 ·rename_i h1; exact absurd h h1
 ·rename_i h1; exact ⟨by simpa using h1,h⟩
theorem Zz4 {p:Ph} (h:phV p=true) {a:Int} (ha:-4096≤a∧a≤4096):phV { p with a:=a}=true:=by
 simp only [phV,tuX,prt,Bool.and_eq_true,decide_eq_true_eq] at h ⊢
 exact ⟨⟨⟨⟨⟨⟨h.1.1.1.1.1.1,h.1.1.1.1.1.2⟩,ha⟩,h.1.1.1.2⟩,h.1.1.2⟩,h.1.2⟩,h.2⟩
theorem ZcB {ch:Int} (hc:1≤ch∧ch≤8):ZaR ch []=true:=Zbg (z:=0) hc (by simp) (by decide) rfl
theorem ZwM (n d:Int) (hn:n≤1000000000000) (hd:d≤1000000000000):Spec Tryz.prog 0 79 [vI .i64 n,vI .i64 d] [] [] (.tup [.agg [.int .i64 (mqN n d),.int .i64 (mqD n d)],.int .i64 (mqE n d)]) [] []:=by
 refine spec_of_E (X:=⟨Tryz.prog,tt,Tryz.f79.ntmps,1,fun _=>0,(tab [(157,Zlq)])⟩) (M:=[]) (m:=4294975731) rfl rfl ⟨Zah,ZU (Za Zol Zb) _ rfl rfl⟩ ZB Tryz.func79 rfl (by decide) (by show (2:Nat)≤_; exact Nat.le_of_ble_eq_true rfl) ⟨by simp [V.has,C.has],by simp [C.has],by simp⟩ ?_
 simp (maxSteps:=1000000) only [↓Zo,Ze,Zd,Zn,gSt,gS0,Ya,Yb,↓reduceIte,reduceCtorEq,Yc,Yd,Ye,Yf,Yg,Yj,Yk,Yl,Ym,Yn,Zok,Tryz.ntmps79,Tryz.results79,gTT]
 refine ⟨fun h=>?_,fun h=>?_⟩
 ·have e:mqE n d=1:=by unfold mqE; rw [if_pos h]
  simp [mqN,mqD,e]
 have hb:1≤n∧1≤d:=by simp only [Bool.or_eq_false_iff,decide_eq_false_iff_not] at h; omega
 have hg:=Zt4 (d:=d) hb.1
 have h1:0≤n / Zd4 n d∧n / Zd4 n d≤n:=⟨Int.ediv_nonneg (by omega) (by omega),Int.ediv_le_self _ (by omega)⟩
 have h2:0≤d / Zd4 n d∧d / Zd4 n d≤d:=⟨Int.ediv_nonneg (by omega) (by omega),Int.ediv_le_self _ (by omega)⟩
 refine ⟨by omega,by kernel_rfl,by omega,by omega,?_⟩
 rw [Int.tdiv_eq_ediv_of_nonneg (by omega),Int.tdiv_eq_ediv_of_nonneg (by omega),IntWalk.i64_in (n / Zd4 n d) (by omega),IntWalk.i64_in (d / Zd4 n d) (by omega)]
 refine ⟨fun h3=>?_,fun h3=>?_⟩
 ·have e:mqE n d=2:=by unfold mqE; rw [if_neg (by rw [h]; decide),if_pos h3]
  simp [mqN,mqD,e]
 ·have e:mqE n d=0:=by unfold mqE; rw [if_neg (by rw [h]; decide),if_neg (by rw [h3]; decide)]
  simp [mqN,mqD,e]
def Zje:List V→Zf→Zw→Name→Option Ent
 | [.c (.d (.int .i64 n)),.c (.d (.int .i64 d))],[],[],_=>some ⟨n≤1000000000000∧d≤1000000000000,.tup [.agg [.int .i64 (mqN n d),.int .i64 (mqD n d)],.int .i64 (mqE n d)],[],[]⟩
 | _,_,_,_=>none
def Zvj:=And.intro (@Zje.eq_1) (@Zje.eq_1)
theorem Zvk:Snd Tryz.prog 79 Zje:=by
 intro vs b k n e h hn hp
 unfold Zje at h
 split at h
 ·cases h; obtain ⟨hp0,hp1⟩:=hp; exact (ZwM _ _ hp0 hp1).lift rfl _
 ·cases h
theorem ZAz (l:List UInt8):Spec Tryz.prog 0 69 [.c (.lp ⟨0,0⟩ 0)] [(⟨0,0⟩,[.d (.list (LB l))])] [] (.agg [.d (.int .i64 (baN l)),.d (.int .i64 (baD l))]) [(⟨0,0⟩,[.d (.list (LB (baR l)))])] []:=by
 refine spec_of_E (X:=⟨Tryz.prog,tt,Tryz.f69.ntmps,1,fun _=>0,(tab [(21,ZhT),(79,Zje)])⟩) (M:=[(2,[0,0,0,0,0,2093213,0,0,0,0,0,1573021,0,0,0,0,0])]) (m:=29) rfl rfl ⟨Zah,ZU (Za Zgp (Za Zvk Zb)) _ rfl rfl⟩ ZB Tryz.func69 rfl (by decide) (by show (1:Nat)≤_; exact Nat.le_of_ble_eq_true rfl) ⟨by simp [V.has,C.has],by simp [C.has],by simp⟩ ?_
 simp (maxSteps:=1000000) only [↓Zo,Ze,Zd,Zn,gSt,gS0,Ya,Yb,↓reduceIte,reduceCtorEq,Yc,Yd,Ye,Yf,Yg,Yj,Yk,Yl,Ym,Yn,Zbz,Zvj,Tryz.ntmps69,Tryz.results69,gTT]
 have h1:=Zfn l 10 (by decide)
 have h2:=Zfn (dT l 10) 10 (by decide)
 have h3:=ZhC l 10
 have h4:=ZhC (dT l 10) 10
 have key:∀ i,i < 10→([48000,48000,44100,96000,8000,32000,192000,1000,768000,47999]:List Int)[i]?.getD 0≤1000000000000:=by decide
 exact ⟨by kernel_rfl,⟨h3,h1⟩,⟨h4,h2⟩,⟨key _ (by omega),key _ (by omega)⟩,⟨rfl,rfl⟩,rfl⟩
def Znr:List V→Zf→Zw→Name→Option Ent
 | [.c (.lp n0 0)],[(m0,[.d (.list q_l)])],[],_=>some ⟨n0.lv≤1∧m0=n0∧q_l=LB (bys q_l),.agg [.d (.int .i64 (baN (bys q_l))),.d (.int .i64 (baD (bys q_l)))],[(n0,[.d (.list (LB (baR (bys q_l))))])],[]⟩
 | _,_,_,_=>none
def ZiM:=And.intro (@Znr.eq_1) (@Znr.eq_1)
theorem Zxp:Snd Tryz.prog 69 Znr:=by
 intro vs b k n e h hn hp
 unfold Znr at h
 split at h
 ·cases h; obtain ⟨hl0,rfl,hq0⟩:=hp; obtain ⟨_,rfl⟩:=Zyj hq0; simp only [Zi,Zp,Zj,Zq]; exact Spec.ren1 (ZAz _) 0 (by simp [Zbi,V.names,C.names,ZS,ZT]) hl0
 ·cases h
theorem ZBh (s k fr m:Int) (hs:-1000≤s∧s≤1000) (hk:-8≤k∧k≤8) (hf:0≤fr∧fr≤1000) (hm:0≤m∧m≤1000):Spec Tryz.prog 0 147 [vI .i64 s,vI .i64 k,vI .i64 fr,vI .i64 m] [] [] (.agg [.d (.int .i64 k),.d (.list (LI .i32 (waO s k fr m.toNat)))]) [] []:=by
 refine spec_of_E (X:=⟨Tryz.prog,tt,Tryz.f147.ntmps,1,fun _=>0,(tab [])⟩) (M:=[]) (m:=34610959) rfl rfl ⟨Zah,ZU Zb _ rfl rfl⟩ ZB Tryz.func147 rfl (by decide) (by show (4:Nat)≤_; exact Nat.le_of_ble_eq_true rfl) ⟨by simp [V.has,C.has],by simp [C.has],by simp⟩ ?_
 simp (maxSteps:=1000000) only [↓Zo,Ze,Zd,Zn,gSt,gS0,Ya,Yb,↓reduceIte,reduceCtorEq,Yc,Yd,Ye,Yf,Yg,Yj,Yk,Yl,Ym,Yn,Tryz.ntmps147,Tryz.results147,gTT]
 refine Ze3 ⟨1,9⟩ 1 1 ⟨1,99⟩ rfl rfl (by simp (maxSteps:=1000000) only [↓Zo,Ze,Zd,Zn,gSt,gS0,Ya,Yb,↓reduceIte,reduceCtorEq,Yc,Yd,Ye,Yf,Yg,Yj,Yk,Yl,Ym,Yn,Tryz.ntmps147,Tryz.results147,gTT]) (Nat.le_refl _) ?_
 simp (maxSteps:=1000000) only [↓Zo,Ze,Zd,Zn,gSt,gS0,Ya,Yb,↓reduceIte,reduceCtorEq,Yc,Yd,Ye,Yf,Yg,Yj,Yk,Yl,Ym,Yn,Tryz.ntmps147,Tryz.results147,gTT]
 refine Zl (fun g=>⟨[(10,vI .i64 (fr+(g:Nat)))],[(⟨1,9⟩,[.d (.int .i64 k),.own ⟨1,99⟩ (LI .i32 (waO s k fr g))])],[(⟨1,99⟩,⟨false,1,LI .i32 (waO s k fr g)⟩)]⟩) (fun g=>g≤m.toNat) (fun g=>m.toNat - g) (·+1) 0 (Nat.zero_le _) ?_ ?_
 ·simp (maxSteps:=1000000) only [↓Zo,Ze,Zd,Zn,gSt,gS0,Ya,Yb,↓reduceIte,reduceCtorEq,Yc,Yd,Ye,Yf,Yg,Yj,Yk,Yl,Ym,Yn,Tryz.ntmps147,Tryz.results147,gTT]
  simp [waO,Zy]
 intro g hg
 simp (maxSteps:=1000000) only [↓Zo,Ze,Zd,Zn,gSt,gS0,Ya,Yb,↓reduceIte,reduceCtorEq,Yc,Yd,Ye,Yf,Yg,Yj,Yk,Yl,Ym,Yn,Tryz.ntmps147,Tryz.results147,gTT]
 have hwl:=Zti s k fr g
 have hwb:=Nat.mul_le_mul (show g≤1000 by omega) (show k.toNat≤8 by omega)
 rw [IntWalk.i64_in (fr+m) (by omega)]
 refine ⟨fun h1=>?_,fun h1=>?_⟩
 ·have hgm:g < m.toNat:=by have:=of_decide_eq_true h1; omega
  refine Zl (fun j=>⟨[(11,vI .i64 (j:Nat))],[(⟨1,9⟩,[.d (.int .i64 k),.own ⟨1,99⟩ (LI .i32 (waO s k fr g++waF s (fr+g) j))])],[(⟨1,99⟩,⟨false,1,LI .i32 (waO s k fr g++waF s (fr+g) j)⟩)]⟩) (fun j=>j≤k.toNat) (fun j=>k.toNat - j) (·+1) 0 (Nat.zero_le _) ?_ ?_
  ·simp (maxSteps:=1000000) only [↓Zo,Ze,Zd,Zn,gSt,gS0,Ya,Yb,↓reduceIte,reduceCtorEq,Yc,Yd,Ye,Yf,Yg,Yj,Yk,Yl,Ym,Yn,Tryz.ntmps147,Tryz.results147,gTT]
   simp [waF]
  intro j hj
  simp (maxSteps:=1000000) only [↓Zo,Ze,Zd,Zn,gSt,gS0,Ya,Yb,↓reduceIte,reduceCtorEq,Yc,Yd,Ye,Yf,Yg,Yj,Yk,Yl,Ym,Yn,Tryz.ntmps147,Tryz.results147,gTT]
  have hfl:=ZBy s (fr+g) j
  refine ⟨fun h2=>⟨by decide,?_⟩,fun h2=>?_⟩
  ·have hjk:j < k.toNat:=by have:=of_decide_eq_true h2; omega
   have hgo:=ZKn (s:=s) (i:=fr+(g:Int)) (c:=(j:Int)) hs (by omega) (by omega)
   rw [hgo,ZDk,List.append_assoc]
   exact ⟨by unfold Zag; rw [List.length_append]; omega,⟨(Zaz _ (by omega)).symm,rfl,rfl⟩,by omega,by omega⟩
  ·have hjk:j=k.toNat:=by have:=of_decide_eq_false h2; omega
   subst hjk
   have hw:IntKind.i64.wrap (fr+(g:Int)+1)=fr+((g+1:Nat):Int):=by rw [IntWalk.i64_in _ (by omega)]; omega
   exact ⟨⟨hw.symm,rfl,rfl⟩,by omega,by omega⟩
 ·have:g=m.toNat:=by have:=of_decide_eq_false h1; omega
  rw [this]
def ZoI:List V→Zf→Zw→Name→Option Ent
 | [.c (.d (.int .i64 s)),.c (.d (.int .i64 k)),.c (.d (.int .i64 fr)),.c (.d (.int .i64 m))],[],[],_=>some ⟨(-1000≤s∧s≤1000)∧(-8≤k∧k≤8)∧(0≤fr∧fr≤1000)∧(0≤m∧m≤1000),.agg [.d (.int .i64 k),.d (.list (LI .i32 (waO s k fr m.toNat)))],[],[]⟩
 | _,_,_,_=>none
def Zyf:=And.intro (@ZoI.eq_1) (@ZoI.eq_1)
theorem Zyg:Snd Tryz.prog 147 ZoI:=by
 intro vs b k n e h hn hp
 unfold ZoI at h
 split at h
 ·cases h; obtain ⟨hp0,hp1,hp2,hp3⟩:=hp; exact (ZBh _ _ _ _ hp0 hp1 hp2 hp3).lift rfl _
 ·cases h
end Go.Vam
end
