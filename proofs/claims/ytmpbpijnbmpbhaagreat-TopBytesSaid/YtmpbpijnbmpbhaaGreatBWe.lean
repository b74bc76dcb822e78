/- A part of the proof. Conditions: none. -/
import Derived.Test.YtmpbpijnbmpbhaaGreatBWc
section
set_option linter.unusedVariables false
set_option linter.defProp false
set_option linter.unusedSimpArgs false
set_option maxRecDepth 40000
set_option maxHeartbeats 4000000
namespace Go.Vam
open Go.Proofs
open Nat renaming reduceShiftRight→Ya,reduceMod→Yb,reduceEqDiff→Yc,reduceLT→Yd,reduceLeDiff→Ye,reduceAdd→Yf,reduceMul→Yg
open Int renaming reduceLE→Yj,reduceLT→Yk,reduceNeg→Yl,reduceAdd→Ym,reduceToNat→Yn
def btw (a b f P:Int):Int:=(a*(P - f)+b*f+P / 2) / P
theorem ZFU {x P:Int} (hP:0 < P):(if x.tmod P < 0 then x.tdiv P - 1 else x.tdiv P)=x / P:=by
 have h1:=Int.mul_tdiv_add_tmod x P
 have h2:=Int.lt_tmod_of_pos x hP
 have h3:=Int.tmod_lt_of_pos x hP
 have key:∀ q r:Int,P*q+r=x→0≤r→r < P→q=x / P:=fun q r h ha hb=>by
  rw [← h,Int.mul_add_ediv_left _ _ (by omega),Int.ediv_eq_zero_of_lt ha hb,Int.add_zero]
 split
 ·refine key _ (x.tmod P+P) ?_ (by omega) (by omega)
  rw [Int.mul_sub]; omega
 ·exact key _ (x.tmod P) h1 (by omega) h3
theorem ZHl {a b f P M:Int} (hP:0 < P) (hf:0≤f∧f < P) (ha:a≤M) (hb:b≤M):btw a b f P≤M:=by
 have h1:=Int.mul_le_mul_of_nonneg_right ha (show 0≤P - f by omega)
 have h2:=Int.mul_le_mul_of_nonneg_right hb hf.1
 have h3:M*(P - f)+M*f=M*P:=by rw [← Int.mul_add]; congr 1; omega
 unfold btw
 have h4:a*(P - f)+b*f+P / 2 < (M+1)*P:=by
  have:(M+1)*P=M*P+P:=by rw [Int.add_mul,Int.one_mul]
  omega
 have:=Int.ediv_lt_of_lt_mul hP h4
 omega
theorem ZHk {a b f P m:Int} (hP:0 < P) (hf:0≤f∧f < P) (ha:m≤a) (hb:m≤b):m≤btw a b f P:=by
 have h1:=Int.mul_le_mul_of_nonneg_right ha (show 0≤P - f by omega)
 have h2:=Int.mul_le_mul_of_nonneg_right hb hf.1
 have h3:m*(P - f)+m*f=m*P:=by rw [← Int.mul_add]; congr 1; omega
 unfold btw
 exact Int.le_ediv_of_mul_le hP (by omega)
theorem ZEO {a b f P:Int} (hP:0 < P) (hf:0≤f∧f < P) (ha:-8388608≤a∧a≤8388607) (hb:-8388608≤b∧b≤8388607):-8388608≤btw a b f P∧btw a b f P≤8388607 :=
 ⟨ZHk hP hf ha.1 hb.1,ZHl hP hf ha.2 hb.2⟩
theorem ZNv {x y A B:Int} (h1:-A≤x) (h2:x≤A) (h3:0≤y) (h4:y≤B) (hA:0≤A):-(A*B)≤x*y∧x*y≤A*B:=by
 have e1:x*y≤A*y:=Int.mul_le_mul_of_nonneg_right h2 h3
 have e2:A*y≤A*B:=Int.mul_le_mul_of_nonneg_left h4 hA
 have e3:-A*y≤x*y:=Int.mul_le_mul_of_nonneg_right h1 h3
 have e4:-A*y=-(A*y):=Int.neg_mul A y
 omega
def Zt0 (a b f P:Int):Int:=IntKind.i64.wrap (IntKind.i64.wrap (IntKind.i64.wrap (IntKind.i64.wrap a*IntKind.i64.wrap (P - f))+IntKind.i64.wrap (IntKind.i64.wrap b*f))+IntKind.i64.wrap (P.tdiv 2))
theorem ZGD {a b f P:Int} (hP:65536≤P∧P≤50331648000) (hf:0≤f∧f < P) (ha:-8388608≤a∧a≤8388607) (hb:-8388608≤b∧b≤8388607):Zt0 a b f P=a*(P - f)+b*f+P / 2∧-1000000000000000000≤Zt0 a b f P∧Zt0 a b f P≤1000000000000000000:=by
 have h1:=ZNv (x:=a) (y:=P - f) (A:=8388608) (B:=50331648000) (by omega) (by omega) (by omega) (by omega) (by decide)
 have h2:=ZNv (x:=b) (y:=f) (A:=8388608) (B:=50331648000) (by omega) (by omega) (by omega) (by omega) (by decide)
 have e:Zt0 a b f P=a*(P - f)+b*f+P / 2:=by
  unfold Zt0
  rw [IntWalk.i64_in a (by omega),IntWalk.i64_in b (by omega),IntWalk.i64_in (P - f) (by omega),IntWalk.i64_in (a*(P - f)) (by omega),IntWalk.i64_in (b*f) (by omega),IntWalk.i64_in (a*(P - f)+b*f) (by omega),
   Int.tdiv_eq_ediv_of_nonneg (by omega),IntWalk.i64_in (P / 2) (by omega),IntWalk.i64_in _ (by omega)]
 rw [e]
 exact ⟨rfl,by omega,by omega⟩
theorem ZCy {a b f P:Int} (hP:65536≤P∧P≤50331648000) (hf:0≤f∧f < P) (ha:-8388608≤a∧a≤8388607) (hb:-8388608≤b∧b≤8388607) :
  (decide ((Zt0 a b f P).tmod P < 0)=true→IntKind.i32.wrap (IntKind.i64.wrap (IntKind.i64.wrap ((Zt0 a b f P).tdiv P) - 1))=btw a b f P)∧(decide ((Zt0 a b f P).tmod P < 0)=false→IntKind.i32.wrap (IntKind.i64.wrap ((Zt0 a b f P).tdiv P))=btw a b f P):=by
 obtain ⟨e,e1,e2⟩:=ZGD hP hf ha hb
 have hb2:=ZEO (P:=P) (by omega) hf ha hb
 have hg:=ZFU (x:=Zt0 a b f P) (P:=P) (by omega)
 have hbt:Zt0 a b f P / P=btw a b f P:=by rw [e]; rfl
 rw [hbt] at hg
 generalize hq:(Zt0 a b f P).tdiv P=q at *
 refine ⟨fun h=>?_,fun h=>?_⟩
 ·rw [if_pos (of_decide_eq_true h)] at hg
  rw [IntWalk.i64_in q (by omega),IntWalk.i64_in (q - 1) (by omega),hg,IntWalk.i32_in _ (by omega)]
 ·rw [if_neg (of_decide_eq_false h)] at hg
  rw [hg,IntWalk.i64_in _ (by omega),IntWalk.i32_in _ (by omega)]
def frA (x:Rs) (k:Nat):Nat:=min (k*x.c.toNat) (x.l.length - x.c.toNat)
def gx (x:Rs) (k ch:Nat):Int:=(x.l[frA x k+ch]?).getD 0
def qN (p:Ph) (i:Nat):Nat:=(qAt p i).toNat
def ZNx (x:Rs) (i ch:Nat):Int:=btw (gx x (qN x.p i) ch) (gx x (qN x.p i+1) ch) (fAt x.p i) (prt x.p)
def Zla (x:Rs) (i n:Nat):List Int:=(List.range n).map (ZNx x i)
def ZcQ (x:Rs):Nat→List Int
 | 0=>[]
 | n+1=>ZcQ x n++Zla x n x.c.toNat
theorem ZiK (x:Rs) (i n:Nat):(Zla x i n).length=n:=by simp [Zla]
theorem ZkO (x:Rs) (i n:Nat):Zla x i (n+1)=Zla x i n++[ZNx x i n]:=by simp [Zla,List.range_succ]
theorem Zd9 (x:Rs):∀ n,(ZcQ x n).length=n*x.c.toNat
 | 0=>by simp [ZcQ]
 | n+1=>by rw [ZcQ,List.length_append,ZiK,Zd9 x n,Nat.add_mul,Nat.one_mul]
def poE (x:Rs) (n:Int):Int:=adE x.p n
def poC (x:Rs) (n:Int):Int:=if poE x n=0 then x.c else 0
def poO (x:Rs) (n:Int):List Int:=if poE x n=0 then ZcQ x n.toNat else []
def poR (x:Rs) (n:Int):Rs:=if poE x n=0 then ⟨x.c,adP x.p n,x.l.drop (min x.l.length (qN x.p n.toNat*x.c.toNat))⟩ else rs0
theorem Zpf {p:Ph} {n:Int} (h:adE p n=0):phC p n=0∧adP p n=⟨p.n,p.d,p.a,p.p+qAt p n,fAt p n⟩:=by
 have h0:phC p n=0:=by
  unfold adE at h
  split at h
  ·assumption
  ·rename_i h1; exact absurd h h1
 refine ⟨h0,?_⟩
 unfold adP
 rw [if_pos h]
 simp [atP,atF,h0]
theorem Zic {x:Rs} (hv:rsV x=true) (hl:x.l.length≤1000000) (hne:0 < x.l.length) (k:Nat):frA x k+x.c.toNat≤x.l.length∧x.c.toNat≤x.l.length:=by
 obtain ⟨⟨k1,k2⟩,k3,k4,k5⟩:=ZW (ZA hv).2 hl
 have hw:1≤x.l.length / x.c.toNat:=by
  rcases Nat.eq_zero_or_pos (x.l.length / x.c.toNat) with h | h
  ·rw [h,Nat.zero_mul] at k3; omega
  ·exact h
 have:1*x.c.toNat≤x.l.length / x.c.toNat*x.c.toNat:=Nat.mul_le_mul_right _ hw
 unfold frA
 omega
theorem Zm6 {w q c len:Nat} (h:len=w*c):min w q*c=min len (q*c):=by
 rcases Nat.le_total w q with h1 | h1
 ·have:=Nat.mul_le_mul_right c h1
  rw [Nat.min_eq_left h1]; omega
 ·have:=Nat.mul_le_mul_right c h1
  rw [Nat.min_eq_right h1]; omega
theorem ZfW {p:Ph} (h:phV p=true) {g:Nat} (hg:g≤65536):((qN p g:Nat):Int)=qAt p g∧qN p g≤62000000000:=by
 have:=Zbk h (n:=(g:Int)) (by omega)
 unfold qN
 omega
theorem at_eq {p:Ph} (h:phV p=true) {g:Nat} (hg:g≤65536):atP p g=p.p+qN p g∧atF p g=fAt p g∧IntKind.i64.wrap (atP p g - p.p)=((qN p g:Nat):Int):=by
 have h0:=ZfA h (n:=(g:Int)) (by omega)
 obtain ⟨h1,h2⟩:=ZfW h hg
 have e:atP p g=p.p+qN p g:=by unfold atP; rw [if_pos h0,h1]
 refine ⟨e,by unfold atF; rw [if_pos h0],?_⟩
 rw [e,IntWalk.i64_in _ (by omega)]
 omega
theorem ZET {x:Rs} (hv:rsV x=true) (hl:x.l.length≤1000000) (hne:0 < x.l.length) {k:Nat} (hk:k≤100000000000) :
  IntKind.i64.wrap ((if IntKind.i64.wrap (waN x - 1) < (k:Int) then IntKind.i64.wrap (waN x - 1) else (k:Int))*x.c)=((frA x k:Nat):Int):=by
 obtain ⟨⟨k1,k2⟩,k3,k4,k5⟩:=ZW (ZA hv).2 hl
 have hw:waN x=((x.l.length / x.c.toNat:Nat):Int):=by unfold waN; rw [if_pos hv]
 rw [hw]
 generalize x.l.length / x.c.toNat=w at *
 have hw1:1≤w:=by
  rcases Nat.eq_zero_or_pos w with h | h
  ·rw [h,Nat.zero_mul] at k3; omega
  ·exact h
 have hc:(x.c.toNat:Int)=x.c:=by omega
 have e1:(if IntKind.i64.wrap ((w:Int) - 1) < (k:Int) then IntKind.i64.wrap ((w:Int) - 1) else (k:Int))=((min (w - 1) k:Nat):Int):=by
  rw [IntWalk.i64_in ((w:Int) - 1) (by omega)]; split <;> omega
 have e2:((min (w - 1) k:Nat):Int)*x.c=((min (w - 1) k*x.c.toNat:Nat):Int):=by rw [Int.natCast_mul,hc]
 have e3:min (w - 1) k*x.c.toNat=frA x k:=by
  have e4:(w - 1)*x.c.toNat=x.l.length - x.c.toNat:=by rw [Nat.sub_mul,Nat.one_mul]; omega
  unfold frA
  rw [Zm6 rfl,e4,Nat.min_comm]
 have h5:=Zic hv hl hne k
 rw [e1,e2,e3,IntWalk.i64_in _ (by omega)]
theorem ZxC (c n d a p f:Int) (l:List Int) (i:Int) (hl:l.length≤1000000) (hv:rsV ⟨c,⟨n,d,a,p,f⟩,l⟩=true) (hne:0 < l.length) (hi:0≤i∧i≤1000000000000):Spec Tryz.prog 0 220 [.agg [.d (.int .i64 c),.d (.int .i64 n),.d (.int .i64 d),.d (.int .i64 a),.d (.int .i64 p),.d (.int .i64 f),.d (.list (LI .i32 l))],vI .i64 i] [] [] (vL (LI .i32 ((l.drop (frA ⟨c,⟨n,d,a,p,f⟩,l⟩ i.toNat)).take c.toNat))) [] []:=by
 refine spec_of_E (X:=⟨Tryz.prog,tt,Tryz.f220.ntmps,1,fun _=>0,(tab [])⟩) (M:=[(3,[0,0,0,0,0,2138046583,0,0,0,0,0,1073741943,0])]) (m:=119) rfl rfl ⟨Z7,ZI Zb _ rfl rfl⟩ Zs Tryz.func220 rfl (by decide) (by show (2:Nat)≤_; exact Nat.le_of_ble_eq_true rfl) ⟨by simp [V.has,C.has],by simp [C.has],by simp⟩ ?_
 simp (maxSteps:=1000000) only [↓Zn,Ze,Zd,Zm,gSt,gS0,Ya,Yb,↓reduceIte,reduceCtorEq,Yc,Yd,Ye,Yf,Yg,Yj,Yk,Yl,Ym,Yn,Tryz.ntmps220,Tryz.results220,gTT]
 obtain ⟨⟨k1,k2⟩,k3,k4,k5⟩:=ZW (ZA hv).2 hl
 obtain ⟨h1,h2⟩:=Zic hv hl hne i.toNat
 simp only at k1 k2 h1 h2
 have hc:(c.toNat:Int)=c:=by omega
 have hi2:(i.toNat:Int)=i:=by omega
 have hm:i*c=((i.toNat*c.toNat:Nat):Int):=by rw [Int.natCast_mul,hc,hi2]
 have hb:=Nat.mul_le_mul (show i.toNat≤1000000000000 by omega) (show c.toNat≤8 by omega)
 have e:(if IntKind.i64.wrap ((l.length:Int) - c) < IntKind.i64.wrap (i*c) then IntKind.i64.wrap ((l.length:Int) - c) else IntKind.i64.wrap (i*c))=((frA ⟨c,⟨n,d,a,p,f⟩,l⟩ i.toNat:Nat):Int):=by
  rw [hm]
  unfold frA
  simp only
  generalize i.toNat*c.toNat=m at *
  rw [IntWalk.i64_in ((l.length:Int) - c) (by omega),IntWalk.i64_in (m:Int) (by omega)]
  split <;> omega
 rw [e]
 generalize frA ⟨c,⟨n,d,a,p,f⟩,l⟩ i.toNat=q at *
 have e2:IntKind.i64.wrap ((q:Int)+c)=((q+c.toNat:Nat):Int):=by rw [IntWalk.i64_in _ (by omega)]; omega
 rw [e2,Int.toNat_natCast,Int.toNat_natCast,Nat.add_sub_cancel_left]
 exact ⟨⟨by omega,by omega,by omega,by omega⟩,rfl⟩
def Zhh:List V→Zf→Zr→Name→Option Ent
 | [.agg [.d (.int .i64 c),.d (.int .i64 n),.d (.int .i64 d),.d (.int .i64 a),.d (.int .i64 p),.d (.int .i64 f),.d (.list q_l)],.c (.d (.int .i64 i))],[],[],_=>some ⟨(Zc q_l).length≤1000000∧rsV ⟨c,⟨n,d,a,p,f⟩,(Zc q_l)⟩=true∧0 < (Zc q_l).length∧(0≤i∧i≤1000000000000)∧q_l=LI .i32 (Zc q_l),vL (LI .i32 (((Zc q_l).drop (frA ⟨c,⟨n,d,a,p,f⟩,(Zc q_l)⟩ i.toNat)).take c.toNat)),[],[]⟩
 | _,_,_,_=>none
def ZaN:=And.intro (@Zhh.eq_1) (@Zhh.eq_1)
theorem Zlu:Snd Tryz.prog 220 Zhh:=by
 intro vs b k n e h hn hp
 unfold Zhh at h
 split at h
 ·cases h; obtain ⟨hp0,hp1,hp2,hp3,hq0⟩:=hp; obtain ⟨_,rfl⟩:=Zq hq0; simp only [Zi,Zo,Zj,Zp] at hp0 hp1 hp2 hp3 ⊢; exact (ZxC _ _ _ _ _ _ _ _ hp0 hp1 hp2 hp3).lift rfl _
 ·cases h
theorem ZqT (c n d a p f:Int) (l:List Int) (i:Int) (hl:l.length≤1000000) (hv:rsV ⟨c,⟨n,d,a,p,f⟩,l⟩=true) (hi:0≤i∧i≤65536) (hne:0 < i→0 < l.length):Spec Tryz.prog 0 164 [.agg [.d (.int .i64 c),.d (.int .i64 n),.d (.int .i64 d),.d (.int .i64 a),.d (.int .i64 p),.d (.int .i64 f),.d (.list (LI .i32 l))],vI .i64 i] [] [] (.tup [.agg [.int .i64 (poC ⟨c,⟨n,d,a,p,f⟩,l⟩ i),.list (LI .i32 (poO ⟨c,⟨n,d,a,p,f⟩,l⟩ i))],.agg [.int .i64 (poR ⟨c,⟨n,d,a,p,f⟩,l⟩ i).c,.int .i64 (poR ⟨c,⟨n,d,a,p,f⟩,l⟩ i).p.n,.int .i64 (poR ⟨c,⟨n,d,a,p,f⟩,l⟩ i).p.d,.int .i64 (poR ⟨c,⟨n,d,a,p,f⟩,l⟩ i).p.a,.int .i64 (poR ⟨c,⟨n,d,a,p,f⟩,l⟩ i).p.p,.int .i64 (poR ⟨c,⟨n,d,a,p,f⟩,l⟩ i).p.f,.list (LI .i32 (poR ⟨c,⟨n,d,a,p,f⟩,l⟩ i).l)],.int .i64 (poE ⟨c,⟨n,d,a,p,f⟩,l⟩ i)]) [] []:=by
 refine sE (md:=fun s=>if s=45 then 1 else 0) (L:=[(218,ZlA),(219,Zr4),(220,Zhh),(131,Zes)]) [(15,[0,0,0,0,0,5149829387557928694202194968567,0,0,0,0,0,5149695196791951470363802583031,0,0,0,0,0,5144878836326606787731773177847,0,0,0]),(22,[0,0,0,0,0,169891958281861993975001811129907265527,0,0,0,0,0,127688969415690915010305936966006325239,0,0])] 5070602433969483971237825724407 (Za Zot (Za ZmB (Za Zlu (Za Ze9 Zb)))) Tryz.func164 rfl rfl rfl ?_
 simp (maxSteps:=1000000) only [↓Zn,Ze,Zd,Zm,gSt,gS0,Ya,Yb,↓reduceIte,reduceCtorEq,Yc,Yd,Ye,Yf,Yg,Yj,Yk,Yl,Ym,Yn,Zbg,ZbM,ZaN,Zaa,Tryz.ntmps164,Tryz.results164,gTT]
 obtain ⟨⟨k1,k2⟩,k3,k4,k5⟩:=ZW (ZA hv).2 hl
 have hp:=(ZA hv).1
 simp only at k1 k2 hp k3
 have hc:(c.toNat:Int)=c:=by omega
 have hi2:(i.toNat:Int)=i:=by omega
 have hm:i*c=((i.toNat*c.toNat:Nat):Int):=by rw [Int.natCast_mul,hc,hi2]
 have hmb:=Nat.mul_le_mul (show i.toNat≤65536 by omega) (show c.toNat≤8 by omega)
 have hd:=ZbG hp
 simp only at hd
 have hpr:=Zdf hp
 have hP:IntKind.i64.wrap (d*65536)=prt ⟨n,d,a,p,f⟩:=rfl
 rw [hP]
 refine ⟨fun h=>?_,fun h=>⟨by kernel_rfl,?_⟩⟩
 ·have hne:adE ⟨n,d,a,p,f⟩ i≠0:=by simpa using h
  simp [poC,poO,poR,poE,hne,rs0,Zw]
 have he:adE ⟨n,d,a,p,f⟩ i=0:=by simpa using h
 obtain ⟨he0,hadP⟩:=Zpf he
 rw [hm,IntWalk.i64_in ((i.toNat*c.toNat:Nat):Int) (by omega)]
 refine ⟨⟨by omega,by omega,by omega⟩,?_⟩
 refine Zk (fun g=>⟨[(48,vI .i64 (g:Nat))],[(⟨1,10⟩,[.d (.int .i64 c),.own ⟨1,45⟩ (LI .i32 (ZcQ ⟨c,⟨n,d,a,p,f⟩,l⟩ g))])],[(⟨1,45⟩,⟨false,1,LI .i32 (ZcQ ⟨c,⟨n,d,a,p,f⟩,l⟩ g)⟩)]⟩) (fun g=>g≤i.toNat) (fun g=>i.toNat - g) (·+1) 0 (Nat.zero_le _) ?_ ?_
 ·simp (maxSteps:=1000000) only [↓Zn,Ze,Zd,Zm,gSt,gS0,Ya,Yb,↓reduceIte,reduceCtorEq,Yc,Yd,Ye,Yf,Yg,Yj,Yk,Yl,Ym,Yn,Zbg,ZbM,ZaN,Zaa,Tryz.ntmps164,Tryz.results164,gTT]
  exact ⟨rfl,rfl,rfl⟩
 intro g hg
 simp (maxSteps:=1000000) only [↓Zn,Ze,Zd,Zm,gSt,gS0,Ya,Yb,↓reduceIte,reduceCtorEq,Yc,Yd,Ye,Yf,Yg,Yj,Yk,Yl,Ym,Yn,Zbg,ZbM,ZaN,Zaa,Tryz.ntmps164,Tryz.results164,gTT]
 refine ⟨fun h1=>?_,fun h1=>?_⟩
 ·have hgi:(g:Int) < i:=of_decide_eq_true h1
  have hg6:g≤65536:=by omega
  obtain ⟨q1,q2,q3⟩:=at_eq hp hg6
  have q4:=(ZfW hp hg6).2
  simp only at q3
  rw [q3]
  have q5:IntKind.i64.wrap (((qN ⟨n,d,a,p,f⟩ g:Nat):Int)+1)=((qN ⟨n,d,a,p,f⟩ g+1:Nat):Int):=by rw [IntWalk.i64_in _ (by omega)]; rfl
  rw [q5]
  have hl0:0 < l.length:=hne (by omega)
  have hfa:=Zic hv hl hl0 (qN ⟨n,d,a,p,f⟩ g)
  have hfb:=Zic hv hl hl0 (qN ⟨n,d,a,p,f⟩ g+1)
  simp only at hfa hfb
  have hfr0:=(Zbk hp (n:=(g:Int)) (by omega)).2
  have hfr:0≤fAt ⟨n,d,a,p,f⟩ g∧fAt ⟨n,d,a,p,f⟩ g < prt ⟨n,d,a,p,f⟩:=⟨hfr0.1,hfr0.2.1⟩
  refine ⟨by kernel_rfl,⟨hl,hv,hl0,by omega,by omega⟩,⟨hl,hv,hl0,by omega,by omega⟩,?_⟩
  rw [Int.toNat_natCast,Int.toNat_natCast]
  have hA:∀ j,j < c.toNat→(List.take c.toNat (List.drop (frA ⟨c,⟨n,d,a,p,f⟩,l⟩ (qN ⟨n,d,a,p,f⟩ g)) l))[j]?.getD 0=gx ⟨c,⟨n,d,a,p,f⟩,l⟩ (qN ⟨n,d,a,p,f⟩ g) j:=fun j hj=>by
   rw [List.getElem?_take_of_lt hj,List.getElem?_drop]; rfl
  have hB:∀ j,j < c.toNat→(List.take c.toNat (List.drop (frA ⟨c,⟨n,d,a,p,f⟩,l⟩ (qN ⟨n,d,a,p,f⟩ g+1)) l))[j]?.getD 0=gx ⟨c,⟨n,d,a,p,f⟩,l⟩ (qN ⟨n,d,a,p,f⟩ g+1) j:=fun j hj=>by
   rw [List.getElem?_take_of_lt hj,List.getElem?_drop]; rfl
  have hlA:(List.take c.toNat (List.drop (frA ⟨c,⟨n,d,a,p,f⟩,l⟩ (qN ⟨n,d,a,p,f⟩ g)) l)).length=c.toNat:=by rw [List.length_take,List.length_drop]; omega
  have hlB:(List.take c.toNat (List.drop (frA ⟨c,⟨n,d,a,p,f⟩,l⟩ (qN ⟨n,d,a,p,f⟩ g+1)) l)).length=c.toNat:=by rw [List.length_take,List.length_drop]; omega
  generalize List.take c.toNat (List.drop (frA ⟨c,⟨n,d,a,p,f⟩,l⟩ (qN ⟨n,d,a,p,f⟩ g)) l)=FA at *
  generalize List.take c.toNat (List.drop (frA ⟨c,⟨n,d,a,p,f⟩,l⟩ (qN ⟨n,d,a,p,f⟩ g+1)) l)=FB at *
  have hol:=Zd9 ⟨c,⟨n,d,a,p,f⟩,l⟩ g
  simp only at hol
  have hgc:=Nat.mul_le_mul (show g≤65536 by omega) (show c.toNat≤8 by omega)
  refine Zk (fun j=>⟨[(73,vI .i64 (j:Nat))],[(⟨1,10⟩,[.d (.int .i64 c),.own ⟨1,45⟩ (LI .i32 (ZcQ ⟨c,⟨n,d,a,p,f⟩,l⟩ g++Zla ⟨c,⟨n,d,a,p,f⟩,l⟩ g j))])],[(⟨1,45⟩,⟨false,1,LI .i32 (ZcQ ⟨c,⟨n,d,a,p,f⟩,l⟩ g++Zla ⟨c,⟨n,d,a,p,f⟩,l⟩ g j)⟩)]⟩) (fun j=>j≤c.toNat) (fun j=>c.toNat - j) (·+1) 0 (Nat.zero_le _) ?_ ?_
  ·simp (maxSteps:=1000000) only [↓Zn,Ze,Zd,Zm,gSt,gS0,Ya,Yb,↓reduceIte,reduceCtorEq,Yc,Yd,Ye,Yf,Yg,Yj,Yk,Yl,Ym,Yn,Zbg,ZbM,ZaN,Zaa,Tryz.ntmps164,Tryz.results164,gTT]
   simp [Zla]
  intro j hj
  simp (maxSteps:=1000000) only [↓Zn,Ze,Zd,Zm,gSt,gS0,Ya,Yb,↓reduceIte,reduceCtorEq,Yc,Yd,Ye,Yf,Yg,Yj,Yk,Yl,Ym,Yn,Zbg,ZbM,ZaN,Zaa,Tryz.ntmps164,Tryz.results164,gTT]
  have hfl:=ZiK ⟨c,⟨n,d,a,p,f⟩,l⟩ g j
  refine ⟨fun h2=>?_,fun h2=>?_⟩
  ·have hjc:j < c.toNat:=by have:=of_decide_eq_true h2; omega
   have sA:=Ze2 k5 (frA ⟨c,⟨n,d,a,p,f⟩,l⟩ (qN ⟨n,d,a,p,f⟩ g)+j)
   have sB:=Ze2 k5 (frA ⟨c,⟨n,d,a,p,f⟩,l⟩ (qN ⟨n,d,a,p,f⟩ g+1)+j)
   have hq:=ZCy (a:=gx ⟨c,⟨n,d,a,p,f⟩,l⟩ (qN ⟨n,d,a,p,f⟩ g) j) (b:=gx ⟨c,⟨n,d,a,p,f⟩,l⟩ (qN ⟨n,d,a,p,f⟩ g+1) j) hpr hfr sA sB
   refine ⟨by kernel_rfl,?_⟩
   rw [hA j hjc,hB j hjc,q2]
   have hs:ZcQ ⟨c,⟨n,d,a,p,f⟩,l⟩ g++Zla ⟨c,⟨n,d,a,p,f⟩,l⟩ g (j+1)=ZcQ ⟨c,⟨n,d,a,p,f⟩,l⟩ g++Zla ⟨c,⟨n,d,a,p,f⟩,l⟩ g j++[btw (gx ⟨c,⟨n,d,a,p,f⟩,l⟩ (qN ⟨n,d,a,p,f⟩ g) j) (gx ⟨c,⟨n,d,a,p,f⟩,l⟩ (qN ⟨n,d,a,p,f⟩ g+1) j) (fAt ⟨n,d,a,p,f⟩ g) (prt ⟨n,d,a,p,f⟩)]:=by
    rw [ZkO,List.append_assoc]; rfl
   rw [hs]
   unfold Zt0 at hq
   refine ⟨by omega,by omega,by decide,by omega,by omega,fun h3=>?_,fun h3=>?_⟩
   ·rw [hq.1 h3]
    exact ⟨by unfold Zab; rw [List.length_append]; omega,⟨(ZY _ (by omega)).symm,rfl,rfl⟩,by omega,by omega⟩
   ·rw [hq.2 h3]
    exact ⟨by unfold Zab; rw [List.length_append]; omega,⟨(ZY _ (by omega)).symm,rfl,rfl⟩,by omega,by omega⟩
  ·have hjc:j=c.toNat:=by have:=of_decide_eq_false h2; omega
   subst hjc
   exact ⟨⟨(ZY _ (by omega)).symm,rfl,rfl⟩,by omega,by omega⟩
 ·have hgi:g=i.toNat:=by have:=of_decide_eq_false h1; omega
  have hq:=ZfW hp (g:=i.toNat) (by omega)
  rw [hi2] at hq
  refine ⟨by kernel_rfl,?_⟩
  have hpp:(adP ⟨n,d,a,p,f⟩ i).p - p=((qN ⟨n,d,a,p,f⟩ i.toNat:Nat):Int):=by rw [hadP,hq.1]; show p+_ - p=_; omega
  rw [hpp]
  have hgone:(if IntKind.i64.wrap (IntKind.i64.wrap ((qN ⟨n,d,a,p,f⟩ i.toNat:Nat):Int)*c) < (l.length:Int) then IntKind.i64.wrap (IntKind.i64.wrap ((qN ⟨n,d,a,p,f⟩ i.toNat:Nat):Int)*c) else (l.length:Int))=((min l.length (qN ⟨n,d,a,p,f⟩ i.toNat*c.toNat):Nat):Int):=by
   have hqc:=Nat.mul_le_mul hq.2 (show c.toNat≤8 by omega)
   rw [IntWalk.i64_in ((qN ⟨n,d,a,p,f⟩ i.toNat:Nat):Int) (by omega)]
   have e:((qN ⟨n,d,a,p,f⟩ i.toNat:Nat):Int)*c=((qN ⟨n,d,a,p,f⟩ i.toNat*c.toNat:Nat):Int):=by rw [Int.natCast_mul,hc]
   rw [e,IntWalk.i64_in _ (by omega)]
   split <;> omega
  rw [hgone,Int.toNat_natCast]
  have htk:∀ m,List.take (l.length - m) (List.drop m l)=List.drop m l:=fun m=>List.take_of_length_le (by rw [List.length_drop]; omega)
  rw [htk]
  refine ⟨⟨by omega,by omega,by omega⟩,by rw [List.length_drop]; omega,by kernel_rfl,?_⟩
  simp [poC,poO,poR,poE,he,hgi]
def Zdz:List V→Zf→Zr→Name→Option Ent
 | [.agg [.d (.int .i64 c),.d (.int .i64 n),.d (.int .i64 d),.d (.int .i64 a),.d (.int .i64 p),.d (.int .i64 f),.d (.list q_l)],.c (.d (.int .i64 i))],[],[],_=>some ⟨(Zc q_l).length≤1000000∧rsV ⟨c,⟨n,d,a,p,f⟩,(Zc q_l)⟩=true∧(0≤i∧i≤65536)∧(0 < i→0 < (Zc q_l).length)∧q_l=LI .i32 (Zc q_l),.tup [.agg [.int .i64 (poC ⟨c,⟨n,d,a,p,f⟩,(Zc q_l)⟩ i),.list (LI .i32 (poO ⟨c,⟨n,d,a,p,f⟩,(Zc q_l)⟩ i))],.agg [.int .i64 (poR ⟨c,⟨n,d,a,p,f⟩,(Zc q_l)⟩ i).c,.int .i64 (poR ⟨c,⟨n,d,a,p,f⟩,(Zc q_l)⟩ i).p.n,.int .i64 (poR ⟨c,⟨n,d,a,p,f⟩,(Zc q_l)⟩ i).p.d,.int .i64 (poR ⟨c,⟨n,d,a,p,f⟩,(Zc q_l)⟩ i).p.a,.int .i64 (poR ⟨c,⟨n,d,a,p,f⟩,(Zc q_l)⟩ i).p.p,.int .i64 (poR ⟨c,⟨n,d,a,p,f⟩,(Zc q_l)⟩ i).p.f,.list (LI .i32 (poR ⟨c,⟨n,d,a,p,f⟩,(Zc q_l)⟩ i).l)],.int .i64 (poE ⟨c,⟨n,d,a,p,f⟩,(Zc q_l)⟩ i)],[],[]⟩
 | _,_,_,_=>none
def Zh1:=And.intro (@Zdz.eq_1) (@Zdz.eq_1)
theorem Zh2:Snd Tryz.prog 164 Zdz:=by
 intro vs b k n e h hn hp
 unfold Zdz at h
 split at h
 ·cases h; obtain ⟨hp0,hp1,hp2,hp3,hq0⟩:=hp; obtain ⟨_,rfl⟩:=Zq hq0; simp only [Zi,Zo,Zj,Zp] at hp0 hp1 hp2 hp3 ⊢; exact (ZqT _ _ _ _ _ _ _ _ hp0 hp1 hp2 hp3).lift rfl _
 ·cases h
theorem Zqv (a b f P:Int) (hP:65536≤P∧P≤50331648000) (hf:0≤f∧f < P) (ha:-8388608≤a∧a≤8388607) (hb:-8388608≤b∧b≤8388607):Spec Tryz.prog 0 230 [vI .i32 a,vI .i32 b,vI .i64 f,vI .i64 P] [] [] (vI .i32 (btw a b f P)) [] []:=by
 refine sE (md:=fun _=>0) (L:=[]) [(1,[0,0,0,0,0,2180974351,0,0,0,0,0,2178942735,0,0,0])] 2147485455 Zb Tryz.func230 rfl rfl rfl ?_
 simp (maxSteps:=1000000) only [↓Zn,Ze,Zd,Zm,gSt,gS0,Ya,Yb,↓reduceIte,reduceCtorEq,Yc,Yd,Ye,Yf,Yg,Yj,Yk,Yl,Ym,Yn,Tryz.ntmps230,Tryz.results230,gTT]
 have h:=ZCy hP hf ha hb
 unfold Zt0 at h
 exact ⟨by decide,by omega,by omega,fun k=>(h.1 k).symm,fun k=>(h.2 k).symm⟩
def Zen:List V→Zf→Zr→Name→Option Ent
 | [.c (.d (.int .i32 a)),.c (.d (.int .i32 b)),.c (.d (.int .i64 f)),.c (.d (.int .i64 P))],[],[],_=>some ⟨(65536≤P∧P≤50331648000)∧(0≤f∧f < P)∧(-8388608≤a∧a≤8388607)∧(-8388608≤b∧b≤8388607),vI .i32 (btw a b f P),[],[]⟩
 | _,_,_,_=>none
def ZaX:=And.intro (@Zen.eq_1) (@Zen.eq_1)
theorem ZnP:Snd Tryz.prog 230 Zen:=by
 intro vs b k n e h hn hp
 unfold Zen at h
 split at h
 ·cases h; obtain ⟨hp0,hp1,hp2,hp3⟩:=hp; exact (Zqv _ _ _ _ hp0 hp1 hp2 hp3).lift rfl _
 ·cases h
theorem Zq1 (c n d a p f:Int) (l:List Int) (i:Int) (hl:l.length≤1000000) (hv:rsV ⟨c,⟨n,d,a,p,f⟩,l⟩=true) (hi:0≤i∧i≤65536) (hne:0 < i→0 < l.length):Spec Tryz.prog 0 175 [.agg [.d (.int .i64 c),.d (.int .i64 n),.d (.int .i64 d),.d (.int .i64 a),.d (.int .i64 p),.d (.int .i64 f),.d (.list (LI .i32 l))],vI .i64 i] [] [] (.agg [.d (.int .i64 c),.d (.list (LI .i32 (ZcQ ⟨c,⟨n,d,a,p,f⟩,l⟩ i.toNat)))]) [] []:=by
 refine spec_of_E (X:=⟨Tryz.prog,tt,Tryz.f175.ntmps,1,fun _=>0,(tab [(100,ZbB),(228,ZjG),(227,ZdW),(230,Zen)])⟩) (M:=[(8,[0,0,0,0,0,81058196227128311,0,0,0,0,0,80519435529518071,0,0,0,0,0]),(12,[0,0,0,0,0,9671403170210113619262455,0,0,0,0,0,9670965060038363017411575,0,0,0,0,0,9652665889917243142208503,0,0,0,0,0,7253554989745369090391031,0])]) (m:=72057594042153975) rfl rfl ⟨Z7,ZI (Za Zcx (Za ZjH (Za ZfK (Za ZnP Zb)))) _ rfl rfl⟩ Zs Tryz.func175 rfl (by decide) (by show (2:Nat)≤_; exact Nat.le_of_ble_eq_true rfl) ⟨by simp [V.has,C.has],by simp [C.has],by simp⟩ ?_
 simp (maxSteps:=1000000) only [↓Zn,Ze,Zd,Zm,gSt,gS0,Ya,Yb,↓reduceIte,reduceCtorEq,Yc,Yd,Ye,Yf,Yg,Yj,Yk,Yl,Ym,Yn,Z9,ZbP,ZaH,ZaX,Tryz.ntmps175,Tryz.results175,gTT]
 obtain ⟨⟨k1,k2⟩,k3,k4,k5⟩:=ZW (ZA hv).2 hl
 have hp:=(ZA hv).1
 simp only at k1 k2 hp k3
 refine ⟨hl,?_⟩
 refine Zdk ⟨1,5⟩ 1 1 ⟨1,99⟩ rfl rfl (by simp (maxSteps:=1000000) only [↓Zn,Ze,Zd,Zm,gSt,gS0,Ya,Yb,↓reduceIte,reduceCtorEq,Yc,Yd,Ye,Yf,Yg,Yj,Yk,Yl,Ym,Yn,Z9,ZbP,ZaH,ZaX,Tryz.ntmps175,Tryz.results175,gTT]) (Nat.le_refl _) ?_
 simp (maxSteps:=1000000) only [↓Zn,Ze,Zd,Zm,gSt,gS0,Ya,Yb,↓reduceIte,reduceCtorEq,Yc,Yd,Ye,Yf,Yg,Yj,Yk,Yl,Ym,Yn,Z9,ZbP,ZaH,ZaX,Tryz.ntmps175,Tryz.results175,gTT]
 refine Zk (fun g=>⟨[(7,vI .i64 (g:Nat))],[(⟨1,5⟩,[.d (.int .i64 c),.own ⟨1,99⟩ (LI .i32 (ZcQ ⟨c,⟨n,d,a,p,f⟩,l⟩ g))])],[(⟨1,99⟩,⟨false,1,LI .i32 (ZcQ ⟨c,⟨n,d,a,p,f⟩,l⟩ g)⟩)]⟩) (fun g=>g≤i.toNat) (fun g=>i.toNat - g) (·+1) 0 (Nat.zero_le _) ?_ ?_
 ·simp (maxSteps:=1000000) only [↓Zn,Ze,Zd,Zm,gSt,gS0,Ya,Yb,↓reduceIte,reduceCtorEq,Yc,Yd,Ye,Yf,Yg,Yj,Yk,Yl,Ym,Yn,Z9,ZbP,ZaH,ZaX,Tryz.ntmps175,Tryz.results175,gTT]
  exact ⟨rfl,rfl,rfl⟩
 intro g hg
 simp (maxSteps:=1000000) only [↓Zn,Ze,Zd,Zm,gSt,gS0,Ya,Yb,↓reduceIte,reduceCtorEq,Yc,Yd,Ye,Yf,Yg,Yj,Yk,Yl,Ym,Yn,Z9,ZbP,ZaH,ZaX,Tryz.ntmps175,Tryz.results175,gTT]
 refine ⟨fun h1=>⟨by kernel_rfl,?_⟩,fun h1=>?_⟩
 ·have hgi:(g:Int) < i:=of_decide_eq_true h1
  have hg6:g≤65536:=by omega
  have hpr:=Zdf hp
  obtain ⟨q1,q2,q3⟩:=at_eq hp hg6
  have q4:=(ZfW hp hg6).2
  simp only at q3
  rw [q3]
  have q5:IntKind.i64.wrap (((qN ⟨n,d,a,p,f⟩ g:Nat):Int)+1)=((qN ⟨n,d,a,p,f⟩ g+1:Nat):Int):=by rw [IntWalk.i64_in _ (by omega)]; rfl
  rw [q5,q2]
  have hl0:0 < l.length:=hne (by omega)
  have hfa:=Zic hv hl hl0 (qN ⟨n,d,a,p,f⟩ g)
  have hfb:=Zic hv hl hl0 (qN ⟨n,d,a,p,f⟩ g+1)
  have hga:=ZET hv hl hl0 (k:=qN ⟨n,d,a,p,f⟩ g) (by omega)
  have hgb:=ZET hv hl hl0 (k:=qN ⟨n,d,a,p,f⟩ g+1) (by omega)
  simp only at hfa hfb hga hgb
  rw [hga,hgb]
  have hfr0:=(Zbk hp (n:=(g:Int)) (by omega)).2
  have hfr:0≤fAt ⟨n,d,a,p,f⟩ g∧fAt ⟨n,d,a,p,f⟩ g < prt ⟨n,d,a,p,f⟩:=⟨hfr0.1,hfr0.2.1⟩
  have hol:=Zd9 ⟨c,⟨n,d,a,p,f⟩,l⟩ g
  simp only at hol
  have hgc:=Nat.mul_le_mul (show g≤65536 by omega) (show c.toNat≤8 by omega)
  refine Zk (fun j=>⟨[(14,vI .i64 (j:Nat))],[(⟨1,5⟩,[.d (.int .i64 c),.own ⟨1,99⟩ (LI .i32 (ZcQ ⟨c,⟨n,d,a,p,f⟩,l⟩ g++Zla ⟨c,⟨n,d,a,p,f⟩,l⟩ g j))])],[(⟨1,99⟩,⟨false,1,LI .i32 (ZcQ ⟨c,⟨n,d,a,p,f⟩,l⟩ g++Zla ⟨c,⟨n,d,a,p,f⟩,l⟩ g j)⟩)]⟩) (fun j=>j≤c.toNat) (fun j=>c.toNat - j) (·+1) 0 (Nat.zero_le _) ?_ ?_
  ·simp (maxSteps:=1000000) only [↓Zn,Ze,Zd,Zm,gSt,gS0,Ya,Yb,↓reduceIte,reduceCtorEq,Yc,Yd,Ye,Yf,Yg,Yj,Yk,Yl,Ym,Yn,Z9,ZbP,ZaH,ZaX,Tryz.ntmps175,Tryz.results175,gTT]
   simp [Zla]
  intro j hj
  simp (maxSteps:=1000000) only [↓Zn,Ze,Zd,Zm,gSt,gS0,Ya,Yb,↓reduceIte,reduceCtorEq,Yc,Yd,Ye,Yf,Yg,Yj,Yk,Yl,Ym,Yn,Z9,ZbP,ZaH,ZaX,Tryz.ntmps175,Tryz.results175,gTT]
  have hfl:=ZiK ⟨c,⟨n,d,a,p,f⟩,l⟩ g j
  refine ⟨fun h2=>?_,fun h2=>?_⟩
  ·have hjc:j < c.toNat:=by have:=of_decide_eq_true h2; omega
   have sA:=Ze2 k5 (frA ⟨c,⟨n,d,a,p,f⟩,l⟩ (qN ⟨n,d,a,p,f⟩ g)+j)
   have sB:=Ze2 k5 (frA ⟨c,⟨n,d,a,p,f⟩,l⟩ (qN ⟨n,d,a,p,f⟩ g+1)+j)
   refine ⟨by kernel_rfl,?_⟩
   have w1:IntKind.i64.wrap (((frA ⟨c,⟨n,d,a,p,f⟩,l⟩ (qN ⟨n,d,a,p,f⟩ g):Nat):Int)+(j:Int))=((frA ⟨c,⟨n,d,a,p,f⟩,l⟩ (qN ⟨n,d,a,p,f⟩ g)+j:Nat):Int):=by rw [IntWalk.i64_in _ (by omega)]; omega
   have w2:IntKind.i64.wrap (((frA ⟨c,⟨n,d,a,p,f⟩,l⟩ (qN ⟨n,d,a,p,f⟩ g+1):Nat):Int)+(j:Int))=((frA ⟨c,⟨n,d,a,p,f⟩,l⟩ (qN ⟨n,d,a,p,f⟩ g+1)+j:Nat):Int):=by rw [IntWalk.i64_in _ (by omega)]; omega
   rw [w1,w2,Int.toNat_natCast,Int.toNat_natCast]
   have hs:ZcQ ⟨c,⟨n,d,a,p,f⟩,l⟩ g++Zla ⟨c,⟨n,d,a,p,f⟩,l⟩ g (j+1)=ZcQ ⟨c,⟨n,d,a,p,f⟩,l⟩ g++Zla ⟨c,⟨n,d,a,p,f⟩,l⟩ g j++[btw (l[frA ⟨c,⟨n,d,a,p,f⟩,l⟩ (qN ⟨n,d,a,p,f⟩ g)+j]?.getD 0) (l[frA ⟨c,⟨n,d,a,p,f⟩,l⟩ (qN ⟨n,d,a,p,f⟩ g+1)+j]?.getD 0) (fAt ⟨n,d,a,p,f⟩ g) (prt ⟨n,d,a,p,f⟩)]:=by
    rw [ZkO,List.append_assoc]; rfl
   rw [hs]
   exact ⟨by omega,by omega,⟨hpr,hfr,sA,sB⟩,by unfold Zab; rw [List.length_append]; omega,⟨(ZY _ (by omega)).symm,rfl,rfl⟩,by omega,by omega⟩
  ·have hjc:j=c.toNat:=by have:=of_decide_eq_false h2; omega
   subst hjc
   exact ⟨⟨(ZY _ (by omega)).symm,rfl,rfl⟩,by omega,by omega⟩
 ·have hgi:g=i.toNat:=by have:=of_decide_eq_false h1; omega
  rw [hgi]
def ZeJ:List V→Zf→Zr→Name→Option Ent
 | [.agg [.d (.int .i64 c),.d (.int .i64 n),.d (.int .i64 d),.d (.int .i64 a),.d (.int .i64 p),.d (.int .i64 f),.d (.list q_l)],.c (.d (.int .i64 i))],[],[],_=>some ⟨(Zc q_l).length≤1000000∧rsV ⟨c,⟨n,d,a,p,f⟩,(Zc q_l)⟩=true∧(0≤i∧i≤65536)∧(0 < i→0 < (Zc q_l).length)∧q_l=LI .i32 (Zc q_l),.agg [.d (.int .i64 c),.d (.list (LI .i32 (ZcQ ⟨c,⟨n,d,a,p,f⟩,(Zc q_l)⟩ i.toNat)))],[],[]⟩
 | _,_,_,_=>none
def ZoI:=And.intro (@ZeJ.eq_1) (@ZeJ.eq_1)
theorem ZoJ:Snd Tryz.prog 175 ZeJ:=by
 intro vs b k n e h hn hp
 unfold ZeJ at h
 split at h
 ·cases h; obtain ⟨hp0,hp1,hp2,hp3,hq0⟩:=hp; obtain ⟨_,rfl⟩:=Zq hq0; simp only [Zi,Zo,Zj,Zp] at hp0 hp1 hp2 hp3 ⊢; exact (Zq1 _ _ _ _ _ _ _ _ hp0 hp1 hp2 hp3).lift rfl _
 ·cases h
theorem Zq6 (c n d a p f:Int) (l:List Int) (i:Int) (hl:l.length≤1000000) (hv:rsV ⟨c,⟨n,d,a,p,f⟩,l⟩=true) (hi:0≤i∧i≤65536):Spec Tryz.prog 0 174 [.agg [.d (.int .i64 c),.d (.int .i64 n),.d (.int .i64 d),.d (.int .i64 a),.d (.int .i64 p),.d (.int .i64 f),.d (.list (LI .i32 l))],vI .i64 i] [] [] (.tup [.agg [.int .i64 (poR ⟨c,⟨n,d,a,p,f⟩,l⟩ i).c,.int .i64 (poR ⟨c,⟨n,d,a,p,f⟩,l⟩ i).p.n,.int .i64 (poR ⟨c,⟨n,d,a,p,f⟩,l⟩ i).p.d,.int .i64 (poR ⟨c,⟨n,d,a,p,f⟩,l⟩ i).p.a,.int .i64 (poR ⟨c,⟨n,d,a,p,f⟩,l⟩ i).p.p,.int .i64 (poR ⟨c,⟨n,d,a,p,f⟩,l⟩ i).p.f,.list (LI .i32 (poR ⟨c,⟨n,d,a,p,f⟩,l⟩ i).l)],.int .i64 (poE ⟨c,⟨n,d,a,p,f⟩,l⟩ i)]) [] []:=by
 refine sE (md:=fun _=>0) (L:=[(229,ZjF),(100,ZbB)]) [] 131575 (Za Zws (Za Zcx Zb)) Tryz.func174 rfl rfl rfl ?_
 simp (maxSteps:=1000000) only [↓Zn,Ze,Zd,Zm,gSt,gS0,Ya,Yb,↓reduceIte,reduceCtorEq,Yc,Yd,Ye,Yf,Yg,Yj,Yk,Yl,Ym,Yn,Zwr,Z9,Tryz.ntmps174,Tryz.results174,gTT]
 obtain ⟨⟨k1,k2⟩,k3,k4,k5⟩:=ZW (ZA hv).2 hl
 have hp:=(ZA hv).1
 simp only at k1 k2 hp k3
 refine ⟨fun h=>?_,fun h=>⟨by kernel_rfl,hl,?_⟩⟩
 ·have hne:adE ⟨n,d,a,p,f⟩ i≠0:=by simpa using h
  simp [poR,poE,hne,rs0,Zw]
 have he:adE ⟨n,d,a,p,f⟩ i=0:=by simpa using h
 obtain ⟨he0,hadP⟩:=Zpf he
 have hc:(c.toNat:Int)=c:=by omega
 have hi2:(i.toNat:Int)=i:=by omega
 have hq:=ZfW hp (g:=i.toNat) (by omega)
 rw [hi2] at hq
 have hpp:(adP ⟨n,d,a,p,f⟩ i).p - p=((qN ⟨n,d,a,p,f⟩ i.toNat:Nat):Int):=by rw [hadP,hq.1]; show p+_ - p=_; omega
 have hw:waN ⟨c,⟨n,d,a,p,f⟩,l⟩=((l.length / c.toNat:Nat):Int):=by unfold waN; rw [if_pos hv]
 have hgm:=Zm6 (q:=qN ⟨n,d,a,p,f⟩ i.toNat) k3
 simp only at k4
 have hgone:IntKind.i64.wrap ((if waN ⟨c,⟨n,d,a,p,f⟩,l⟩ < IntKind.i64.wrap ((adP ⟨n,d,a,p,f⟩ i).p - p) then waN ⟨c,⟨n,d,a,p,f⟩,l⟩ else IntKind.i64.wrap ((adP ⟨n,d,a,p,f⟩ i).p - p))*c)=((min l.length (qN ⟨n,d,a,p,f⟩ i.toNat*c.toNat):Nat):Int):=by
  rw [hpp,hw,← hgm]
  generalize l.length / c.toNat=w at *
  rw [IntWalk.i64_in ((qN ⟨n,d,a,p,f⟩ i.toNat:Nat):Int) (by omega)]
  have e1:(if (w:Int) < ((qN ⟨n,d,a,p,f⟩ i.toNat:Nat):Int) then (w:Int) else ((qN ⟨n,d,a,p,f⟩ i.toNat:Nat):Int))=((min w (qN ⟨n,d,a,p,f⟩ i.toNat):Nat):Int):=by split <;> omega
  have e2:((min w (qN ⟨n,d,a,p,f⟩ i.toNat):Nat):Int)*c=((min w (qN ⟨n,d,a,p,f⟩ i.toNat)*c.toNat:Nat):Int):=by rw [Int.natCast_mul,hc]
  rw [e1,e2]
  exact IntWalk.i64_in _ (by omega)
 rw [hgone,Int.toNat_natCast]
 have htk:∀ m,List.take (l.length - m) (List.drop m l)=List.drop m l:=fun m=>List.take_of_length_le (by rw [List.length_drop]; omega)
 rw [htk]
 refine ⟨⟨by omega,by omega,by omega⟩,by unfold Zab; rw [List.length_drop]; omega,?_⟩
 simp [poR,poE,he]
def ZeN:List V→Zf→Zr→Name→Option Ent
 | [.agg [.d (.int .i64 c),.d (.int .i64 n),.d (.int .i64 d),.d (.int .i64 a),.d (.int .i64 p),.d (.int .i64 f),.d (.list q_l)],.c (.d (.int .i64 i))],[],[],_=>some ⟨(Zc q_l).length≤1000000∧rsV ⟨c,⟨n,d,a,p,f⟩,(Zc q_l)⟩=true∧(0≤i∧i≤65536)∧q_l=LI .i32 (Zc q_l),.tup [.agg [.int .i64 (poR ⟨c,⟨n,d,a,p,f⟩,(Zc q_l)⟩ i).c,.int .i64 (poR ⟨c,⟨n,d,a,p,f⟩,(Zc q_l)⟩ i).p.n,.int .i64 (poR ⟨c,⟨n,d,a,p,f⟩,(Zc q_l)⟩ i).p.d,.int .i64 (poR ⟨c,⟨n,d,a,p,f⟩,(Zc q_l)⟩ i).p.a,.int .i64 (poR ⟨c,⟨n,d,a,p,f⟩,(Zc q_l)⟩ i).p.p,.int .i64 (poR ⟨c,⟨n,d,a,p,f⟩,(Zc q_l)⟩ i).p.f,.list (LI .i32 (poR ⟨c,⟨n,d,a,p,f⟩,(Zc q_l)⟩ i).l)],.int .i64 (poE ⟨c,⟨n,d,a,p,f⟩,(Zc q_l)⟩ i)],[],[]⟩
 | _,_,_,_=>none
def ZoR:=And.intro (@ZeN.eq_1) (@ZeN.eq_1)
theorem ZoS:Snd Tryz.prog 174 ZeN:=by
 intro vs b k n e h hn hp
 unfold ZeN at h
 split at h
 ·cases h; obtain ⟨hp0,hp1,hp2,hq0⟩:=hp; obtain ⟨_,rfl⟩:=Zq hq0; simp only [Zi,Zo,Zj,Zp] at hp0 hp1 hp2 ⊢; exact (Zq6 _ _ _ _ _ _ _ _ hp0 hp1 hp2).lift rfl _
 ·cases h
end Go.Vam
end
section
set_option linter.unusedVariables false
set_option linter.defProp false
set_option linter.unusedSimpArgs false
set_option maxRecDepth 40000
set_option maxHeartbeats 4000000
namespace Go.Vam
open Go.Proofs
open Nat renaming reduceShiftRight→Ya,reduceMod→Yb,reduceEqDiff→Yc,reduceLT→Yd,reduceLeDiff→Ye,reduceAdd→Yf,reduceMul→Yg
open Int renaming reduceLE→Yj,reduceLT→Yk,reduceNeg→Yl,reduceAdd→Ym,reduceToNat→Yn
def rcE (x:Rs) (n:Int):Int:=if rsV x=false then 1 else if (decide (n < 0) || decide (65536 < n))=true then 2 else 0
theorem Zqd {x:Rs} {n:Int} (h:rcE x n=0):rsV x=true∧0≤n∧n≤65536:=by
 unfold rcE at h
 split at h
 ·cases h
 ·split at h
  ·cases h
  ·rename_i h1 h2
   simp only [Bool.or_eq_true,decide_eq_true_eq,not_or] at h2
   exact ⟨by simpa using h1,by omega,by omega⟩
theorem Zvl {x:Rs} {n:Int} (h:rsV x=true) (hn:0≤n∧n≤65536):rcE x n=0:=by
 unfold rcE
 rw [if_neg (by rw [h]; decide),if_neg (by simp only [Bool.or_eq_true,decide_eq_true_eq]; omega)]
theorem ZGo {x:Rs} {n:Int} (h:rsV x=true):phC x.p n=rcE x n:=by
 have e1:phC x.p n=if (decide (n < 0) || decide (65536 < n))=true then 2 else 0:=by unfold phC; rw [if_neg (by rw [(ZA h).1]; decide)]
 have e2:rcE x n=if (decide (n < 0) || decide (65536 < n))=true then 2 else 0:=by unfold rcE; rw [if_neg (by rw [h]; decide)]
 rw [e1,e2]
def tkE (x:Rs) (n:Int):Int:=if rcE x n≠0 then rcE x n else if ((x.l.length / x.c.toNat:Nat):Int) < ned x.p n then 4 else poE x n
def tkC (x:Rs) (n:Int):Int:=if tkE x n=0 then x.c else 0
def tkO (x:Rs) (n:Int):List Int:=if tkE x n=0 then ZcQ x n.toNat else []
def tkR (x:Rs) (n:Int):Rs:=if tkE x n=0 then poR x n else rs0
theorem ZsP {p:Ph} (h:phV p=true) {n:Int} (hn:1≤n∧n≤65536):2≤ned p n:=by
 have:=Zbk h (n:=n - 1) (by omega)
 unfold ned
 rw [if_neg (by omega)]
 omega
def ZgV (x:Rs):Int:=((x.l.length / x.c.toNat:Nat):Int)*prt x.p - x.p.f
def cnt (x:Rs) (n:Int):Int:=if 0 < ZgV x then min n ((ZgV x+stp x.p - 1) / stp x.p) else 0
theorem ZAR {x:Rs} (hv:rsV x=true) (hl:x.l.length≤1000000):-50331648000≤ZgV x∧ZgV x≤3400000000000000:=by
 obtain ⟨⟨k1,k2⟩,k3,k4,k5⟩:=ZW (ZA hv).2 hl
 have hp:=ZbG (ZA hv).1
 have hpr:=Zdf (ZA hv).1
 have hb:=ZGa (x:=((x.l.length / x.c.toNat:Nat):Int)) (y:=prt x.p) (A:=65536) (B:=50331648000) (Int.natCast_nonneg _) (Int.ofNat_le.2 k4) (by omega) hpr.2
 unfold ZgV
 generalize ((x.l.length / x.c.toNat:Nat):Int)*prt x.p=m at *
 omega
theorem ZuJ {x:Rs} (hv:rsV x=true) (hl:x.l.length≤1000000) {n:Int} (hn:0≤n):0≤cnt x n∧cnt x n≤n∧(0 < cnt x n→0 < x.l.length):=by
 have h1:=ZAR hv hl
 have h2:=ZfB (ZA hv).1
 have hp:=ZbG (ZA hv).1
 unfold cnt
 split
 ·rename_i h
  have:0≤(ZgV x+stp x.p - 1) / stp x.p:=Int.ediv_nonneg (by omega) (by omega)
  refine ⟨by omega,by omega,fun _=>?_⟩
  rcases Nat.eq_zero_or_pos x.l.length with h0 | h0
  ·unfold ZgV at h
   rw [h0,Nat.zero_div] at h
   simp at h
   omega
  ·exact h0
 ·exact ⟨Int.le_refl _,hn,fun h=>by omega⟩
def fiE (x:Rs) (n:Int):Int:=if rcE x n≠0 then rcE x n else poE x (cnt x n)
def fiC (x:Rs) (n:Int):Int:=if fiE x n=0 then x.c else 0
def fiO (x:Rs) (n:Int):List Int:=if fiE x n=0 then ZcQ x (cnt x n).toNat else []
def fiR (x:Rs) (n:Int):Rs:=if fiE x n=0 then poR x (cnt x n) else rs0
def cvN (x:Rs) (k:Int) (y:List Int):Int:=((mkN (feR x k y).p (((feR x k y).l.length / (feR x k y).c.toNat:Nat):Int):Nat):Int)
def cvE (x:Rs) (k:Int) (y:List Int):Int:=if feE x k y≠0 then feE x k y else tkE (feR x k y) (cvN x k y)
def cvC (x:Rs) (k:Int) (y:List Int):Int:=if cvE x k y=0 then x.c else 0
def cvO (x:Rs) (k:Int) (y:List Int):List Int:=if cvE x k y=0 then ZcQ (feR x k y) (cvN x k y).toNat else []
def cvR (x:Rs) (k:Int) (y:List Int):Rs:=if cvE x k y=0 then poR (feR x k y) (cvN x k y) else rs0
theorem ZAn {x:Rs} {k:Int} {y:List Int} (h:feE x k y=0) (hl:x.l.length≤1000000) (hy:y.length≤1000000):feR x k y={ x with l:=x.l++y}∧rsV (feR x k y)=true∧(feR x k y).l.length≤600000:=by
 obtain ⟨h1,h2,h3,h4⟩:=ZHs h
 obtain ⟨⟨k1,k2⟩,k3,k4,k5⟩:=ZW (ZA h1).2 hl
 rw [h3] at h2
 obtain ⟨_,m3,m4,m5⟩:=ZW h2 hy
 have e:feR x k y={ x with l:=x.l++y}:=by unfold feR; rw [if_pos h]
 have hlen:(x.l++y).length=(x.l.length / x.c.toNat+y.length / x.c.toNat)*x.c.toNat:=by rw [List.length_append,Nat.add_mul]; omega
 have hdv:(x.l.length+y.length) / x.c.toNat=x.l.length / x.c.toNat+y.length / x.c.toNat:=by
  rw [← List.length_append,hlen,Nat.mul_div_cancel _ (by omega)]
 have hz:x.l.length / x.c.toNat+y.length / x.c.toNat≤65536:=by omega
 have hb:=Nat.mul_le_mul hz (show x.c.toNat≤8 by omega)
 rw [e]
 refine ⟨rfl,?_,by show (x.l++y).length≤_; omega⟩
 unfold rsV
 rw [(ZA h1).1,Bool.true_and]
 exact Za5 ⟨k1,k2⟩ hlen hz (by rw [List.all_append,k5,m5]; rfl)
theorem Zq7 (c n d a p f:Int) (l:List Int) (i:Int) (hl:l.length≤1000000):Spec Tryz.prog 0 163 [.agg [.d (.int .i64 c),.d (.int .i64 n),.d (.int .i64 d),.d (.int .i64 a),.d (.int .i64 p),.d (.int .i64 f),.d (.list (LI .i32 l))],vI .i64 i] [] [] (vI .i64 (rcE ⟨c,⟨n,d,a,p,f⟩,l⟩ i)) [] []:=by
 refine sE (md:=fun _=>0) (L:=[(123,Zbi)]) [] 567 (Za ZbA Zb) Tryz.func163 rfl rfl rfl ?_
 simp (maxSteps:=1000000) only [↓Zn,Ze,Zd,Zm,gSt,gS0,Ya,Yb,↓reduceIte,reduceCtorEq,Yc,Yd,Ye,Yf,Yg,Yj,Yk,Yl,Ym,Yn,Zbz,Tryz.ntmps163,Tryz.results163,gTT]
 refine ⟨hl,fun h=>by unfold rcE; rw [if_pos h],fun h=>?_⟩
 have hv:rsV ⟨c,⟨n,d,a,p,f⟩,l⟩=true:=by simpa using h
 exact ⟨fun h2=>by unfold rcE; rw [if_neg (by rw [hv]; decide),if_pos h2],fun h2=>by unfold rcE; rw [if_neg (by rw [hv]; decide),if_neg (by rw [h2]; decide)]⟩
def Zcj:List V→Zf→Zr→Name→Option Ent
 | [.agg [.d (.int .i64 c),.d (.int .i64 n),.d (.int .i64 d),.d (.int .i64 a),.d (.int .i64 p),.d (.int .i64 f),.d (.list q_l)],.c (.d (.int .i64 i))],[],[],_=>some ⟨(Zc q_l).length≤1000000∧q_l=LI .i32 (Zc q_l),vI .i64 (rcE ⟨c,⟨n,d,a,p,f⟩,(Zc q_l)⟩ i),[],[]⟩
 | _,_,_,_=>none
def Zc2:=And.intro (@Zcj.eq_1) (@Zcj.eq_1)
theorem Zc3:Snd Tryz.prog 163 Zcj:=by
 intro vs b k n e h hn hp
 unfold Zcj at h
 split at h
 ·cases h; obtain ⟨hp0,hq0⟩:=hp; obtain ⟨_,rfl⟩:=Zq hq0; simp only [Zi,Zo,Zj,Zp] at hp0 ⊢; exact (Zq7 _ _ _ _ _ _ _ _ hp0).lift rfl _
 ·cases h
theorem ZCn (c n d a p f:Int) (l:List Int) (i:Int) (hl:l.length≤1000000):Spec Tryz.prog 0 92 [.agg [.d (.int .i64 c),.d (.int .i64 n),.d (.int .i64 d),.d (.int .i64 a),.d (.int .i64 p),.d (.int .i64 f),.d (.list (LI .i32 l))],vI .i64 i] [] [] (.tup [.agg [.int .i64 (tkC ⟨c,⟨n,d,a,p,f⟩,l⟩ i),.list (LI .i32 (tkO ⟨c,⟨n,d,a,p,f⟩,l⟩ i))],.agg [.int .i64 (tkR ⟨c,⟨n,d,a,p,f⟩,l⟩ i).c,.int .i64 (tkR ⟨c,⟨n,d,a,p,f⟩,l⟩ i).p.n,.int .i64 (tkR ⟨c,⟨n,d,a,p,f⟩,l⟩ i).p.d,.int .i64 (tkR ⟨c,⟨n,d,a,p,f⟩,l⟩ i).p.a,.int .i64 (tkR ⟨c,⟨n,d,a,p,f⟩,l⟩ i).p.p,.int .i64 (tkR ⟨c,⟨n,d,a,p,f⟩,l⟩ i).p.f,.list (LI .i32 (tkR ⟨c,⟨n,d,a,p,f⟩,l⟩ i).l)],.int .i64 (tkE ⟨c,⟨n,d,a,p,f⟩,l⟩ i)]) [] []:=by
 refine sE (md:=fun _=>0) (L:=[(163,Zcj),(90,ZfI),(164,Zdz)]) [] 4294984183 (Za Zc3 (Za Zhm (Za Zh2 Zb))) Tryz.func92 rfl rfl rfl ?_
 simp (maxSteps:=1000000) only [↓Zn,Ze,Zd,Zm,gSt,gS0,Ya,Yb,↓reduceIte,reduceCtorEq,Yc,Yd,Ye,Yf,Yg,Yj,Yk,Yl,Ym,Yn,Zc2,Zhl,Zh1,Tryz.ntmps92,Tryz.results92,gTT]
 refine ⟨hl,fun h=>?_,fun h=>?_⟩
 ·have hne:rcE ⟨c,⟨n,d,a,p,f⟩,l⟩ i≠0:=by simpa using h
  have e:tkE ⟨c,⟨n,d,a,p,f⟩,l⟩ i=rcE ⟨c,⟨n,d,a,p,f⟩,l⟩ i:=by unfold tkE; rw [if_pos hne]
  simp [tkC,tkO,tkR,e,hne,rs0,Zw]
 have he:rcE ⟨c,⟨n,d,a,p,f⟩,l⟩ i=0:=by simpa using h
 obtain ⟨hv,hi⟩:=Zqd he
 obtain ⟨⟨k1,k2⟩,k3,k4,k5⟩:=ZW (ZA hv).2 hl
 have hp:=(ZA hv).1
 simp only at k1 k2 hp k3
 have hN:neE ⟨n,d,a,p,f⟩ i=ned ⟨n,d,a,p,f⟩ i:=by unfold neE; rw [if_pos (ZfA hp hi)]
 rw [Zdg k1 (by omega),hN]
 refine ⟨by omega,fun h2=>?_,fun h2=>?_⟩
 ·have e:tkE ⟨c,⟨n,d,a,p,f⟩,l⟩ i=4:=by unfold tkE; rw [if_neg (by rw [he]; decide),if_pos (of_decide_eq_true h2)]
  simp [tkC,tkO,tkR,e,rs0,Zw]
 have e:tkE ⟨c,⟨n,d,a,p,f⟩,l⟩ i=poE ⟨c,⟨n,d,a,p,f⟩,l⟩ i:=by unfold tkE; rw [if_neg (by rw [he]; decide),if_neg (of_decide_eq_false h2)]
 have hne:0 < i→0 < l.length:=fun h0=>by
  have h3:=ZsP hp (n:=i) (by omega)
  have h4:=of_decide_eq_false h2
  rcases Nat.eq_zero_or_pos l.length with h5 | h5
  ·rw [h5,Nat.zero_div] at h4; simp at h4; omega
  ·exact h5
 refine ⟨⟨hl,hv,hi,hne⟩,?_⟩
 by_cases h6:poE ⟨c,⟨n,d,a,p,f⟩,l⟩ i=0
 ·simp [tkC,tkO,tkR,e,h6,poC,poO]
 ·simp [tkC,tkO,tkR,e,h6,poC,poO,poR]
def ZjZ:List V→Zf→Zr→Name→Option Ent
 | [.agg [.d (.int .i64 c),.d (.int .i64 n),.d (.int .i64 d),.d (.int .i64 a),.d (.int .i64 p),.d (.int .i64 f),.d (.list q_l)],.c (.d (.int .i64 i))],[],[],_=>some ⟨(Zc q_l).length≤1000000∧q_l=LI .i32 (Zc q_l),.tup [.agg [.int .i64 (tkC ⟨c,⟨n,d,a,p,f⟩,(Zc q_l)⟩ i),.list (LI .i32 (tkO ⟨c,⟨n,d,a,p,f⟩,(Zc q_l)⟩ i))],.agg [.int .i64 (tkR ⟨c,⟨n,d,a,p,f⟩,(Zc q_l)⟩ i).c,.int .i64 (tkR ⟨c,⟨n,d,a,p,f⟩,(Zc q_l)⟩ i).p.n,.int .i64 (tkR ⟨c,⟨n,d,a,p,f⟩,(Zc q_l)⟩ i).p.d,.int .i64 (tkR ⟨c,⟨n,d,a,p,f⟩,(Zc q_l)⟩ i).p.a,.int .i64 (tkR ⟨c,⟨n,d,a,p,f⟩,(Zc q_l)⟩ i).p.p,.int .i64 (tkR ⟨c,⟨n,d,a,p,f⟩,(Zc q_l)⟩ i).p.f,.list (LI .i32 (tkR ⟨c,⟨n,d,a,p,f⟩,(Zc q_l)⟩ i).l)],.int .i64 (tkE ⟨c,⟨n,d,a,p,f⟩,(Zc q_l)⟩ i)],[],[]⟩
 | _,_,_,_=>none
def Zj0:=And.intro (@ZjZ.eq_1) (@ZjZ.eq_1)
theorem Zj1:Snd Tryz.prog 92 ZjZ:=by
 intro vs b k n e h hn hp
 unfold ZjZ at h
 split at h
 ·cases h; obtain ⟨hp0,hq0⟩:=hp; obtain ⟨_,rfl⟩:=Zq hq0; simp only [Zi,Zo,Zj,Zp] at hp0 ⊢; exact (ZCn _ _ _ _ _ _ _ _ hp0).lift rfl _
 ·cases h
theorem Zx6 (c n d a p f:Int) (l:List Int) (i:Int) (hl:l.length≤1000000):Spec Tryz.prog 0 101 [.agg [.d (.int .i64 c),.d (.int .i64 n),.d (.int .i64 d),.d (.int .i64 a),.d (.int .i64 p),.d (.int .i64 f),.d (.list (LI .i32 l))],vI .i64 i] [] [] (.tup [.agg [.int .i64 (tkC ⟨c,⟨n,d,a,p,f⟩,l⟩ i),.list (LI .i32 (tkO ⟨c,⟨n,d,a,p,f⟩,l⟩ i))],.agg [.int .i64 (tkR ⟨c,⟨n,d,a,p,f⟩,l⟩ i).c,.int .i64 (tkR ⟨c,⟨n,d,a,p,f⟩,l⟩ i).p.n,.int .i64 (tkR ⟨c,⟨n,d,a,p,f⟩,l⟩ i).p.d,.int .i64 (tkR ⟨c,⟨n,d,a,p,f⟩,l⟩ i).p.a,.int .i64 (tkR ⟨c,⟨n,d,a,p,f⟩,l⟩ i).p.p,.int .i64 (tkR ⟨c,⟨n,d,a,p,f⟩,l⟩ i).p.f,.list (LI .i32 (tkR ⟨c,⟨n,d,a,p,f⟩,l⟩ i).l)],.int .i64 (tkE ⟨c,⟨n,d,a,p,f⟩,l⟩ i)]) [] []:=by
 refine sE (md:=fun _=>0) (L:=[(97,Zby),(173,Zfi),(100,ZbB),(174,ZeN),(175,ZeJ)]) [] 1100593763319 (Za Zcw (Za ZjI (Za Zcx (Za ZoS (Za ZoJ Zb))))) Tryz.func101 rfl rfl rfl ?_
 simp (maxSteps:=1000000) only [↓Zn,Ze,Zd,Zm,gSt,gS0,Ya,Yb,↓reduceIte,reduceCtorEq,Yc,Yd,Ye,Yf,Yg,Yj,Yk,Yl,Ym,Yn,Zcv,ZdY,Z9,ZoR,ZoI,Tryz.ntmps101,Tryz.results101,gTT]
 refine ⟨hl,fun h=>?_,fun h=>?_⟩
 ·have e:tkE ⟨c,⟨n,d,a,p,f⟩,l⟩ i=1:=by simp [tkE,rcE,h]
  simp [tkC,tkO,tkR,e,rs0,Zw]
 have hv:rsV ⟨c,⟨n,d,a,p,f⟩,l⟩=true:=by simpa using h
 have hpc:=ZGo (n:=i) hv
 simp only at hpc
 rw [hpc]
 refine ⟨fun h2=>?_,fun h2=>⟨hl,fun h3=>?_,fun h3=>?_⟩⟩
 ·have hne:rcE ⟨c,⟨n,d,a,p,f⟩,l⟩ i≠0:=by simpa using h2
  have e:tkE ⟨c,⟨n,d,a,p,f⟩,l⟩ i=rcE ⟨c,⟨n,d,a,p,f⟩,l⟩ i:=by unfold tkE; rw [if_pos hne]
  simp [tkC,tkO,tkR,e,hne,rs0,Zw]
 all_goals
  have he:rcE ⟨c,⟨n,d,a,p,f⟩,l⟩ i=0:=by simpa using h2
  obtain ⟨_,hi⟩:=Zqd he
  have hp:=(ZA hv).1
  simp only at hp
  have hN:neE ⟨n,d,a,p,f⟩ i=ned ⟨n,d,a,p,f⟩ i:=by unfold neE; rw [if_pos (ZfA hp hi)]
  have hW:waN ⟨c,⟨n,d,a,p,f⟩,l⟩=((l.length / c.toNat:Nat):Int):=by unfold waN; rw [if_pos hv]
  rw [hW,hN] at h3
 ·have e:tkE ⟨c,⟨n,d,a,p,f⟩,l⟩ i=4:=by unfold tkE; rw [if_neg (by rw [he]; decide),if_pos (of_decide_eq_true h3)]
  simp [tkC,tkO,tkR,e,rs0,Zw]
 have e:tkE ⟨c,⟨n,d,a,p,f⟩,l⟩ i=poE ⟨c,⟨n,d,a,p,f⟩,l⟩ i:=by unfold tkE; rw [if_neg (by rw [he]; decide),if_neg (of_decide_eq_false h3)]
 have hne:0 < i→0 < l.length:=fun h0=>by
  have h3':=ZsP hp (n:=i) (by omega)
  have h4:=of_decide_eq_false h3
  rcases Nat.eq_zero_or_pos l.length with h5 | h5
  ·rw [h5,Nat.zero_div] at h4; simp at h4; omega
  ·exact h5
 refine ⟨⟨hl,hv,hi⟩,fun h6=>?_,fun h6=>⟨by kernel_rfl,⟨hl,hv,hi,hne⟩,?_⟩⟩
 ·have h7:poE ⟨c,⟨n,d,a,p,f⟩,l⟩ i≠0:=by simpa using h6
  simp [tkC,tkO,tkR,e,h7,rs0,Zw]
 ·have h7:poE ⟨c,⟨n,d,a,p,f⟩,l⟩ i=0:=by simpa using h6
  simp [tkC,tkO,tkR,e,h7]
def ZjN:List V→Zf→Zr→Name→Option Ent
 | [.agg [.d (.int .i64 c),.d (.int .i64 n),.d (.int .i64 d),.d (.int .i64 a),.d (.int .i64 p),.d (.int .i64 f),.d (.list q_l)],.c (.d (.int .i64 i))],[],[],_=>some ⟨(Zc q_l).length≤1000000∧q_l=LI .i32 (Zc q_l),.tup [.agg [.int .i64 (tkC ⟨c,⟨n,d,a,p,f⟩,(Zc q_l)⟩ i),.list (LI .i32 (tkO ⟨c,⟨n,d,a,p,f⟩,(Zc q_l)⟩ i))],.agg [.int .i64 (tkR ⟨c,⟨n,d,a,p,f⟩,(Zc q_l)⟩ i).c,.int .i64 (tkR ⟨c,⟨n,d,a,p,f⟩,(Zc q_l)⟩ i).p.n,.int .i64 (tkR ⟨c,⟨n,d,a,p,f⟩,(Zc q_l)⟩ i).p.d,.int .i64 (tkR ⟨c,⟨n,d,a,p,f⟩,(Zc q_l)⟩ i).p.a,.int .i64 (tkR ⟨c,⟨n,d,a,p,f⟩,(Zc q_l)⟩ i).p.p,.int .i64 (tkR ⟨c,⟨n,d,a,p,f⟩,(Zc q_l)⟩ i).p.f,.list (LI .i32 (tkR ⟨c,⟨n,d,a,p,f⟩,(Zc q_l)⟩ i).l)],.int .i64 (tkE ⟨c,⟨n,d,a,p,f⟩,(Zc q_l)⟩ i)],[],[]⟩
 | _,_,_,_=>none
def Zwx:=And.intro (@ZjN.eq_1) (@ZjN.eq_1)
theorem Zwy:Snd Tryz.prog 101 ZjN:=by
 intro vs b k n e h hn hp
 unfold ZjN at h
 split at h
 ·cases h; obtain ⟨hp0,hq0⟩:=hp; obtain ⟨_,rfl⟩:=Zq hq0; simp only [Zi,Zo,Zj,Zp] at hp0 ⊢; exact (Zx6 _ _ _ _ _ _ _ _ hp0).lift rfl _
 ·cases h
theorem Ztl (c n d a p f:Int) (l:List Int) (i:Int) (hl:l.length≤1000000):Spec Tryz.prog 0 93 [.agg [.d (.int .i64 c),.d (.int .i64 n),.d (.int .i64 d),.d (.int .i64 a),.d (.int .i64 p),.d (.int .i64 f),.d (.list (LI .i32 l))],vI .i64 i] [] [] (.tup [.agg [.int .i64 (fiC ⟨c,⟨n,d,a,p,f⟩,l⟩ i),.list (LI .i32 (fiO ⟨c,⟨n,d,a,p,f⟩,l⟩ i))],.agg [.int .i64 (fiR ⟨c,⟨n,d,a,p,f⟩,l⟩ i).c,.int .i64 (fiR ⟨c,⟨n,d,a,p,f⟩,l⟩ i).p.n,.int .i64 (fiR ⟨c,⟨n,d,a,p,f⟩,l⟩ i).p.d,.int .i64 (fiR ⟨c,⟨n,d,a,p,f⟩,l⟩ i).p.a,.int .i64 (fiR ⟨c,⟨n,d,a,p,f⟩,l⟩ i).p.p,.int .i64 (fiR ⟨c,⟨n,d,a,p,f⟩,l⟩ i).p.f,.list (LI .i32 (fiR ⟨c,⟨n,d,a,p,f⟩,l⟩ i).l)],.int .i64 (fiE ⟨c,⟨n,d,a,p,f⟩,l⟩ i)]) [] []:=by
 refine sE (md:=fun _=>0) (L:=[(163,Zcj),(164,Zdz)]) [(6,[0,0,0,0,0,210556476788727,0,0,0,0,0,175921860513783,0])] 140737488424951 (Za Zc3 (Za Zh2 Zb)) Tryz.func93 rfl rfl rfl ?_
 simp (maxSteps:=1000000) only [↓Zn,Ze,Zd,Zm,gSt,gS0,Ya,Yb,↓reduceIte,reduceCtorEq,Yc,Yd,Ye,Yf,Yg,Yj,Yk,Yl,Ym,Yn,Zc2,Zh1,Tryz.ntmps93,Tryz.results93,gTT]
 refine ⟨hl,fun h=>?_,fun h=>⟨by kernel_rfl,?_⟩⟩
 ·have hne:rcE ⟨c,⟨n,d,a,p,f⟩,l⟩ i≠0:=by simpa using h
  have e:fiE ⟨c,⟨n,d,a,p,f⟩,l⟩ i=rcE ⟨c,⟨n,d,a,p,f⟩,l⟩ i:=by unfold fiE; rw [if_pos hne]
  simp [fiC,fiO,fiR,e,hne,rs0,Zw]
 have he:rcE ⟨c,⟨n,d,a,p,f⟩,l⟩ i=0:=by simpa using h
 obtain ⟨hv,hi⟩:=Zqd he
 obtain ⟨⟨k1,k2⟩,k3,k4,k5⟩:=ZW (ZA hv).2 hl
 have hp:=(ZA hv).1
 simp only at k1 k2 hp k3 k4
 have hpi:=ZbG hp
 simp only at hpi
 have hpr:=Zdf hp
 have hst:=ZfB hp
 have hlf:=ZAR hv hl
 have hct:=ZuJ hv hl hi.1
 have hP:IntKind.i64.wrap (d*65536)=prt ⟨n,d,a,p,f⟩:=rfl
 have hS:IntKind.i64.wrap (n*IntKind.i64.wrap (65536+a))=stp ⟨n,d,a,p,f⟩:=rfl
 have hL:IntKind.i64.wrap (IntKind.i64.wrap (IntKind.i64.wrap ((l.length:Int).tdiv c)*prt ⟨n,d,a,p,f⟩) - f)=ZgV ⟨c,⟨n,d,a,p,f⟩,l⟩:=by
  have e1:ZgV ⟨c,⟨n,d,a,p,f⟩,l⟩=((l.length / c.toNat:Nat):Int)*prt ⟨n,d,a,p,f⟩ - f:=rfl
  rw [e1] at hlf
  rw [Zdg k1 (by omega),e1]
  generalize ((l.length / c.toNat:Nat):Int)*prt ⟨n,d,a,p,f⟩=m at *
  rw [IntWalk.i64_in m (by omega),IntWalk.i64_in (m - f) (by omega)]
 rw [hP,hS,hL]
 have e:fiE ⟨c,⟨n,d,a,p,f⟩,l⟩ i=poE ⟨c,⟨n,d,a,p,f⟩,l⟩ (cnt ⟨c,⟨n,d,a,p,f⟩,l⟩ i):=by unfold fiE; rw [if_neg (by rw [he]; decide)]
 have hfin:([D.agg [D.int .i64 (fiC ⟨c,⟨n,d,a,p,f⟩,l⟩ i),D.list (LI .i32 (fiO ⟨c,⟨n,d,a,p,f⟩,l⟩ i))],D.agg [D.int .i64 (fiR ⟨c,⟨n,d,a,p,f⟩,l⟩ i).c,D.int .i64 (fiR ⟨c,⟨n,d,a,p,f⟩,l⟩ i).p.n,D.int .i64 (fiR ⟨c,⟨n,d,a,p,f⟩,l⟩ i).p.d,D.int .i64 (fiR ⟨c,⟨n,d,a,p,f⟩,l⟩ i).p.a,D.int .i64 (fiR ⟨c,⟨n,d,a,p,f⟩,l⟩ i).p.p,D.int .i64 (fiR ⟨c,⟨n,d,a,p,f⟩,l⟩ i).p.f,D.list (LI .i32 (fiR ⟨c,⟨n,d,a,p,f⟩,l⟩ i).l)],D.int .i64 (fiE ⟨c,⟨n,d,a,p,f⟩,l⟩ i)]:List D) =
   [D.agg [D.int .i64 (poC ⟨c,⟨n,d,a,p,f⟩,l⟩ (cnt ⟨c,⟨n,d,a,p,f⟩,l⟩ i)),D.list (LI .i32 (poO ⟨c,⟨n,d,a,p,f⟩,l⟩ (cnt ⟨c,⟨n,d,a,p,f⟩,l⟩ i)))],D.agg [D.int .i64 (poR ⟨c,⟨n,d,a,p,f⟩,l⟩ (cnt ⟨c,⟨n,d,a,p,f⟩,l⟩ i)).c,D.int .i64 (poR ⟨c,⟨n,d,a,p,f⟩,l⟩ (cnt ⟨c,⟨n,d,a,p,f⟩,l⟩ i)).p.n,D.int .i64 (poR ⟨c,⟨n,d,a,p,f⟩,l⟩ (cnt ⟨c,⟨n,d,a,p,f⟩,l⟩ i)).p.d,D.int .i64 (poR ⟨c,⟨n,d,a,p,f⟩,l⟩ (cnt ⟨c,⟨n,d,a,p,f⟩,l⟩ i)).p.a,D.int .i64 (poR ⟨c,⟨n,d,a,p,f⟩,l⟩ (cnt ⟨c,⟨n,d,a,p,f⟩,l⟩ i)).p.p,D.int .i64 (poR ⟨c,⟨n,d,a,p,f⟩,l⟩ (cnt ⟨c,⟨n,d,a,p,f⟩,l⟩ i)).p.f,D.list (LI .i32 (poR ⟨c,⟨n,d,a,p,f⟩,l⟩ (cnt ⟨c,⟨n,d,a,p,f⟩,l⟩ i)).l)],D.int .i64 (poE ⟨c,⟨n,d,a,p,f⟩,l⟩ (cnt ⟨c,⟨n,d,a,p,f⟩,l⟩ i))]:=by
  by_cases h6:poE ⟨c,⟨n,d,a,p,f⟩,l⟩ (cnt ⟨c,⟨n,d,a,p,f⟩,l⟩ i)=0
  ·simp [fiC,fiO,fiR,e,h6,poC,poO]
  ·simp [fiC,fiO,fiR,e,h6,poC,poO,poR]
 rw [hfin]
 refine ⟨by omega,fun h2=>?_,fun h2=>?_⟩
 ·have h3:=of_decide_eq_true h2
  have hcn:(if IntKind.i64.wrap ((IntKind.i64.wrap (IntKind.i64.wrap (ZgV ⟨c,⟨n,d,a,p,f⟩,l⟩+stp ⟨n,d,a,p,f⟩) - 1)).tdiv (stp ⟨n,d,a,p,f⟩)) < i then IntKind.i64.wrap ((IntKind.i64.wrap (IntKind.i64.wrap (ZgV ⟨c,⟨n,d,a,p,f⟩,l⟩+stp ⟨n,d,a,p,f⟩) - 1)).tdiv (stp ⟨n,d,a,p,f⟩)) else i)=cnt ⟨c,⟨n,d,a,p,f⟩,l⟩ i:=by
   have e1:cnt ⟨c,⟨n,d,a,p,f⟩,l⟩ i=min i ((ZgV ⟨c,⟨n,d,a,p,f⟩,l⟩+stp ⟨n,d,a,p,f⟩ - 1) / stp ⟨n,d,a,p,f⟩):=by unfold cnt; rw [if_pos h3]
   rw [e1,IntWalk.i64_in (ZgV ⟨c,⟨n,d,a,p,f⟩,l⟩+stp ⟨n,d,a,p,f⟩) (by omega),IntWalk.i64_in (ZgV ⟨c,⟨n,d,a,p,f⟩,l⟩+stp ⟨n,d,a,p,f⟩ - 1) (by omega),Int.tdiv_eq_ediv_of_nonneg (by omega)]
   have h4:0≤(ZgV ⟨c,⟨n,d,a,p,f⟩,l⟩+stp ⟨n,d,a,p,f⟩ - 1) / stp ⟨n,d,a,p,f⟩:=Int.ediv_nonneg (by omega) (by omega)
   have h5:(ZgV ⟨c,⟨n,d,a,p,f⟩,l⟩+stp ⟨n,d,a,p,f⟩ - 1) / stp ⟨n,d,a,p,f⟩≤ZgV ⟨c,⟨n,d,a,p,f⟩,l⟩+stp ⟨n,d,a,p,f⟩ - 1:=Int.ediv_le_self _ (by omega)
   generalize (ZgV ⟨c,⟨n,d,a,p,f⟩,l⟩+stp ⟨n,d,a,p,f⟩ - 1) / stp ⟨n,d,a,p,f⟩=q at *
   rw [IntWalk.i64_in q (by omega)]
   split <;> omega
  rw [hcn]
  exact ⟨by omega,⟨hl,hv,⟨hct.1,by omega⟩,hct.2.2⟩,rfl⟩
 ·have e1:cnt ⟨c,⟨n,d,a,p,f⟩,l⟩ i=0:=by unfold cnt; rw [if_neg (of_decide_eq_false h2)]
  rw [e1]
  exact ⟨⟨hl,hv⟩,rfl⟩
def Zfd:List V→Zf→Zr→Name→Option Ent
 | [.agg [.d (.int .i64 c),.d (.int .i64 n),.d (.int .i64 d),.d (.int .i64 a),.d (.int .i64 p),.d (.int .i64 f),.d (.list q_l)],.c (.d (.int .i64 i))],[],[],_=>some ⟨(Zc q_l).length≤1000000∧q_l=LI .i32 (Zc q_l),.tup [.agg [.int .i64 (fiC ⟨c,⟨n,d,a,p,f⟩,(Zc q_l)⟩ i),.list (LI .i32 (fiO ⟨c,⟨n,d,a,p,f⟩,(Zc q_l)⟩ i))],.agg [.int .i64 (fiR ⟨c,⟨n,d,a,p,f⟩,(Zc q_l)⟩ i).c,.int .i64 (fiR ⟨c,⟨n,d,a,p,f⟩,(Zc q_l)⟩ i).p.n,.int .i64 (fiR ⟨c,⟨n,d,a,p,f⟩,(Zc q_l)⟩ i).p.d,.int .i64 (fiR ⟨c,⟨n,d,a,p,f⟩,(Zc q_l)⟩ i).p.a,.int .i64 (fiR ⟨c,⟨n,d,a,p,f⟩,(Zc q_l)⟩ i).p.p,.int .i64 (fiR ⟨c,⟨n,d,a,p,f⟩,(Zc q_l)⟩ i).p.f,.list (LI .i32 (fiR ⟨c,⟨n,d,a,p,f⟩,(Zc q_l)⟩ i).l)],.int .i64 (fiE ⟨c,⟨n,d,a,p,f⟩,(Zc q_l)⟩ i)],[],[]⟩
 | _,_,_,_=>none
def Zja:=And.intro (@Zfd.eq_1) (@Zfd.eq_1)
theorem Zjb:Snd Tryz.prog 93 Zfd:=by
 intro vs b k n e h hn hp
 unfold Zfd at h
 split at h
 ·cases h; obtain ⟨hp0,hq0⟩:=hp; obtain ⟨_,rfl⟩:=Zq hq0; simp only [Zi,Zo,Zj,Zp] at hp0 ⊢; exact (Ztl _ _ _ _ _ _ _ _ hp0).lift rfl _
 ·cases h
theorem ZnD (c n d a p f:Int) (l:List Int) (k:Int) (y:List Int) (hl:l.length≤1000000) (hy:y.length≤1000000):Spec Tryz.prog 0 39 [.agg [.d (.int .i64 c),.d (.int .i64 n),.d (.int .i64 d),.d (.int .i64 a),.d (.int .i64 p),.d (.int .i64 f),.d (.list (LI .i32 l))],.agg [.d (.int .i64 k),.d (.list (LI .i32 y))]] [] [] (.tup [.agg [.int .i64 (cvC ⟨c,⟨n,d,a,p,f⟩,l⟩ k y),.list (LI .i32 (cvO ⟨c,⟨n,d,a,p,f⟩,l⟩ k y))],.agg [.int .i64 (cvR ⟨c,⟨n,d,a,p,f⟩,l⟩ k y).c,.int .i64 (cvR ⟨c,⟨n,d,a,p,f⟩,l⟩ k y).p.n,.int .i64 (cvR ⟨c,⟨n,d,a,p,f⟩,l⟩ k y).p.d,.int .i64 (cvR ⟨c,⟨n,d,a,p,f⟩,l⟩ k y).p.a,.int .i64 (cvR ⟨c,⟨n,d,a,p,f⟩,l⟩ k y).p.p,.int .i64 (cvR ⟨c,⟨n,d,a,p,f⟩,l⟩ k y).p.f,.list (LI .i32 (cvR ⟨c,⟨n,d,a,p,f⟩,l⟩ k y).l)],.int .i64 (cvE ⟨c,⟨n,d,a,p,f⟩,l⟩ k y)]) [] []:=by
 refine sE (md:=fun _=>0) (L:=[(98,Zjz),(100,ZbB),(99,ZgA),(101,ZjN)]) [] 263167 (Za Zwl (Za Zcx (Za Zsb (Za Zwy Zb)))) Tryz.func39 rfl rfl rfl ?_
 simp (maxSteps:=1000000) only [↓Zn,Ze,Zd,Zm,gSt,gS0,Ya,Yb,↓reduceIte,reduceCtorEq,Yc,Yd,Ye,Yf,Yg,Yj,Yk,Yl,Ym,Yn,Zwk,Z9,Zsa,Zwx,Tryz.ntmps39,Tryz.results39,gTT]
 refine ⟨⟨hl,hy⟩,fun h=>?_,fun h=>?_⟩
 ·have hne:feE ⟨c,⟨n,d,a,p,f⟩,l⟩ k y≠0:=by simpa using h
  have e:cvE ⟨c,⟨n,d,a,p,f⟩,l⟩ k y=feE ⟨c,⟨n,d,a,p,f⟩,l⟩ k y:=by unfold cvE; rw [if_pos hne]
  simp [cvC,cvO,cvR,e,hne,rs0,Zw]
 have he:feE ⟨c,⟨n,d,a,p,f⟩,l⟩ k y=0:=by simpa using h
 obtain ⟨fe,fv,fl⟩:=ZAn he hl hy
 have fc:(feR ⟨c,⟨n,d,a,p,f⟩,l⟩ k y).c=c:=by rw [fe]
 obtain ⟨⟨k1,k2⟩,k3,k4,k5⟩:=ZW (ZA fv).2 (by omega)
 have fp:=(ZA fv).1
 have hz:(((feR ⟨c,⟨n,d,a,p,f⟩,l⟩ k y).l.length / (feR ⟨c,⟨n,d,a,p,f⟩,l⟩ k y).c.toNat:Nat):Int)≤65536:=Int.ofNat_le.2 k4
 have hz0:0≤(((feR ⟨c,⟨n,d,a,p,f⟩,l⟩ k y).l.length / (feR ⟨c,⟨n,d,a,p,f⟩,l⟩ k y).c.toNat:Nat):Int):=Int.natCast_nonneg _
 have hM:maN (feR ⟨c,⟨n,d,a,p,f⟩,l⟩ k y).p (((feR ⟨c,⟨n,d,a,p,f⟩,l⟩ k y).l.length / (feR ⟨c,⟨n,d,a,p,f⟩,l⟩ k y).c.toNat:Nat):Int)=cvN ⟨c,⟨n,d,a,p,f⟩,l⟩ k y:=by
  have e1:maE (feR ⟨c,⟨n,d,a,p,f⟩,l⟩ k y).p (((feR ⟨c,⟨n,d,a,p,f⟩,l⟩ k y).l.length / (feR ⟨c,⟨n,d,a,p,f⟩,l⟩ k y).c.toNat:Nat):Int)=0:=by
   unfold maE
   rw [if_neg (by rw [fp]; decide),if_neg (by simp only [Bool.or_eq_true,decide_eq_true_eq]; omega)]
  unfold maN
  rw [if_pos e1]
  rfl
 have e:cvE ⟨c,⟨n,d,a,p,f⟩,l⟩ k y=tkE (feR ⟨c,⟨n,d,a,p,f⟩,l⟩ k y) (cvN ⟨c,⟨n,d,a,p,f⟩,l⟩ k y):=by unfold cvE; rw [if_neg (by rw [he]; decide)]
 have hfin:([D.agg [D.int .i64 (cvC ⟨c,⟨n,d,a,p,f⟩,l⟩ k y),D.list (LI .i32 (cvO ⟨c,⟨n,d,a,p,f⟩,l⟩ k y))],D.agg [D.int .i64 (cvR ⟨c,⟨n,d,a,p,f⟩,l⟩ k y).c,D.int .i64 (cvR ⟨c,⟨n,d,a,p,f⟩,l⟩ k y).p.n,D.int .i64 (cvR ⟨c,⟨n,d,a,p,f⟩,l⟩ k y).p.d,D.int .i64 (cvR ⟨c,⟨n,d,a,p,f⟩,l⟩ k y).p.a,D.int .i64 (cvR ⟨c,⟨n,d,a,p,f⟩,l⟩ k y).p.p,D.int .i64 (cvR ⟨c,⟨n,d,a,p,f⟩,l⟩ k y).p.f,D.list (LI .i32 (cvR ⟨c,⟨n,d,a,p,f⟩,l⟩ k y).l)],D.int .i64 (cvE ⟨c,⟨n,d,a,p,f⟩,l⟩ k y)]:List D)=[D.agg [D.int .i64 (tkC (feR ⟨c,⟨n,d,a,p,f⟩,l⟩ k y) (cvN ⟨c,⟨n,d,a,p,f⟩,l⟩ k y)),D.list (LI .i32 (tkO (feR ⟨c,⟨n,d,a,p,f⟩,l⟩ k y) (cvN ⟨c,⟨n,d,a,p,f⟩,l⟩ k y)))],D.agg [D.int .i64 (tkR (feR ⟨c,⟨n,d,a,p,f⟩,l⟩ k y) (cvN ⟨c,⟨n,d,a,p,f⟩,l⟩ k y)).c,D.int .i64 (tkR (feR ⟨c,⟨n,d,a,p,f⟩,l⟩ k y) (cvN ⟨c,⟨n,d,a,p,f⟩,l⟩ k y)).p.n,D.int .i64 (tkR (feR ⟨c,⟨n,d,a,p,f⟩,l⟩ k y) (cvN ⟨c,⟨n,d,a,p,f⟩,l⟩ k y)).p.d,D.int .i64 (tkR (feR ⟨c,⟨n,d,a,p,f⟩,l⟩ k y) (cvN ⟨c,⟨n,d,a,p,f⟩,l⟩ k y)).p.a,D.int .i64 (tkR (feR ⟨c,⟨n,d,a,p,f⟩,l⟩ k y) (cvN ⟨c,⟨n,d,a,p,f⟩,l⟩ k y)).p.p,D.int .i64 (tkR (feR ⟨c,⟨n,d,a,p,f⟩,l⟩ k y) (cvN ⟨c,⟨n,d,a,p,f⟩,l⟩ k y)).p.f,D.list (LI .i32 (tkR (feR ⟨c,⟨n,d,a,p,f⟩,l⟩ k y) (cvN ⟨c,⟨n,d,a,p,f⟩,l⟩ k y)).l)],D.int .i64 (tkE (feR ⟨c,⟨n,d,a,p,f⟩,l⟩ k y) (cvN ⟨c,⟨n,d,a,p,f⟩,l⟩ k y))]:=by
  by_cases h6:tkE (feR ⟨c,⟨n,d,a,p,f⟩,l⟩ k y) (cvN ⟨c,⟨n,d,a,p,f⟩,l⟩ k y)=0
  ·simp [cvC,cvO,cvR,tkC,tkO,tkR,e,h6,fc]
  ·simp [cvC,cvO,cvR,tkC,tkO,tkR,e,h6]
 rw [hfin,← hM]
 refine ⟨by kernel_rfl,by omega,by omega,?_⟩
 have hW:waN (feR ⟨c,⟨n,d,a,p,f⟩,l⟩ k y)=(((feR ⟨c,⟨n,d,a,p,f⟩,l⟩ k y).l.length / (feR ⟨c,⟨n,d,a,p,f⟩,l⟩ k y).c.toNat:Nat):Int):=if_pos fv
 rw [← hW]
def ZdD:List V→Zf→Zr→Name→Option Ent
 | [.agg [.d (.int .i64 c),.d (.int .i64 n),.d (.int .i64 d),.d (.int .i64 a),.d (.int .i64 p),.d (.int .i64 f),.d (.list q_l)],.agg [.d (.int .i64 k),.d (.list q_y)]],[],[],_=>some ⟨(Zc q_l).length≤1000000∧(Zc q_y).length≤1000000∧q_l=LI .i32 (Zc q_l)∧q_y=LI .i32 (Zc q_y),.tup [.agg [.int .i64 (cvC ⟨c,⟨n,d,a,p,f⟩,(Zc q_l)⟩ k (Zc q_y)),.list (LI .i32 (cvO ⟨c,⟨n,d,a,p,f⟩,(Zc q_l)⟩ k (Zc q_y)))],.agg [.int .i64 (cvR ⟨c,⟨n,d,a,p,f⟩,(Zc q_l)⟩ k (Zc q_y)).c,.int .i64 (cvR ⟨c,⟨n,d,a,p,f⟩,(Zc q_l)⟩ k (Zc q_y)).p.n,.int .i64 (cvR ⟨c,⟨n,d,a,p,f⟩,(Zc q_l)⟩ k (Zc q_y)).p.d,.int .i64 (cvR ⟨c,⟨n,d,a,p,f⟩,(Zc q_l)⟩ k (Zc q_y)).p.a,.int .i64 (cvR ⟨c,⟨n,d,a,p,f⟩,(Zc q_l)⟩ k (Zc q_y)).p.p,.int .i64 (cvR ⟨c,⟨n,d,a,p,f⟩,(Zc q_l)⟩ k (Zc q_y)).p.f,.list (LI .i32 (cvR ⟨c,⟨n,d,a,p,f⟩,(Zc q_l)⟩ k (Zc q_y)).l)],.int .i64 (cvE ⟨c,⟨n,d,a,p,f⟩,(Zc q_l)⟩ k (Zc q_y))],[],[]⟩
 | _,_,_,_=>none
def Zau:=And.intro (@ZdD.eq_1) (@ZdD.eq_1)
theorem ZmE:Snd Tryz.prog 39 ZdD:=by
 intro vs b k n e h hn hp
 unfold ZdD at h
 split at h
 ·cases h; obtain ⟨hp0,hp1,hq0,hq1⟩:=hp; obtain ⟨_,rfl⟩:=Zq hq0; obtain ⟨_,rfl⟩:=Zq hq1; simp only [Zi,Zo,Zj,Zp] at hp0 hp1 ⊢; exact (ZnD _ _ _ _ _ _ _ _ _ hp0 hp1).lift rfl _
 ·cases h
end Go.Vam
end
section
set_option linter.unusedVariables false
set_option linter.defProp false
set_option linter.unusedSimpArgs false
set_option maxRecDepth 40000
set_option maxHeartbeats 4000000
namespace Go.Vam
open Go.Proofs
open Nat renaming reduceShiftRight→Ya,reduceMod→Yb,reduceEqDiff→Yc,reduceLT→Yd,reduceLeDiff→Ye,reduceAdd→Yf,reduceMul→Yg
open Int renaming reduceLE→Yj,reduceLT→Yk,reduceNeg→Yl,reduceAdd→Ym,reduceToNat→Yn
def mqE (n d:Int):Int:=if (decide (n < 1) || decide (d < 1))=true then 1 else if (decide (68719476736 < n / Zeg n d) || decide (68719476736 < d / Zeg n d))=true then 2 else 0
def mqN (n d:Int):Int:=if mqE n d=0 then n / Zeg n d else 0
def mqD (n d:Int):Int:=if mqE n d=0 then d / Zeg n d else 0
theorem ZuZ {n d:Int} (hn:1≤n):1≤Zeg n d:=by
 unfold Zeg
 have:=Nat.gcd_pos_of_pos_left d.toNat (show 0 < n.toNat by omega)
 omega
structure okR (x:Rs) (ch:Int):Prop where
 v:rsV x=true
 c:x.c=ch
 len:x.l.length≤524288
theorem ZFe {x:Rs} (h:rsV x=true) (hl:x.l.length≤1000000):x.l.length≤524288:=by
 obtain ⟨⟨k1,k2⟩,k3,k4,k5⟩:=ZW (ZA h).2 hl
 have:=Nat.mul_le_mul k4 (show x.c.toNat≤8 by omega)
 omega
theorem ZFb {p:Ph} (h:phV p=true) {P F:Int} (hP:0≤P∧P≤1125899906842624) (hF:0≤F∧F < prt p):phV ⟨p.n,p.d,p.a,P,F⟩=true:=by
 simp only [phV,Bool.and_eq_true,decide_eq_true_eq] at h ⊢
 exact ⟨⟨⟨⟨h.1.1.1.1,hP.1⟩,hP.2⟩,hF.1⟩,hF.2⟩
theorem ZHU {x:Rs} {n:Int} (hv:rsV x=true) (hl:x.l.length≤1000000) (he:poE x n=0):rsV (poR x n)=true∧(poR x n).c=x.c∧(poR x n).l.length≤x.l.length∧(poR x n).p=⟨x.p.n,x.p.d,x.p.a,x.p.p+qAt x.p n,fAt x.p n⟩∧(0≤n∧n≤65536):=by
 have hE:adE x.p n=0:=he
 obtain ⟨h1,h2⟩:=Zpf hE
 obtain ⟨hp,hn⟩:=Zp9 h1
 have hq:=Zbk hp hn
 have hpi:=ZbG hp
 have h3:x.p.p+qAt x.p n≤1125899906842624:=by
  unfold adE at hE
  rw [if_pos h1] at hE
  have e:atP x.p n=x.p.p+qAt x.p n:=by unfold atP; rw [if_pos h1]
  rw [e] at hE
  split at hE
  ·cases hE
  ·omega
 have e:poR x n=⟨x.c,adP x.p n,x.l.drop (min x.l.length (qN x.p n.toNat*x.c.toNat))⟩:=by unfold poR; rw [if_pos he]
 obtain ⟨⟨k1,k2⟩,k3,k4,k5⟩:=ZW (ZA hv).2 hl
 have hg:=Zm6 (q:=qN x.p n.toNat) k3
 rw [e,h2]
 refine ⟨?_,rfl,by show (List.drop _ x.l).length≤_; rw [List.length_drop]; omega,rfl,hn⟩
 unfold rsV
 rw [ZFb hp (by omega) ⟨hq.2.1,hq.2.2.1⟩,Bool.true_and]
 refine Za5 (z:=x.l.length / x.c.toNat - min (x.l.length / x.c.toNat) (qN x.p n.toNat)) ⟨k1,k2⟩ ?_ (Nat.le_trans (Nat.sub_le _ _) k4) ?_
 ·show (List.drop _ x.l).length=_
  rw [List.length_drop,Nat.sub_mul,hg,← k3]
 ·rw [List.all_eq_true] at k5 ⊢
  intro y hy
  exact k5 y (List.mem_of_mem_drop hy)
theorem ZCE {x:Rs} {n:Int} (h:tkE x n=0):rcE x n=0∧poE x n=0∧ned x.p n≤((x.l.length / x.c.toNat:Nat):Int):=by
 unfold tkE at h
 split at h
 ·rename_i h1; exact absurd h h1
 ·rename_i h1
  split at h
  ·cases h
  ·rename_i h2
   exact ⟨by simpa using h1,h,by omega⟩
theorem ZGj {p:Ph} (h:phV p=true) {a:Int} (ha:-4096≤a∧a≤4096):phV { p with a:=a}=true:=by
 simp only [phV,tuX,prt,Bool.and_eq_true,decide_eq_true_eq] at h ⊢
 exact ⟨⟨⟨⟨⟨⟨h.1.1.1.1.1.1,h.1.1.1.1.1.2⟩,ha⟩,h.1.1.1.2⟩,h.1.1.2⟩,h.1.2⟩,h.2⟩
theorem Zhy {ch:Int} (hc:1≤ch∧ch≤8):ZaL ch []=true:=Za5 (z:=0) hc (by simp) (by decide) rfl
theorem ZxS (n d:Int) (hn:n≤1000000000000) (hd:d≤1000000000000):Spec Tryz.prog 0 79 [vI .i64 n,vI .i64 d] [] [] (.tup [.agg [.int .i64 (mqN n d),.int .i64 (mqD n d)],.int .i64 (mqE n d)]) [] []:=by
 refine spec_of_E (X:=⟨Tryz.prog,tt,Tryz.f79.ntmps,1,fun _=>0,(tab [(157,ZlD)])⟩) (M:=[]) (m:=4294975731) rfl rfl ⟨Z7,ZI (Za ZoL Zb) _ rfl rfl⟩ Zs Tryz.func79 rfl (by decide) (by show (2:Nat)≤_; exact Nat.le_of_ble_eq_true rfl) ⟨by simp [V.has,C.has],by simp [C.has],by simp⟩ ?_
 simp (maxSteps:=1000000) only [↓Zn,Ze,Zd,Zm,gSt,gS0,Ya,Yb,↓reduceIte,reduceCtorEq,Yc,Yd,Ye,Yf,Yg,Yj,Yk,Yl,Ym,Yn,ZoK,Tryz.ntmps79,Tryz.results79,gTT]
 refine ⟨fun h=>?_,fun h=>?_⟩
 ·have e:mqE n d=1:=by unfold mqE; rw [if_pos h]
  simp [mqN,mqD,e]
 have hb:1≤n∧1≤d:=by simp only [Bool.or_eq_false_iff,decide_eq_false_iff_not] at h; omega
 have hg:=ZuZ (d:=d) hb.1
 have h1:0≤n / Zeg n d∧n / Zeg n d≤n:=⟨Int.ediv_nonneg (by omega) (by omega),Int.ediv_le_self _ (by omega)⟩
 have h2:0≤d / Zeg n d∧d / Zeg n d≤d:=⟨Int.ediv_nonneg (by omega) (by omega),Int.ediv_le_self _ (by omega)⟩
 refine ⟨by omega,by kernel_rfl,by omega,by omega,?_⟩
 rw [Int.tdiv_eq_ediv_of_nonneg (by omega),Int.tdiv_eq_ediv_of_nonneg (by omega),IntWalk.i64_in (n / Zeg n d) (by omega),IntWalk.i64_in (d / Zeg n d) (by omega)]
 refine ⟨fun h3=>?_,fun h3=>?_⟩
 ·have e:mqE n d=2:=by unfold mqE; rw [if_neg (by rw [h]; decide),if_pos h3]
  simp [mqN,mqD,e]
 ·have e:mqE n d=0:=by unfold mqE; rw [if_neg (by rw [h]; decide),if_neg (by rw [h3]; decide)]
  simp [mqN,mqD,e]
def Zjt:List V→Zf→Zr→Name→Option Ent
 | [.c (.d (.int .i64 n)),.c (.d (.int .i64 d))],[],[],_=>some ⟨n≤1000000000000∧d≤1000000000000,.tup [.agg [.int .i64 (mqN n d),.int .i64 (mqD n d)],.int .i64 (mqE n d)],[],[]⟩
 | _,_,_,_=>none
def Zwf:=And.intro (@Zjt.eq_1) (@Zjt.eq_1)
theorem Zwg:Snd Tryz.prog 79 Zjt:=by
 intro vs b k n e h hn hp
 unfold Zjt at h
 split at h
 ·cases h; obtain ⟨hp0,hp1⟩:=hp; exact (ZxS _ _ hp0 hp1).lift rfl _
 ·cases h
end Go.Vam
end
