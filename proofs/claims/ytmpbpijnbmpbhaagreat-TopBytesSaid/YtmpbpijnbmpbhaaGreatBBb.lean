/- A part of the proof. Conditions: none. -/
import Derived.Test.YtmpbpijnbmpbhaaGreatBBa
set_option linter.unusedVariables false
set_option linter.defProp false
set_option linter.unusedSimpArgs false
set_option maxRecDepth 40000
set_option maxHeartbeats 4000000
namespace Go.Vam
open Go.Proofs
open Nat renaming reduceShiftRight→Ya,reduceMod→Yb,reduceEqDiff→Yc,reduceLT→Yd,reduceLeDiff→Ye,reduceAdd→Yf,reduceMul→Yg
open Int renaming reduceLE→Yj,reduceLT→Yk,reduceNeg→Yl,reduceAdd→Ym,reduceToNat→Yn
theorem spec_topbyt (s p:List UInt8) (w:Int) (hw:0≤w∧w≤255):Spec Tryz.prog 0 5 [vL (LB s),vL (LB p),vI .u8 w] [] [] (vB true) [] []:=by
 refine sE (md:=fun _=>0) (L:=[(6,ZiR),(7,ZyP),(25,Zjc),(8,Zlv),(26,Zeq),(27,Zgf),(28,Zju),(10,Zo0),(9,Zff),(29,Zls),(30,Zbh),(31,Zon),(32,ZgK),(11,Zy8),(33,Zjf),(13,Ze7),(12,ZdG),(34,ZjR),(35,ZjX),(36,ZyN),(37,Zfc),(18,Zoi),(38,Zfj),(39,ZdD),(40,ZeL),(41,Zjg),(19,Zf5),(20,ZdT)]) [(10,[0,0,0,0,0,3729924273087873827320031385535379775615076825229039908951535176209434153097785214205895,0,0,0,0,0,3729924273087873827320031385535379775615076825229039908950976865251716446593805709180871,0]),(11,[0,0,0,0,0,3729924273087873827320031385535379775615076825229039911476770686206463529075986845892551,0,0,0,0,0,3729924273087873827320031385535379775615076825229039910897454361902162692591993481035719,0,0]),(14,[0,0,0,0,0,3729924273087873827320031385535379775615076828016292776399749994180103741366670777614279,0,0,0,0,0,3729924273087873827320031385535379775615076828005744023025200901812739128536285963059143,0,0,0,0,0,3729924273087873827320031385535379775615076826797061055722027479590832522938645275967431,0]),(26,[0,0,0,0,0,3729924273087873827320031385535380111596765227955649968959041863432473154556077797244871,0,0,0,0,0,0]),(33,[0,0,0,0,0,3729924273087873827320031434145255614449532660373393202270511766248242893822540625444807,0,0,0,0,0,3729924273087873827320031411246388483758921233900433386408944680306850232417742722400199,0]),(34,[0,0,0,0,0,3729924273087873827320449600803026443388228274115344250564625058413952266425201552490439,0,0,0,0,0,3729924273087873827320400029978237142056208355668719710380662453496000054831818175643591,0,0,0,0,0,0]),(35,[0,0,0,0,0,3729924273087873834204506516492300184431374130965943410501153216476298832809874581061575,0,0,0,0,0,3729924273087873834006519408155412673439288238920642997741630437123266503651769943293895,0,0,0,0,0,3729924273087873833359059438977123089620488204721437179845063390600690567660266053402567,0,0,0]),(36,[0,0,0,0,0,3729924273102347617618812812665284950828975220845884178598061001004164764693271337205703,0,0,0,0,0,3729924273102340771086436796426007815551159842036635347097960607980702043469241328304071,0,0,0,0,0,3729924273101556290989675193783672831460829986215607944247747833163296050315867405123527,0,0,0,0]),(38,[0,0,0,0,0,3729924279774866980775041671246604159866803503755381523391085613230277808350040594284487,0,0,0,0,0,3729924276793220682914149639089651295893089876533679418250841089214245020146277506056135,0]),(39,[0,0,0,0,0,3729939042600440225475390052861659603775099325522123980735567400845357709228569190694855,0,0,0,0,0,3729935655913414212451306304257490069671170433081612480080350374789940645785353481846727,0,0]),(40,[0,0,0,0,0,3731639285469291853765452472999997413399847075016640625871448155594574960584139894390727,0,0,0,0,0,0]),(48,[0,0,0,0,0,457318306611365214241093377079290932535830269454827917307722481223098553399777444347833712583,0,0,0,0,0,391114637380494416437368892205986142301657546660684989162047916619081161157469001396873297863,0,0]),(50,[0,0,0,0,0,4479489350856422405982277499321859240677669367180042037586005309277392203814628981074052503165441376199,0,0,0,0,0,4479485212381540309218992858967303537170447324440029971571263536884277048263910281082986833676397936583,0,0,0,0,0,4479079374844715336303337804843131322268672810580782207544973598978790826516011959378482470879879987143,0,0,0,0,0,4461991478557348055644177631193774905351851174401928985385397266116213068709766834978298774184387379143,0,0,0,0,0,2239744742177807940481715368442271598153031032614425149976814330003700821523200896983209386328964693959,0])] 3729924273087873827320031385535379775615076825229039908950343039951602331893057357578183 (Za ZvO (Za ZCW (Za Zv1 (Za Zoo (Za ZnV (Za ZrJ (Za Zwh (Za Zzc (Za Zjp (Za Zn4 (Za Zbw (Za ZyM (Za Zsl (Za ZCX (Za Zv6 (Za ZiS (Za ZmI (Za ZwB (Za ZwG (Za ZCU (Za Zi5 (Za ZyF (Za ZjK (Za ZmE (Za ZoO (Za Zv7 (Za Zrv (Za ZfF Zb)))))))))))))))))))))))))))) Tryz.func5 rfl rfl rfl ?_
 simp (maxSteps:=1000000) only [↓Zn,Ze,Zd,Zm,Ya,Yb,if_true,if_false,↓reduceIte,reduceCtorEq,Yc,Yd,Ye,implies_true,forall_const,eq_self,ne_eq,not_true_eq_false,not_false_eq_true,imp_self,Yf,Yg,Yj,Yk,Yl,Ym,Yn,Zbr,ZcZ,Zbs,ZbL,ZaE,ZaY,Zbx,Zcn,Zaf,ZbK,ZB,Zcf,Za1,Zc4,Zbu,Zac,Zaw,ZbC,ZbD,ZcY,Zae,Zcd,ZaI,Zau,ZaG,Zbv,ZaW,ZZ,ZaA,ZaT,Zai,Zaj,ZaS,ZF,Zai,Zaj,ZcM,ZcL,Zbp,Zz,Zfw,Zfu,Zbe,ZR,Zaq,ZQ,Zbf,Z5,Zbd,ZS,ZL,Zar,Zap,Z4,Tryz.ntmps5,Tryz.results5,gTT]
 intro hp8
 have hp8b:p.length≤8:=by have:=of_decide_eq_false hp8; omega
 have xV:=ZHA (s.take 300)
 have xi:=ZpH xV
 obtain ⟨xP1,xP2⟩:=ZE3 (s.take 300)
 have xR:=ZNF (s.take 300)
 have hmV:=ZE6 (fxU (s.take 300))
 have hlen:=ZhC hmV
 have hmx:mxV (fxT (s.take 300)).m.length (ZsM (fxU (s.take 300))).length (dfO (fxT (s.take 300)).m (ZsM (fxU (s.take 300))))=true:=ZHJ _ _
 obtain ⟨hd0,hd1,hd2⟩:=ZHp xi.2.2.1 hmV
 obtain ⟨F,hF⟩:∃ F:Nat,w.tmod 60=(F:Int):=⟨(w.tmod 60).toNat,by rw [Int.tmod_eq_emod_of_nonneg hw.1]; omega⟩
 have hF60:F < 60:=by rw [Int.tmod_eq_emod_of_nonneg hw.1] at hF; omega
 have hfz:((F:Int)*fmZ (fxT (s.take 300))).toNat=F*fz (fxT (s.take 300)):=by
  have e:fmZ (fxT (s.take 300))=((fz (fxT (s.take 300)):Nat):Int):=by
   unfold fmZ fz
   rw [if_pos xV,Int.natCast_mul,Int.toNat_of_nonneg (by omega)]
  rw [e,← Int.natCast_mul,Int.toNat_natCast]
 obtain ⟨e1,e2⟩:=ZHo xV (V:=F) (by omega) (b:=btO (dT (fxU (s.take 300)) 7) (F*fz (fxT (s.take 300)))) (ZzN _ _)
 have bl:=ZuM (fxT (s.take 300)).k (btO (dT (fxU (s.take 300)) 7) (F*fz (fxT (s.take 300)))) (F*(fxT (s.take 300)).m.length)
 have ba:=ZDm (fxT (s.take 300)).k (btO (dT (fxU (s.take 300)) 7) (F*fz (fxT (s.take 300)))) (F*(fxT (s.take 300)).m.length)
 have rl:=ZzN (dT (fxU (s.take 300)) 7) (F*fz (fxT (s.take 300)))
 have hfb:F*fz (fxT (s.take 300))≤60*32:=by
  have h1:=ZAr xV
  have h2:fz (fxT (s.take 300))≤32:=by
   unfold fz
   have:(((szK (fxT (s.take 300)).k).toNat*(fxT (s.take 300)).m.length:Nat):Int)=szK (fxT (s.take 300)).k*((fxT (s.take 300)).m.length:Int):=by rw [Int.natCast_mul,Int.toNat_of_nonneg (by omega)]
   omega
  exact Nat.mul_le_mul (by omega) h2
 rw [hF,IntWalk.i64_in (F:Int) (by omega),hfz,e1,e2,xR,hd0,hd1,hd2]
 have H:tbH (fxP (s.take 300)) ((fxT (s.take 300)).m.length:Nat) ((ZsM (fxU (s.take 300))).length:Nat) (dfO (fxT (s.take 300)).m (ZsM (fxU (s.take 300)))) (ZsB (fxT (s.take 300)).k (btO (dT (fxU (s.take 300)) 7) (F*fz (fxT (s.take 300)))) (F*(fxT (s.take 300)).m.length)) F:=⟨xP1,rfl,rfl,by omega,by omega,hmx,by rw [Int.toNat_natCast]; exact bl,ba,by omega,xP2⟩
 generalize ZsB (fxT (s.take 300)).k (btO (dT (fxU (s.take 300)) 7) (F*fz (fxT (s.take 300)))) (F*(fxT (s.take 300)).m.length)=B at *
 generalize btO (dT (fxU (s.take 300)) 7) (F*fz (fxT (s.take 300)))=raw at *
 have hPe:(⟨(fxP (s.take 300)).n,(fxP (s.take 300)).d,0,0,0⟩:Ph)=fxP (s.take 300):=rfl
 generalize fxP (s.take 300)=P at *
 generalize dfO (fxT (s.take 300)).m (ZsM (fxU (s.take 300)))=mat at *
 generalize ZsM (fxU (s.take 300))=m at *
 generalize hcl:(fxT (s.take 300)).m.length=ch at *
 have HP:=ZEq H
 have hc8:1≤ch∧ch≤8:=by have:=H.hc; omega
 have hct:((ch:Nat):Int).toNat=ch:=Int.toNat_natCast _
 obtain ⟨n1,n2⟩:=ZDZ (di:=1) (ch:=(ch:Nat)) (n:=P.n) (d:=P.d) (q:=80) (s0:=0) (by rw [hPe]; exact xP1) H.hc (by decide) (by decide) (.inl rfl)
 have hz:nwS 1 (ch:Nat) P.n P.d 80 0 1=pcS P (ch:Nat) B 1 0 0:=by
  rw [ZGi HP]
  unfold nwS
  rw [hPe]
  rfl
 have hBd:B.length / ch=F:=by rw [bl,Nat.mul_div_cancel _ (by omega)]
 have hBl:B.length≤480:=by rw [bl]; exact Nat.mul_le_mul (show F≤60 by omega) hc8.2
 have hBb:ZaL (ch:Nat) B=true:=Za5 (z:=F) H.hc (by rw [hct]; exact bl) (by omega) ba
 simp only [n1,n2,hz,hBd,hBb,ZEQ hmV]
 refine ⟨by decide,⟨by omega,by omega,by omega⟩,by omega,by omega,hmV,⟨by omega,by omega⟩,fun _=>by omega,fun h=>absurd h (by decide),fun _=>⟨⟨by omega,trivial,by omega⟩,?_⟩⟩
 have hch2:=Zsu (ch:Nat) B F p p.length
 have hpl:1≤(cqL (ch:Nat) B F p p.length++[((ch:Int),Zc7 (ch:Nat) B (cqP F p p.length) F)]).length∧(cqL (ch:Nat) B F p p.length++[((ch:Int),Zc7 (ch:Nat) B (cqP F p p.length) F)]).length≤11:=by
  have:=ZsA (ch:Nat) B F p p.length
  rw [List.length_append,List.length_singleton]
  omega
 generalize cqL (ch:Nat) B F p p.length++[((ch:Int),Zc7 (ch:Nat) B (cqP F p p.length) F)]=L at *
 refine Zk (fun g:Nat×Nat=>⟨[(146,vI .i64 (g.1:Nat))],[(⟨1,16⟩,[.d (.int .i64 (pcS P (ch:Nat) B (if g.2=0 then 1 else 2) g.2 0).di),.d (.int .i64 (pcS P (ch:Nat) B (if g.2=0 then 1 else 2) g.2 0).st),.d (.int .i64 (pcS P (ch:Nat) B (if g.2=0 then 1 else 2) g.2 0).q),.d (.int .i64 (pcS P (ch:Nat) B (if g.2=0 then 1 else 2) g.2 0).s0),.d (.int .i64 (pcS P (ch:Nat) B (if g.2=0 then 1 else 2) g.2 0).r.c),.d (.int .i64 (pcS P (ch:Nat) B (if g.2=0 then 1 else 2) g.2 0).r.p.n),.d (.int .i64 (pcS P (ch:Nat) B (if g.2=0 then 1 else 2) g.2 0).r.p.d),.d (.int .i64 (pcS P (ch:Nat) B (if g.2=0 then 1 else 2) g.2 0).r.p.a),.d (.int .i64 (pcS P (ch:Nat) B (if g.2=0 then 1 else 2) g.2 0).r.p.p),.d (.int .i64 (pcS P (ch:Nat) B (if g.2=0 then 1 else 2) g.2 0).r.p.f),.d (.list (LI .i32 (pcS P (ch:Nat) B (if g.2=0 then 1 else 2) g.2 0).r.l)),.d (.int .i64 (pcS P (ch:Nat) B (if g.2=0 then 1 else 2) g.2 0).g.c),.d (.int .i64 (pcS P (ch:Nat) B (if g.2=0 then 1 else 2) g.2 0).g.q),.d (.int .i64 (pcS P (ch:Nat) B (if g.2=0 then 1 else 2) g.2 0).g.w),.d (.int .i64 (pcS P (ch:Nat) B (if g.2=0 then 1 else 2) g.2 0).g.r),.d (.list (LI .i32 (pcS P (ch:Nat) B (if g.2=0 then 1 else 2) g.2 0).g.l)),.d (.int .i64 (pcS P (ch:Nat) B (if g.2=0 then 1 else 2) g.2 0).wr),.d (.int .i64 (pcS P (ch:Nat) B (if g.2=0 then 1 else 2) g.2 0).pl),.d (.int .i64 (pcS P (ch:Nat) B (if g.2=0 then 1 else 2) g.2 0).mi)])],[]⟩) (fun g=>g.1≤L.length∧g.2≤F∧Zpr (ch:Nat) B F g.2 (L.drop g.1)) (fun g=>L.length - g.1) (fun g=>(g.1+1,g.2+(L[g.1]?.getD (0,[])).2.length / ch)) (0,0) ⟨Nat.zero_le _,Nat.zero_le _,hch2⟩ ?_ ?_
 ·simp (maxSteps:=1000000) only [↓Zn,Ze,Zd,Zm,Ya,Yb,if_true,if_false,↓reduceIte,reduceCtorEq,Yc,Yd,Ye,implies_true,forall_const,eq_self,ne_eq,not_true_eq_false,not_false_eq_true,imp_self,Yf,Yg,Yj,Yk,Yl,Ym,Yn,Zbr,ZcZ,Zbs,ZbL,ZaE,ZaY,Zbx,Zcn,Zaf,ZbK,ZB,Zcf,Za1,Zc4,Zbu,Zac,Zaw,ZbC,ZbD,ZcY,Zae,Zcd,ZaI,Zau,ZaG,Zbv,ZaW,ZZ,ZaA,ZaT,Zai,Zaj,ZaS,ZF,Zai,Zaj,ZcM,ZcL,Zbp,Zz,Zfw,Zfu,Zbe,ZR,Zaq,ZQ,Zbf,Z5,Zbd,ZS,ZL,Zar,Zap,Z4,Tryz.ntmps5,Tryz.results5,gTT]
  first | exact rfl | exact ⟨rfl,rfl,rfl,rfl,rfl,rfl,rfl,rfl,rfl,rfl,rfl,rfl,rfl,rfl,rfl,rfl,rfl,rfl,rfl,rfl⟩
 rintro ⟨i,q⟩ ⟨hi,hq,hc⟩
 simp (maxSteps:=1000000) only [↓Zn,Ze,Zd,Zm,Ya,Yb,if_true,if_false,↓reduceIte,reduceCtorEq,Yc,Yd,Ye,implies_true,forall_const,eq_self,ne_eq,not_true_eq_false,not_false_eq_true,imp_self,Yf,Yg,Yj,Yk,Yl,Ym,Yn,Zbr,ZcZ,Zbs,ZbL,ZaE,ZaY,Zbx,Zcn,Zaf,ZbK,ZB,Zcf,Za1,Zc4,Zbu,Zac,Zaw,ZbC,ZbD,ZcY,Zae,Zcd,ZaI,Zau,ZaG,Zbv,ZaW,ZZ,ZaA,ZaT,Zai,Zaj,ZaS,ZF,Zai,Zaj,ZcM,ZcL,Zbp,Zz,Zfw,Zfu,Zbe,ZR,Zaq,ZQ,Zbf,Z5,Zbd,ZS,ZL,Zar,Zap,Z4,Tryz.ntmps5,Tryz.results5,gTT]
 replace hi:i≤L.length:=hi
 replace hq:q≤F:=hq
 replace hc:Zpr (ch:Nat) B F q (L.drop i):=hc
 have hsq:1≤(if q=0 then (1:Int) else 2)∧(if q=0 then (1:Int) else 2)≤2:=by split <;> omega
 have okq:=(ZDL HP (st:=if q=0 then 1 else 2) (T:=q) (N:=0) ⟨by omega,by omega⟩ hq (by decide) (by rw [Zdc]; omega)).1
 refine ⟨fun h1=>?_,fun h1=>?_⟩
 ·have hlt:i < L.length:=by have:=of_decide_eq_true h1; omega
  rw [List.drop_eq_getElem_cons hlt] at hc
  obtain ⟨z,m1,m2,m3,m4⟩:=hc
  have hgx:L[i]?.getD (0,[])=((ch:Int),Zc7 (ch:Nat) B q z):=by rw [List.getElem?_eq_getElem hlt]; exact m3
  have hmB:z*((ch:Nat):Int).toNat≤B.length:=by rw [hct,bl]; exact Nat.mul_le_mul_right _ m2
  have hcl2:=ZmY (f:=q) hmB
  rw [hct] at hcl2
  have hdl:(Zc7 (ch:Nat) B q z).length / ch=z - q:=by rw [hcl2]; exact Nat.mul_div_cancel _ (by omega)
  have hqm:q+(z - q)=z:=by omega
  obtain ⟨v1,v2⟩:=ZDN HP (st:=if q=0 then 1 else 2) (T:=q) (m:=z) ⟨by omega,by omega⟩ m1 m2
  have hst:(if (if q=0 then (1:Int) else 2)=1∧q < z then (2:Int) else (if q=0 then 1 else 2))=if z=0 then 1 else 2:=by
   by_cases hq0:q=0
   ·rw [if_pos hq0]
    by_cases hm0:z=0
    ·rw [if_neg (by omega),if_pos hm0]
    ·rw [if_pos ⟨rfl,by omega⟩,if_neg hm0]
   ·rw [if_neg hq0,if_neg (fun h=>absurd h.1 (by decide)),if_neg (by omega)]
  rw [hst] at v2
  have hcle:(Zc7 (ch:Nat) B q z).length≤B.length:=by unfold Zc7; rw [List.length_take,List.length_drop]; omega
  rw [hgx]
  simp only [hdl,hqm]
  rw [v1,v2]
  exact ⟨⟨by omega,by omega⟩,⟨okq.lr,okq.lg,by omega⟩,fun h=>absurd h (by decide),fun _=>⟨⟨(ZY _ (by omega)).symm,rfl,rfl,rfl,rfl,rfl,rfl,rfl,rfl,rfl,rfl,rfl,rfl,rfl,rfl,rfl,rfl,rfl,rfl,rfl⟩,⟨by omega,m2,m4⟩,by omega⟩⟩
 have hil:i=L.length:=by have:=of_decide_eq_false h1; omega
 rw [hil,List.drop_length] at hc
 obtain rfl:q=F:=hc
 obtain ⟨s1,s2⟩:=ZEr HP
 rw [s1,s2]
 have ok3:=(ZDL HP (st:=3) (T:=q) (N:=0) (by decide) (Nat.le_refl _) (by decide) (by rw [Zdc]; omega)).1
 have hcM:1≤((m.length:Nat):Int)∧((m.length:Nat):Int)≤8:=by omega
 have hmt:((m.length:Nat):Int).toNat=m.length:=Int.toNat_natCast _
 obtain ⟨o1,o2⟩:=Zw2 (q:=37) (ct:=ctT) (ch:=(m.length:Nat)) (s:=List.replicate (13*m.length) 0) (N:=0) (W:=13) hcM ZwZ (ZGu 13 m.length) (ZsV (13*m.length)) (by decide) (by decide) (by decide)
 have hbi:biN (eqB 37 ctT (m.length:Nat) (List.replicate (13*m.length) 0) 0)=13:=by unfold biN; rw [if_pos o1.v,o2]; rfl
 obtain ⟨y1,y2,y3⟩:=ZBw hcM (n:=13) (by decide)
 have y3':Zxm (m.length:Nat) 13=List.replicate (13*m.length) 0:=by rw [y3,Int.toNat_natCast]; rfl
 have hv:Zao (ZGZ 8388607 100) (ZGY 8388607 100) (ZGX 8388607 100)=true:=by decide +kernel
 rw [hbi,y1,y3']
 generalize ZGZ 8388607 100=lt at *
 generalize ZGY 8388607 100=lr at *
 generalize ZGX 8388607 100=lg at *
 refine ⟨⟨okq.lr,okq.lg⟩,by have:=o1.len; omega,⟨ok3.lr,ok3.lg⟩,?_⟩
 refine Zk (fun g:Nat=>⟨[(32,vI .i64 (g:Nat)),(34,vI .i64 (owN (pcS P (ch:Nat) B 3 q (16*g)) 16)),(35,vI .i64 (owE (pcS P (ch:Nat) B 3 q (16*g)) 16))],[(⟨1,16⟩,[.d (.int .i64 (pcS P (ch:Nat) B 3 q (16*g)).di),.d (.int .i64 (pcS P (ch:Nat) B 3 q (16*g)).st),.d (.int .i64 (pcS P (ch:Nat) B 3 q (16*g)).q),.d (.int .i64 (pcS P (ch:Nat) B 3 q (16*g)).s0),.d (.int .i64 (pcS P (ch:Nat) B 3 q (16*g)).r.c),.d (.int .i64 (pcS P (ch:Nat) B 3 q (16*g)).r.p.n),.d (.int .i64 (pcS P (ch:Nat) B 3 q (16*g)).r.p.d),.d (.int .i64 (pcS P (ch:Nat) B 3 q (16*g)).r.p.a),.d (.int .i64 (pcS P (ch:Nat) B 3 q (16*g)).r.p.p),.d (.int .i64 (pcS P (ch:Nat) B 3 q (16*g)).r.p.f),.d (.list (LI .i32 (pcS P (ch:Nat) B 3 q (16*g)).r.l)),.d (.int .i64 (pcS P (ch:Nat) B 3 q (16*g)).g.c),.d (.int .i64 (pcS P (ch:Nat) B 3 q (16*g)).g.q),.d (.int .i64 (pcS P (ch:Nat) B 3 q (16*g)).g.w),.d (.int .i64 (pcS P (ch:Nat) B 3 q (16*g)).g.r),.d (.list (LI .i32 (pcS P (ch:Nat) B 3 q (16*g)).g.l)),.d (.int .i64 (pcS P (ch:Nat) B 3 q (16*g)).wr),.d (.int .i64 (pcS P (ch:Nat) B 3 q (16*g)).pl),.d (.int .i64 (pcS P (ch:Nat) B 3 q (16*g)).mi)]),(⟨1,27⟩,[.d (.int .i64 lt),.d (.int .i64 lr),.d (.int .i64 (tbG P (ch:Nat) (m.length:Nat) mat B q lt lr lg g))]),(⟨1,18⟩,[.d (.int .u64 7),.d (.str dacS),.d (.int .i64 1),.d (.int .i64 0),.d (.int .i64 0),.d (.int .i64 0),.d (.int .i64 0),.d (.list (Zsr m)),.d (.int .i64 2),.d (.int .i64 48000),.d (.list (LI .i64 m)),.d (.int .i64 48000),.d (.int .i64 48000),.d (.int .i64 16),.d (.list Zru),.d (.bool true),.d (.int .i64 0),.d (.int .i64 (eqB 37 ctT (m.length:Nat) (tbS P (ch:Nat) (m.length:Nat) mat B q lt lr lg g) (16*g)).q),.d (.int .i64 (eqB 37 ctT (m.length:Nat) (tbS P (ch:Nat) (m.length:Nat) mat B q lt lr lg g) (16*g)).c.t),.d (.int .i64 (eqB 37 ctT (m.length:Nat) (tbS P (ch:Nat) (m.length:Nat) mat B q lt lr lg g) (16*g)).c.d),.d (.int .i64 (eqB 37 ctT (m.length:Nat) (tbS P (ch:Nat) (m.length:Nat) mat B q lt lr lg g) (16*g)).c.g),.d (.int .i64 (eqB 37 ctT (m.length:Nat) (tbS P (ch:Nat) (m.length:Nat) mat B q lt lr lg g) (16*g)).c.m),.d (.int .i64 (eqB 37 ctT (m.length:Nat) (tbS P (ch:Nat) (m.length:Nat) mat B q lt lr lg g) (16*g)).r.c),.d (.int .i64 (eqB 37 ctT (m.length:Nat) (tbS P (ch:Nat) (m.length:Nat) mat B q lt lr lg g) (16*g)).r.p.n),.d (.int .i64 (eqB 37 ctT (m.length:Nat) (tbS P (ch:Nat) (m.length:Nat) mat B q lt lr lg g) (16*g)).r.p.d),.d (.int .i64 (eqB 37 ctT (m.length:Nat) (tbS P (ch:Nat) (m.length:Nat) mat B q lt lr lg g) (16*g)).r.p.a),.d (.int .i64 (eqB 37 ctT (m.length:Nat) (tbS P (ch:Nat) (m.length:Nat) mat B q lt lr lg g) (16*g)).r.p.p),.d (.int .i64 (eqB 37 ctT (m.length:Nat) (tbS P (ch:Nat) (m.length:Nat) mat B q lt lr lg g) (16*g)).r.p.f),.d (.list (LI .i32 (eqB 37 ctT (m.length:Nat) (tbS P (ch:Nat) (m.length:Nat) mat B q lt lr lg g) (16*g)).r.l)),.d (.int .i64 (eqB 37 ctT (m.length:Nat) (tbS P (ch:Nat) (m.length:Nat) mat B q lt lr lg g) (16*g)).lo),.d (.int .i64 (eqB 37 ctT (m.length:Nat) (tbS P (ch:Nat) (m.length:Nat) mat B q lt lr lg g) (16*g)).mi)]),(⟨1,31⟩,[.d (.int .i64 (m.length:Nat)),.d (.list (LI .i32 ((tbS P (ch:Nat) (m.length:Nat) mat B q lt lr lg g).take (16*g*m.length))))])],[]⟩) (fun g=>16*g≤tbA P q) (fun g=>40 - g) (·+1) 0 (Nat.zero_le _) ?_ ?_
 ·simp (maxSteps:=1000000) only [↓Zn,Ze,Zd,Zm,Ya,Yb,if_true,if_false,↓reduceIte,reduceCtorEq,Yc,Yd,Ye,implies_true,forall_const,eq_self,ne_eq,not_true_eq_false,not_false_eq_true,imp_self,Yf,Yg,Yj,Yk,Yl,Ym,Yn,Zbr,ZcZ,Zbs,ZbL,ZaE,ZaY,Zbx,Zcn,Zaf,ZbK,ZB,Zcf,Za1,Zc4,Zbu,Zac,Zaw,ZbC,ZbD,ZcY,Zae,Zcd,ZaI,Zau,ZaG,Zbv,ZaW,ZZ,ZaA,ZaT,Zai,Zaj,ZaS,ZF,Zai,Zaj,ZcM,ZcL,Zbp,Zz,Zfw,Zfu,Zbe,ZR,Zaq,ZQ,Zbf,Z5,Zbd,ZS,ZL,Zar,Zap,Z4,Tryz.ntmps5,Tryz.results5,gTT]
  have hS0:tbS P (ch:Nat) (m.length:Nat) mat B q lt lr lg 0=List.replicate (13*m.length) 0:=by
   unfold tbS
   show List.replicate (13*((m.length:Nat):Int).toNat) 0++[]=_
   rw [List.append_nil,hmt]
  rw [hS0,Nat.zero_mul,List.take_zero]
  exact ⟨rfl,rfl,⟨rfl,rfl,rfl,rfl,rfl,rfl,rfl,rfl,rfl,rfl,rfl,rfl,rfl,rfl,rfl⟩,rfl⟩
 intro g hg
 simp (maxSteps:=1000000) only [↓Zn,Ze,Zd,Zm,Ya,Yb,if_true,if_false,↓reduceIte,reduceCtorEq,Yc,Yd,Ye,implies_true,forall_const,eq_self,ne_eq,not_true_eq_false,not_false_eq_true,imp_self,Yf,Yg,Yj,Yk,Yl,Ym,Yn,Zbr,ZcZ,Zbs,ZbL,ZaE,ZaY,Zbx,Zcn,Zaf,ZbK,ZB,Zcf,Za1,Zc4,Zbu,Zac,Zaw,ZbC,ZbD,ZcY,Zae,Zcd,ZaI,Zau,ZaG,Zbv,ZaW,ZZ,ZaA,ZaT,Zai,Zaj,ZaS,ZF,Zai,Zaj,ZcM,ZcL,Zbp,Zz,Zfw,Zfu,Zbe,ZR,Zaq,ZQ,Zbf,Z5,Zbd,ZS,ZL,Zar,Zap,Z4,Tryz.ntmps5,Tryz.results5,gTT]
 obtain ⟨w1,w2⟩:=ZGH H hg
 obtain ⟨x1,x2,x3,x4,x5,x6,x7⟩:=ZH9 H
 obtain ⟨z1,z2⟩:=ZNY (t:=lt) (r:=lr) (g:=lg) H hg
 have j1:IntKind.i64.wrap (16*(g:Int))=16*(g:Int):=IntWalk.i64_in _ (by omega)
 have j2:IntKind.i64.wrap (16*(g:Int)+16)=16*(g:Int)+16:=IntWalk.i64_in _ (by omega)
 have j3:16*(g:Int)+16 - 16*(g:Int)=16:=by omega
 have okg:=(ZDL HP (st:=3) (T:=q) (N:=16*g) (by decide) (Nat.le_refl _) (by omega) ((Zaz H.hp (n:=(q:Int)) (by omega) (k:=16*g) (by omega)).1 hg)).1
 have h8a:=Nat.mul_le_mul (show 13+16*g≤413 by omega) hlen.2
 rw [hcl,j1,j2,j3,w1]
 refine ⟨fun h1=>?_,fun h1=>?_⟩
 ·rw [Bool.and_eq_true,beq_iff_eq] at h1
  have hq2:=w2.1 h1.1
  obtain ⟨t1,t2,t3,t4,t5⟩:=ZCD H hq2
  obtain ⟨k1,k2,k3⟩:=ZFk H hq2
  obtain ⟨r1,r2,r3,r4,r5,r6,r7,r8⟩:=ZIb H hv hq2
  have hI:(⟨skC (pcS P (ch:Nat) B 3 q (16*g)) 16,skO (pcS P (ch:Nat) B 3 q (16*g)) 16,(ch:Nat),(m.length:Nat),mat,65536,65536,0,0⟩:Inp)=tbI P (ch:Nat) (m.length:Nat) mat B q g:=by rw [t4]; rfl
  obtain ⟨d1,d2,d3,d4,d5,d6,d7,d8,d9,d10,d11,d12⟩:=ZAj (c:=(m.length:Nat)) (s:=tbS P (ch:Nat) (m.length:Nat) mat B q lt lr lg g) (y:=mxO (m.length:Nat) 16 [tbI P (ch:Nat) (m.length:Nat) mat B q g] lt lr (tbG P (ch:Nat) (m.length:Nat) mat B q lt lr lg g)) (k:=g) hcM z1 z2 r7 r8 (by omega)
  rw [r6] at d6 d7 d11 d12
  rw [hmt] at d7 d11 z1 r7
  rw [hI,t1,t2,t3,r1,r2,r3,r4,r5,d1,d2,d3,d4,d6,d7]
  generalize mxO (m.length:Nat) 16 [tbI P (ch:Nat) (m.length:Nat) mat B q g] lt lr (tbG P (ch:Nat) (m.length:Nat) mat B q lt lr lg g)=Y at *
  have hYb:ZaL (m.length:Nat) Y=true:=Za5 (z:=16) hcM (by rw [hmt]; exact r7) (by decide) r8
  have okn:=(ZDL HP (st:=3) (T:=q) (N:=16*(g+1)) (by decide) (Nat.le_refl _) (by omega) ((Zaz H.hp (n:=(q:Int)) (by omega) (k:=16*(g+1)) (by omega)).1 hq2)).1
  have h8b:=Nat.mul_le_mul_left 16 hlen.2
  have hle1:16*g*m.length≤(13+16*g)*m.length:=Nat.mul_le_mul_right _ (by omega)
  refine ⟨⟨okg.lr,okg.lg⟩,k1,⟨⟨rfl,.inl rfl,rfl,rfl,rfl,rfl⟩,⟨rfl,hmV,rfl,rfl,rfl,rfl,rfl,rfl⟩,d9,d10,⟨rfl,rfl,rfl⟩,⟨by omega,by omega,by omega,by decide⟩,⟨rfl,hYb,by omega⟩,rfl,rfl,d8⟩,fun h=>absurd h (by decide),fun _=>⟨by kernel_rfl,?_,⟨okn.lr,okn.lg⟩,⟨⟨(ZY _ (by omega)).symm,rfl,rfl⟩,⟨rfl,rfl,rfl,rfl,rfl,rfl,rfl,rfl,rfl,rfl,rfl,rfl,rfl,rfl,rfl,rfl,rfl,rfl,rfl⟩,⟨rfl,rfl,rfl⟩,⟨rfl,rfl,rfl,rfl,rfl,rfl,rfl,rfl,rfl,rfl,rfl,rfl,rfl,rfl,rfl⟩,?_⟩,hq2,by omega⟩⟩
  ·simp only [List.length_take,List.length_drop]
   omega
  ·have e:16*(g+1)*m.length=16*g*m.length+16*m.length:=by rw [← Nat.add_mul]; rfl
   rw [e,List.take_add]
   congr 1
   rw [← r6,List.take_append_of_le_length (by rw [z1]; exact hle1)]
 have hnq:¬ 16*(g+1)≤tbA P q:=fun h=>by
  have h2:=w2.2 h
  rw [h2,decide_eq_true (show (g:Int) < 40 by omega)] at h1
  exact absurd h1 (by decide)
 obtain ⟨c1,c2,c3,c4⟩:=ZFQ H.hp (c:=(ch:Nat)) (s:=[]) (y:=B) (W:=0) (V:=q) (N:=0) H.hc (by simp) rfl H.hb ba (by omega) (by decide) (by rw [Zdc]; decide) (by rw [H.h0]; omega) (by rw [Nat.zero_add]; have:=Zrl H (T:=q) (by omega); omega)
 rw [ZnL H.hp] at c1 c2 c3 c4
 rw [Nat.zero_add,List.nil_append] at c4
 have c5:cvO ⟨(ch:Nat),P,[]⟩ (ch:Nat) B=tbO P (ch:Nat) B q:=c4
 have hOb:ZaL (ch:Nat) (tbO P (ch:Nat) B q)=true:=Za5 H.hc x1 (by omega) x2
 have hOl:=Nat.mul_le_mul x7 hc8.2
 have hXl:=Nat.mul_le_mul x7 hlen.2
 rw [hct] at x1
 rw [hmt] at x3 x6
 have hAp:apO (ch:Nat) (m.length:Nat) mat (ch:Nat) (tbO P (ch:Nat) B q)=tbX P (ch:Nat) (m.length:Nat) mat B q:=by
  rw [(Zue hOb H.hm rfl (by omega)).2.2.1]
  unfold tbX
  rw [hct,x1,Nat.mul_div_cancel _ (by omega)]
 obtain ⟨q1,q2,q3,q4⟩:=Zp5 H.hm
 have hml8:=Nat.mul_le_mul (show ((ch:Nat):Int).toNat≤8 by omega) (show ((m.length:Nat):Int).toNat≤8 by omega)
 rw [(ZDF H.hc (by rw [hPe]; exact xP1)).2,hPe,c1,c2,c5,hAp]
 have hend:=ZIa (t:=lt) (r:=lr) (g:=lg) H hg
 rw [hmt] at hend z1
 have hrX:Zql lt lr lg (m.length:Nat) (tbX P (ch:Nat) (m.length:Nat) mat B q)=oAt lt lr lg (m.length:Nat) (tbX P (ch:Nat) (m.length:Nat) mat B q) (tbA P q)∧Zhb lt lr lg (m.length:Nat) (tbX P (ch:Nat) (m.length:Nat) mat B q)=0∧Zrt lt lr lg (m.length:Nat) (tbX P (ch:Nat) (m.length:Nat) mat B q)=(m.length:Nat):=by
  have e:Zhb lt lr lg (m.length:Nat) (tbX P (ch:Nat) (m.length:Nat) mat B q)=0:=Znm hv x5 (by
   rw [List.all_eq_true]
   intro y hy
   have:=List.all_eq_true.1 x4 y hy
   simp only [ZbI,Bool.and_eq_true,decide_eq_true_eq] at this
   simp only [okX,Bool.and_eq_true,decide_eq_true_eq]
   omega)
  refine ⟨?_,e,?_⟩
  ·unfold Zql
   rw [if_pos e,hmt,x6]
  ·unfold Zrt
   rw [if_pos e]
 obtain ⟨f1,f2,f3⟩:=hrX
 have f4:=ZfU (t:=lt) (r:=lr) (g:=lg) x5 (tbA P q) (by rw [hmt,x6]; exact Nat.le_refl _)
 have f5:=Znd (t:=lt) (r:=lr) (g:=lg) (c:=(m.length:Nat)) (s:=tbX P (ch:Nat) (m.length:Nat) mat B q) (tbA P q)
 generalize oAt lt lr lg (m.length:Nat) (tbX P (ch:Nat) (m.length:Nat) mat B q) (tbA P q)=W at *
 generalize tbX P (ch:Nat) (m.length:Nat) mat B q=X at *
 generalize tbS P (ch:Nat) (m.length:Nat) mat B q lt lr lg g=Sg at *
 refine ⟨⟨by show (0:Nat)≤_; omega,by omega⟩,⟨by omega,by omega⟩,?_⟩
 refine Ze5 55 1 ⟨1,99⟩ rfl (by simp (maxSteps:=1000000) only [↓Zn,Ze,Zd,Zm,Ya,Yb,if_true,if_false,↓reduceIte,reduceCtorEq,Yc,Yd,Ye,implies_true,forall_const,eq_self,ne_eq,not_true_eq_false,not_false_eq_true,imp_self,Yf,Yg,Yj,Yk,Yl,Ym,Yn,Zbr,ZcZ,Zbs,ZbL,ZaE,ZaY,Zbx,Zcn,Zaf,ZbK,ZB,Zcf,Za1,Zc4,Zbu,Zac,Zaw,ZbC,ZbD,ZcY,Zae,Zcd,ZaI,Zau,ZaG,Zbv,ZaW,ZZ,ZaA,ZaT,Zai,Zaj,ZaS,ZF,Zai,Zaj,ZcM,ZcL,Zbp,Zz,Zfw,Zfu,Zbe,ZR,Zaq,ZQ,Zbf,Z5,Zbd,ZS,ZL,Zar,Zap,Z4,Tryz.ntmps5,Tryz.results5,gTT]) (Nat.le_refl _) ?_
 refine Zk (fun z:Nat=>⟨[(289,vI .i64 (z:Nat)),(55,.c (.own ⟨1,99⟩ (LI .i64 (X.take z))))],[],[(⟨1,99⟩,⟨false,1,LI .i64 (X.take z)⟩)]⟩) (fun z=>z≤X.length) (fun z=>X.length - z) (·+1) 0 (Nat.zero_le _) ?_ ?_
 ·simp (maxSteps:=1000000) only [↓Zn,Ze,Zd,Zm,Ya,Yb,if_true,if_false,↓reduceIte,reduceCtorEq,Yc,Yd,Ye,implies_true,forall_const,eq_self,ne_eq,not_true_eq_false,not_false_eq_true,imp_self,Yf,Yg,Yj,Yk,Yl,Ym,Yn,Zbr,ZcZ,Zbs,ZbL,ZaE,ZaY,Zbx,Zcn,Zaf,ZbK,ZB,Zcf,Za1,Zc4,Zbu,Zac,Zaw,ZbC,ZbD,ZcY,Zae,Zcd,ZaI,Zau,ZaG,Zbv,ZaW,ZZ,ZaA,ZaT,Zai,Zaj,ZaS,ZF,Zai,Zaj,ZcM,ZcL,Zbp,Zz,Zfw,Zfu,Zbe,ZR,Zaq,ZQ,Zbf,Z5,Zbd,ZS,ZL,Zar,Zap,Z4,Tryz.ntmps5,Tryz.results5,gTT]
  rfl
 intro z hz
 simp (maxSteps:=1000000) only [↓Zn,Ze,Zd,Zm,Ya,Yb,if_true,if_false,↓reduceIte,reduceCtorEq,Yc,Yd,Ye,implies_true,forall_const,eq_self,ne_eq,not_true_eq_false,not_false_eq_true,imp_self,Yf,Yg,Yj,Yk,Yl,Ym,Yn,Zbr,ZcZ,Zbs,ZbL,ZaE,ZaY,Zbx,Zcn,Zaf,ZbK,ZB,Zcf,Za1,Zc4,Zbu,Zac,Zaw,ZbC,ZbD,ZcY,Zae,Zcd,ZaI,Zau,ZaG,Zbv,ZaW,ZZ,ZaA,ZaT,Zai,Zaj,ZaS,ZF,Zai,Zaj,ZcM,ZcL,Zbp,Zz,Zfw,Zfu,Zbe,ZR,Zaq,ZQ,Zbf,Z5,Zbd,ZS,ZL,Zar,Zap,Z4,Tryz.ntmps5,Tryz.results5,gTT]
 refine ⟨fun h2=>?_,fun h2=>?_⟩
 ·have hlt:z < X.length:=by have:=of_decide_eq_true h2; omega
  have hxz:X[z]?.getD 0=X[z]:=by rw [List.getElem?_eq_getElem hlt]; rfl
  have hxr:=List.all_eq_true.1 x4 _ (List.getElem_mem hlt)
  simp only [ZbI,Bool.and_eq_true,decide_eq_true_eq] at hxr
  have htk:List.take (z+1) X=List.take z X++[X[z]]:=by
   rw [List.take_add_one,List.getElem?_eq_getElem hlt]
   rfl
  rw [hxz,IntWalk.i64_in X[z] (by omega),htk]
  exact ⟨⟨by omega,by omega⟩,by unfold Zab; rw [List.length_take]; omega,⟨⟨(ZY _ (by omega)).symm,rfl⟩,rfl⟩,by omega,by omega⟩
 have hzX:List.take z X=X:=List.take_of_length_le (by have:=of_decide_eq_false h2; omega)
 have hle1:16*g*m.length≤(13+16*g)*m.length:=Nat.mul_le_mul_right _ (by omega)
 have hol:(List.take (16*g*m.length) Sg).length=16*g*m.length:=by rw [List.length_take]; omega
 have hob:ZaL (m.length:Nat) (List.take (16*g*m.length) Sg)=true:=Za5 (z:=16*g) hcM (by rw [hmt]; exact hol) (by omega) (Zuc z2 _)
 rw [hmt] at f4
 have hwl:(List.replicate (13*m.length) (0:Int)++W).length=(13+tbA P q)*m.length:=by rw [List.length_append,List.length_replicate,f4,Nat.add_mul]
 have hwb:ZaL (m.length:Nat) (List.replicate (13*m.length) (0:Int)++W)=true:=Za5 (z:=13+tbA P q) hcM (by rw [hmt]; exact hwl) (by omega) (by rw [List.all_append,ZsV,f5]; rfl)
 have hwm:=Nat.mul_le_mul (show 13+tbA P q≤413 by omega) hlen.2
 have hrl:(List.replicate (13*m.length) (0:Int)).length=13*m.length:=List.length_replicate ..
 have h13:=Nat.mul_le_mul_left 13 hlen.2
 rw [hzX,f1,f2,j1,j2,if_pos hob,if_pos hOb,hol,x1,Nat.mul_div_cancel _ (by omega),Nat.mul_div_cancel _ (by omega)]
 refine ⟨by omega,by omega,fun _=>⟨hob,by omega,by omega,hend,hwb⟩,fun _=>by omega,fun _=>by omega,?_⟩
 have e1:((16*g:Nat):Int)=16*(g:Int):=by omega
 rw [e1,decide_eq_true (show ((tbA P q:Nat):Int) < 16*(g:Int)+16 by omega)]
 simp
end Go.Vam
