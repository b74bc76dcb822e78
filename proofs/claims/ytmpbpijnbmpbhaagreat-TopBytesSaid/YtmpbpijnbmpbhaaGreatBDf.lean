/- A part of the proof. Conditions: none. -/
import Derived.Test.YtmpbpijnbmpbhaaGreatBDe
set_option linter.unusedVariables false
set_option linter.defProp false
set_option linter.unusedSimpArgs false
set_option maxRecDepth 40000
set_option maxHeartbeats 4000000
namespace Go.Vam
open Go.Proofs
open Nat renaming reduceShiftRight→Ya,reduceMod→Yb,reduceEqDiff→Yc,reduceLT→Yd,reduceLeDiff→Ye,reduceAdd→Yf,reduceMul→Yg
open Int renaming reduceLE→Yj,reduceLT→Yk,reduceNeg→Yl,reduceAdd→Ym,reduceToNat→Yn,reduceSub→Yo
def gE2:=And.intro (@ZcM) (And.intro (@ZcL) (And.intro (@Zbp) (@Zz)))
theorem ZFH {z:Int} (h:0≤z∧z≤18446744073709551615):((BitVec.ofInt IntKind.u64.bits z &&& BitVec.ofInt IntKind.u64.bits 4294967295).toNat:Int)=z % 4294967296:=by
 show (((BitVec.ofInt 64 z &&& BitVec.ofInt 64 4294967295).toNat:Nat):Int)=_
 rw [BitVec.toNat_and]
 have e:(BitVec.ofInt 64 4294967295).toNat=2 ^ 32 - 1:=by decide
 rw [e,Nat.and_two_pow_sub_one_eq_mod]
 simp only [BitVec.toNat_ofInt]
 omega
theorem ZxJ (x y:Int) (hx:0≤x∧x≤1099511627776) (hy:0≤y∧y≤65536):Spec Tryz.prog 0 240 [vI .u64 x,vI .u64 y] [] [] (.tup [.int .u64 0,.int .u64 (x*y)]) [] []:=by
 refine sE (md:=fun _=>0) (L:=[]) [] 16371 Zb Tryz.func240 rfl rfl rfl ?_
 simp (maxSteps:=1000000) only [↓Zn,Ze,Zd,Zm,gSt,gS0,Ya,Yb,↓reduceIte,reduceCtorEq,Yc,Yd,Ye,Yf,Yg,Yj,Yk,Yl,Ym,Yn,gE1,gE2,Tryz.ntmps240,Tryz.results240,gTT]
 have eb:Nat.min 32 IntKind.u64.bits=32:=rfl
 have ey:y.fdiv (2 ^ 32)=0:=by rw [Int.fdiv_eq_ediv_of_nonneg _ (by decide)]; omega
 have ex:x.fdiv (2 ^ 32)=x / 4294967296:=Int.fdiv_eq_ediv_of_nonneg _ (by decide)
 have hm:∀ z:Int,0≤z→z≤4294967296→0≤z*y∧z*y≤4294967296*65536:=fun z h1 h2=>⟨Int.mul_nonneg h1 hy.1,Int.mul_le_mul h2 hy.2 hy.1 (by decide)⟩
 have h1:=hm (x % 4294967296) (by omega) (by omega)
 have h2:0≤x / 4294967296*y∧x / 4294967296*y≤256*65536:=⟨Int.mul_nonneg (by omega) hy.1,Int.mul_le_mul (by omega) hy.2 hy.1 (by decide)⟩
 have h3:0≤x*y∧x*y≤1099511627776*65536:=⟨Int.mul_nonneg hx.1 hy.1,Int.mul_le_mul hx.2 hy.2 hy.1 (by decide)⟩
 rw [eb,ey,ex,ZFH (by omega),ZFH (by omega)]
 have e4:y % 4294967296=y:=by omega
 rw [e4,IntWalk.u64_in y (by omega),IntWalk.u64_in (x % 4294967296) (by omega),Int.mul_zero,Int.mul_zero,IntWalk.u64_in (x / 4294967296*y) (by omega),IntWalk.u64_in (x % 4294967296*y) (by omega),IntWalk.u64_in (x*y) (by omega)]
 generalize x % 4294967296*y=p at *
 generalize x / 4294967296*y=q at *
 have e5:p.fdiv (2 ^ 32)=p / 4294967296:=Int.fdiv_eq_ediv_of_nonneg _ (by decide)
 rw [e5,IntWalk.u64_in (q+p / 4294967296) (by omega),ZFH (by omega)]
 have e6:(q+p / 4294967296).fdiv (2 ^ 32)=0:=by rw [Int.fdiv_eq_ediv_of_nonneg _ (by decide)]; omega
 rw [e6]
 have e7:(q+p / 4294967296) % 4294967296=q+p / 4294967296:=by omega
 have w0:IntKind.u64.wrap 0=0:=by decide
 simp only [e7,w0,Int.add_zero,Int.zero_add,IntWalk.u64_in (q+p / 4294967296) (by omega),e6]
def Zji:List V→Zf→Zr→Name→Option Ent
 | [.c (.d (.int .u64 x)),.c (.d (.int .u64 y))],[],[],_=>some ⟨(0≤x∧x≤1099511627776)∧(0≤y∧y≤65536),.tup [.int .u64 0,.int .u64 (x*y)],[],[]⟩
 | _,_,_,_=>none
def Zwa:=And.intro (@Zji.eq_1) (@Zji.eq_1)
theorem Zwb:Snd Tryz.prog 240 Zji:=by
 intro vs b k n e h hn hp
 unfold Zji at h
 split at h
 ·cases h; obtain ⟨hp0,hp1⟩:=hp; exact (ZxJ _ _ hp0 hp1).lift rfl _
 ·cases h
theorem Zxx (x y:Int) (hx:0≤x∧x≤1152921504606846976) (hy:1≤y∧y≤68719476736):Spec Tryz.prog 0 241 [vI .u64 0,vI .u64 x,vI .u64 y] [] [] (.tup [.int .u64 (x / y),.int .u64 (x % y)]) [] []:=by
 refine sE (md:=fun _=>0) (L:=[]) [(17,[0,0,0,0,0,1339612589541271485227670990329741255,0,0,0,0,0,0]),(24,[0,0,0,0,0,1349855206390817479407533205875064775,0,0,0,0,0,0]),(28,[0,0,0,0,0,43493679634671988334798410452216850153415,0,0,0,0,0,38134232355667207535250260385166500822983,0,0,0,0])] 1339612589540973385843439843975626695 Zb Tryz.func241 rfl rfl rfl ?_
 have h1:(y==0)=false:=by simp; omega
 have h2:decide (y≤0)=false:=by simp; omega
 simp (maxSteps:=1000000) only [↓Zn,Ze,Zd,Zm,gSt,gS0,Ya,Yb,↓reduceIte,reduceCtorEq,Yc,Yd,Ye,Yf,Yg,Yj,Yk,Yl,Ym,Yn,gE1,gE2,h1,h2,Tryz.ntmps241,Tryz.results241,gTT]
 have e:=Int.ediv_nonneg hx.1 (show 0≤y by omega)
 have e2:=Int.ediv_le_self y hx.1
 refine ⟨by kernel_rfl,by omega,by omega,?_⟩
 rw [Int.tdiv_eq_ediv_of_nonneg hx.1,Int.tmod_eq_emod_of_nonneg hx.1,IntWalk.u64_in (x / y) (by omega)]
def Zi1:List V→Zf→Zr→Name→Option Ent
 | [.c (.d (.int .u64 0)),.c (.d (.int .u64 x)),.c (.d (.int .u64 y))],[],[],_=>some ⟨(0≤x∧x≤1152921504606846976)∧(1≤y∧y≤68719476736),.tup [.int .u64 (x / y),.int .u64 (x % y)],[],[]⟩
 | _,_,_,_=>none
def ZvW:=And.intro (@Zi1.eq_1) (@Zi1.eq_1)
theorem ZvX:Snd Tryz.prog 241 Zi1:=by
 intro vs b k n e h hn hp
 unfold Zi1 at h
 split at h
 ·cases h; obtain ⟨hp0,hp1⟩:=hp; exact (Zxx _ _ hp0 hp1).lift rfl _
 ·cases h
theorem ZnB (n rn rd:Int) (hn:0≤n∧n≤1099511627776) (hr:rtV rn rd=true):Spec Tryz.prog 0 188 [vI .i64 n,.agg [.d (.int .i64 rn),.d (.int .i64 rd)]] [] [] (vI .i64 0) [] []:=by
 refine sE (md:=fun _=>0) (L:=[(216,ZbS)]) [] 571 (Za Zcl Zb) Tryz.func188 rfl rfl rfl ?_
 have h1:decide (n < -1125899906842624)=false:=decide_eq_false (by omega)
 have h2:decide (1125899906842624 < n)=false:=decide_eq_false (by omega)
 simp (maxSteps:=1000000) only [↓Zn,Ze,Zd,Zm,gSt,gS0,Ya,Yb,↓reduceIte,reduceCtorEq,Yc,Yd,Ye,Yf,Yg,Yj,Yk,Yl,Ym,Yn,Zck,gE1,gE2,h1,h2,hr,Tryz.ntmps188,Tryz.results188,gTT]
def ZcD:List V→Zf→Zr→Name→Option Ent
 | [.c (.d (.int .i64 n)),.agg [.d (.int .i64 rn),.d (.int .i64 rd)]],[],[],_=>some ⟨(0≤n∧n≤1099511627776)∧rtV rn rd=true,vI .i64 0,[],[]⟩
 | _,_,_,_=>none
def Zgv:=And.intro (@ZcD.eq_1) (@ZcD.eq_1)
theorem Zgw:Snd Tryz.prog 188 ZcD:=by
 intro vs b k n e h hn hp
 unfold ZcD at h
 split at h
 ·cases h; obtain ⟨hp0,hp1⟩:=hp; exact (ZnB _ _ _ hp0 hp1).lift rfl _
 ·cases h
theorem Zth (n rn rd:Int) (hn:0≤n∧n≤1099511627776) (hr:1≤rn∧rn≤65536) (hd:rd=1):Spec Tryz.prog 0 189 [vI .i64 n,.agg [.d (.int .i64 rn),.d (.int .i64 rd)]] [] [] (.tup [.int .i64 (n*rn),.int .i64 0,.bool true]) [] []:=by
 refine sE (md:=fun _=>0) (L:=[(240,Zji),(241,Zi1)]) [] 2394737399074811 (Za Zwb (Za ZvX Zb)) Tryz.func189 rfl rfl rfl ?_
 subst hd
 have h1:decide (n < 0)=false:=decide_eq_false (by omega)
 have w1:=IntWalk.u64_in n (by omega)
 have w2:=IntWalk.u64_in rn (by omega)
 have w3:IntKind.u64.wrap 1=1:=by decide
 simp (maxSteps:=1000000) only [↓Zn,Ze,Zd,Zm,gSt,gS0,Ya,Yb,↓reduceIte,reduceCtorEq,Yc,Yd,Ye,Yf,Yg,Yj,Yk,Yl,Ym,Yn,Zwa,ZvW,gE1,gE2,h1,w1,w2,w3,Int.ediv_one,Int.emod_one,Tryz.ntmps189,Tryz.results189,gTT]
 have h3:0≤n*rn∧n*rn≤1099511627776*65536:=⟨Int.mul_nonneg hn.1 (by omega),Int.mul_le_mul hn.2 hr.2 (by omega) (by decide)⟩
 refine ⟨⟨hn,by omega,hr.2⟩,by omega,fun h=>absurd (of_decide_eq_true h) (by omega),fun h=>?_⟩
 rw [IntWalk.i64_in (n*rn) (by omega),IntWalk.i64_in 0 (by decide)]
def Zfb:List V→Zf→Zr→Name→Option Ent
 | [.c (.d (.int .i64 n)),.agg [.d (.int .i64 rn),.d (.int .i64 rd)]],[],[],_=>some ⟨(0≤n∧n≤1099511627776)∧(1≤rn∧rn≤65536)∧rd=1,.tup [.int .i64 (n*rn),.int .i64 0,.bool true],[],[]⟩
 | _,_,_,_=>none
def Zi2:=And.intro (@Zfb.eq_1) (@Zfb.eq_1)
theorem Zi3:Snd Tryz.prog 189 Zfb:=by
 intro vs b k n e h hn hp
 unfold Zfb at h
 split at h
 ·cases h; obtain ⟨hp0,hp1,hp2⟩:=hp; exact (Zth _ _ _ hp0 hp1 hp2).lift rfl _
 ·cases h
theorem ZqV (n rn rd:Int) (hn:0≤n∧n≤1099511627776) (hr:1≤rn∧rn≤65536) (hd:rd=1) (hv:rtV rn rd=true):Spec Tryz.prog 0 266 [vI .i64 n,.agg [.d (.int .i64 rn),.d (.int .i64 rd)]] [] [] (.tup [.int .i64 (n*rn),.int .i64 0,.int .i64 0]) [] []:=by
 refine sE (md:=fun _=>0) (L:=[(188,ZcD),(189,Zfb)]) [] 67113211 (Za Zgw (Za Zi3 Zb)) Tryz.func266 rfl rfl rfl ?_
 simp (maxSteps:=1000000) only [↓Zn,Ze,Zd,Zm,gSt,gS0,Ya,Yb,↓reduceIte,reduceCtorEq,Yc,Yd,Ye,Yf,Yg,Yj,Yk,Yl,Ym,Yn,Zgv,Zi2,gE1,gE2,Tryz.ntmps266,Tryz.results266,gTT]
 have h3:0≤n*rn∧n*rn≤1099511627776*65536:=⟨Int.mul_nonneg hn.1 (by omega),Int.mul_le_mul hn.2 hr.2 (by omega) (by decide)⟩
 refine ⟨⟨hn,hv⟩,⟨hn,hr,hd⟩,fun h=>?_⟩
 simp only [Bool.or_eq_true,decide_eq_true_eq] at h
 omega
def ZeH:List V→Zf→Zr→Name→Option Ent
 | [.c (.d (.int .i64 n)),.agg [.d (.int .i64 rn),.d (.int .i64 rd)]],[],[],_=>some ⟨(0≤n∧n≤1099511627776)∧(1≤rn∧rn≤65536)∧rd=1∧rtV rn rd=true,.tup [.int .i64 (n*rn),.int .i64 0,.int .i64 0],[],[]⟩
 | _,_,_,_=>none
def ZoD:=And.intro (@ZeH.eq_1) (@ZeH.eq_1)
theorem ZoE:Snd Tryz.prog 266 ZeH:=by
 intro vs b k n e h hn hp
 unfold ZeH at h
 split at h
 ·cases h; obtain ⟨hp0,hp1,hp2,hp3⟩:=hp; exact (ZqV _ _ _ hp0 hp1 hp2 hp3).lift rfl _
 ·cases h
theorem ZnC (n rn rd:Int) (hn:0≤n∧n≤1099511627776) (hr:1≤rn∧rn≤65536) (hd:rd=1) (hv:rtV rn rd=true):Spec Tryz.prog 0 265 [vI .i64 n,.agg [.d (.int .i64 rn),.d (.int .i64 rd)]] [] [] (.tup [.int .i64 (n*rn),.int .i64 0]) [] []:=by
 refine sE (md:=fun _=>0) (L:=[(266,ZeH)]) [] 379 (Za ZoE Zb) Tryz.func265 rfl rfl rfl ?_
 simp (maxSteps:=1000000) only [↓Zn,Ze,Zd,Zm,gSt,gS0,Ya,Yb,↓reduceIte,reduceCtorEq,Yc,Yd,Ye,Yf,Yg,Yj,Yk,Yl,Ym,Yn,ZoD,gE1,gE2,Tryz.ntmps265,Tryz.results265,gTT]
 exact ⟨hn,hr,hd,hv⟩
def ZdB:List V→Zf→Zr→Name→Option Ent
 | [.c (.d (.int .i64 n)),.agg [.d (.int .i64 rn),.d (.int .i64 rd)]],[],[],_=>some ⟨(0≤n∧n≤1099511627776)∧(1≤rn∧rn≤65536)∧rd=1∧rtV rn rd=true,.tup [.int .i64 (n*rn),.int .i64 0],[],[]⟩
 | _,_,_,_=>none
def ZmC:=And.intro (@ZdB.eq_1) (@ZdB.eq_1)
theorem ZmD:Snd Tryz.prog 265 ZdB:=by
 intro vs b k n e h hn hp
 unfold ZdB at h
 split at h
 ·cases h; obtain ⟨hp0,hp1,hp2,hp3⟩:=hp; exact (ZnC _ _ _ hp0 hp1 hp2 hp3).lift rfl _
 ·cases h
theorem ZqW (n rn rd:Int) (hn:0≤n∧n≤1099511627776) (hr:1≤rn∧rn≤65536) (hd:rd=1) (hv:rtV rn rd=true):Spec Tryz.prog 0 115 [vI .i64 n,.agg [.d (.int .i64 rn),.d (.int .i64 rd)]] [] [] (.tup [.int .i64 (n*rn),.int .i64 0]) [] []:=by
 refine sE (md:=fun _=>0) (L:=[(188,ZcD),(189,Zfb)]) [] 549890049019 (Za Zgw (Za Zi3 Zb)) Tryz.func115 rfl rfl rfl ?_
 simp (maxSteps:=1000000) only [↓Zn,Ze,Zd,Zm,gSt,gS0,Ya,Yb,↓reduceIte,reduceCtorEq,Yc,Yd,Ye,Yf,Yg,Yj,Yk,Yl,Ym,Yn,Zgv,Zi2,gE1,gE2,Tryz.ntmps115,Tryz.results115,gTT]
 have h3:0≤n*rn∧n*rn≤1099511627776*65536:=⟨Int.mul_nonneg hn.1 (by omega),Int.mul_le_mul hn.2 hr.2 (by omega) (by decide)⟩
 refine ⟨⟨hn,hv⟩,⟨hn,hr,hd⟩,fun h=>?_⟩
 simp only [Bool.or_eq_true,decide_eq_true_eq] at h
 omega
def ZdA:List V→Zf→Zr→Name→Option Ent
 | [.c (.d (.int .i64 n)),.agg [.d (.int .i64 rn),.d (.int .i64 rd)]],[],[],_=>some ⟨(0≤n∧n≤1099511627776)∧(1≤rn∧rn≤65536)∧rd=1∧rtV rn rd=true,.tup [.int .i64 (n*rn),.int .i64 0],[],[]⟩
 | _,_,_,_=>none
def Zh3:=And.intro (@ZdA.eq_1) (@ZdA.eq_1)
theorem Zh4:Snd Tryz.prog 115 ZdA:=by
 intro vs b k n e h hn hp
 unfold ZdA at h
 split at h
 ·cases h; obtain ⟨hp0,hp1,hp2,hp3⟩:=hp; exact (ZqW _ _ _ hp0 hp1 hp2 hp3).lift rfl _
 ·cases h
theorem ZtA (rn rd:Int) (hr:rn=1∧rd=1):Spec Tryz.prog 0 195 [.agg [.d (.int .i64 rn),.d (.int .i64 rd)]] [] [] (.tup [.agg [.int .i64 1,.int .i64 1],.int .i64 0]) [] []:=by
 refine sE (md:=fun _=>0) (L:=[(216,ZbS)]) [] 79 (Za Zcl Zb) Tryz.func195 rfl rfl rfl ?_
 obtain ⟨rfl,rfl⟩:=hr
 have hv:rtV 1 1=true:=by decide
 simp (maxSteps:=1000000) only [↓Zn,Ze,Zd,Zm,gSt,gS0,Ya,Yb,↓reduceIte,reduceCtorEq,Yc,Yd,Ye,Yf,Yg,Yj,Yk,Yl,Ym,Yn,Zck,gE1,gE2,hv,Tryz.ntmps195,Tryz.results195,gTT]
def Zgx:List V→Zf→Zr→Name→Option Ent
 | [.agg [.d (.int .i64 rn),.d (.int .i64 rd)]],[],[],_=>some ⟨(rn=1∧rd=1),.tup [.agg [.int .i64 1,.int .i64 1],.int .i64 0],[],[]⟩
 | _,_,_,_=>none
def Zr5:=And.intro (@Zgx.eq_1) (@Zgx.eq_1)
theorem Zr6:Snd Tryz.prog 195 Zgx:=by
 intro vs b k n e h hn hp
 unfold Zgx at h
 split at h
 ·cases h; have hp0:=hp; exact (ZtA _ _ hp0).lift rfl _
 ·cases h
theorem ZqX (n d:Int) (hn:n=48000∨n=768000) (hd:d=48000):Spec Tryz.prog 0 108 [vI .i64 n,vI .i64 d] [] [] (.tup [.agg [.int .i64 (n / 48000),.int .i64 1],.int .i64 0]) [] []:=by
 refine sE (md:=fun _=>0) (L:=[(177,ZrP)]) [] 268439667 (Za Zmx Zb) Tryz.func108 rfl rfl rfl ?_
 simp (maxSteps:=1000000) only [↓Zn,Ze,Zd,Zm,gSt,gS0,Ya,Yb,↓reduceIte,reduceCtorEq,Yc,Yd,Ye,Yf,Yg,Yj,Yk,Yl,Ym,Yn,Zmw,gE1,gE2,Tryz.ntmps108,Tryz.results108,gTT]
 subst hd
 rcases hn with rfl | rfl
 ·have e:Zeg 48000 48000=48000:=by decide
  rw [e]
  exact ⟨fun h=>absurd h (by decide),fun _=>⟨by decide,by kernel_rfl,by decide,by decide,fun h=>absurd h (by decide),fun _=>rfl⟩⟩
 ·have e:Zeg 768000 48000=48000:=by decide
  rw [e]
  exact ⟨fun h=>absurd h (by decide),fun _=>⟨by decide,by kernel_rfl,by decide,by decide,fun h=>absurd h (by decide),fun _=>rfl⟩⟩
def ZdC:List V→Zf→Zr→Name→Option Ent
 | [.c (.d (.int .i64 n)),.c (.d (.int .i64 d))],[],[],_=>some ⟨(n=48000∨n=768000)∧d=48000,.tup [.agg [.int .i64 (n / 48000),.int .i64 1],.int .i64 0],[],[]⟩
 | _,_,_,_=>none
def Zh5:=And.intro (@ZdC.eq_1) (@ZdC.eq_1)
theorem Zh6:Snd Tryz.prog 108 ZdC:=by
 intro vs b k n e h hn hp
 unfold ZdC at h
 split at h
 ·cases h; obtain ⟨hp0,hp1⟩:=hp; exact (ZqX _ _ hp0 hp1).lift rfl _
 ·cases h
def dacS:ByteArray:=⟨#[100,97,99]⟩
def spanL:List D:=[.agg [.int .i64 48000,.int .i64 48000]]
def ZLA (m:List Int):D:=.agg [.int .i64 4,.list spanL,.list (LL .i64 [m]),.list spanL]
def Zsr (m:List Int):List D:=[ZLA m]
def Zke (b:List D):Prop:=∃ m,b=Zsr m∧chV m=true
def Zru:List D:=[.agg [.int .i64 0,.int .i64 1,.int .i64 1]]
theorem Zyh (s:ByteArray) (hs:s=dacS):Spec Tryz.prog 0 178 [.c (.d (.str s))] [] [] (vB true) [] []:=by
 refine sE (md:=fun _=>0) (L:=[]) [(6,[0,0,0,0,0,577586652143159165,0,0,0,0,0,577586647915300733,0,0,0,0,0,577586377332361085,0,0,0,0,0,577569060024223613,0,0,0,0,0])] 576460752303425405 Zb Tryz.func178 rfl rfl rfl ?_
 subst hs
 simp (maxSteps:=1000000) only [↓Zn,Ze,Zd,Zm,gSt,gS0,Ya,Yb,↓reduceIte,reduceCtorEq,Yc,Yd,Ye,Yf,Yg,Yj,Yk,Yl,Ym,Yn,gE1,gE2,Tryz.ntmps178,Tryz.results178,gTT]
 refine ⟨Tryz.underlying9,?_⟩
 refine Zk (fun g:Nat=>⟨[(9,vI .i64 (g:Nat))],[],[]⟩) (fun g=>g≤3) (fun g=>3 - g) (·+1) 0 (by decide) ?_ ?_
 ·simp (maxSteps:=1000000) only [↓Zn,Ze,Zd,Zm,gSt,gS0,Ya,Yb,↓reduceIte,reduceCtorEq,Yc,Yd,Ye,Yf,Yg,Yj,Yk,Yl,Ym,Yn,gE1,gE2,Tryz.ntmps178,Tryz.results178,gTT]
  rfl
 intro g hg
 simp (maxSteps:=1000000) only [↓Zn,Ze,Zd,Zm,gSt,gS0,Ya,Yb,↓reduceIte,reduceCtorEq,Yc,Yd,Ye,Yf,Yg,Yj,Yk,Yl,Ym,Yn,gE1,gE2,Tryz.ntmps178,Tryz.results178,gTT]
 have U:=Tryz.underlying9
 have e3:dacS.size=3:=rfl
 have hL:g < 3→(decide (97≤IntKind.u8.wrap ((BitVec.ofInt IntKind.u8.bits ((dacS.toList[g]?.getD 0).toNat:Int) ||| BitVec.ofInt IntKind.u8.bits 32).toNat:Int)) && decide (IntKind.u8.wrap ((BitVec.ofInt IntKind.u8.bits ((dacS.toList[g]?.getD 0).toNat:Int) ||| BitVec.ofInt IntKind.u8.bits 32).toNat:Int)≤122))=true:=by
  intro h
  have et:dacS.toList=[100,97,99]:=by decide +kernel
  rw [et]
  rcases (by omega:g=0∨g=1∨g=2) with rfl | rfl | rfl <;> decide +kernel
 refine ⟨fun h=>?_,fun h=>⟨U,by decide +kernel⟩⟩
 have h3:g < 3:=by have:=of_decide_eq_true h; rw [e3] at this; omega
 have hr:0≤(g:Int)∧(g:Int) < (dacS.size:Nat):=by rw [e3]; omega
 rw [hL h3]
 refine ⟨U,hr,U,hr,U,fun _=>hr,U,fun _=>hr,U,fun _=>hr,U,fun _=>hr,fun h=>absurd h (by decide),fun h=>absurd h (by simp),fun _=>⟨?_,by omega,by omega⟩⟩
 rw [IntWalk.i64_in _ (by omega)]
 omega
def Zj4:List V→Zf→Zr→Name→Option Ent
 | [.c (.d (.str s))],[],[],_=>some ⟨s=dacS,vB true,[],[]⟩
 | _,_,_,_=>none
def ZwH:=And.intro (@Zj4.eq_1) (@Zj4.eq_1)
theorem ZwI:Snd Tryz.prog 178 Zj4:=by
 intro vs b k n e h hn hp
 unfold Zj4 at h
 split at h
 ·cases h; have hp0:=hp; exact (Zyh _ hp0).lift rfl _
 ·cases h
theorem Ztp (x y:Int):Spec Tryz.prog 0 262 [.agg [.d (.int .i64 x),.d (.int .i64 y)]] [] [] (vB (decide (0≤x) && decide (x≤y) && decide (y≤2147483647))) [] []:=by
 refine sE (md:=fun _=>0) (L:=[]) [(1,[0,0,0,0,0,261959,0,0,0,0,0,253959,0,0,0,0])] 7 Zb Tryz.func262 rfl rfl rfl ?_
 simp (maxSteps:=1000000) only [↓Zn,Ze,Zd,Zm,gSt,gS0,Ya,Yb,↓reduceIte,reduceCtorEq,Yc,Yd,Ye,Yf,Yg,Yj,Yk,Yl,Ym,Yn,gE1,gE2,Tryz.ntmps262,Tryz.results262,gTT]
def Zgl:List V→Zf→Zr→Name→Option Ent
 | [.agg [.d (.int .i64 x),.d (.int .i64 y)]],[],[],_=>some ⟨True,vB (decide (0≤x) && decide (x≤y) && decide (y≤2147483647)),[],[]⟩
 | _,_,_,_=>none
def ZdU:=And.intro (@Zgl.eq_1) (@Zgl.eq_1)
theorem ZrS:Snd Tryz.prog 262 Zgl:=by
 intro vs b k n e h hn hp
 unfold Zgl at h
 split at h
 ·cases h; exact (Ztp _ _).lift rfl _
 ·cases h
theorem ZqN (q:List D) (hq:q=spanL):Spec Tryz.prog 0 255 [.agg [.d (.list q)]] [] [] (vB true) [] []:=by
 refine sE (md:=fun _=>0) (L:=[(262,Zgl)]) [(4,[0,0,0,0,0,8589738975,0,0,0,0,0,8584233951,0,0,0,0,0,7516783583,0,0])] 4294968287 (Za ZrS Zb) Tryz.func255 rfl rfl rfl ?_
 subst hq
 unfold spanL
 have wm:(IntKind.i64.wrap (-1)).toNat=0:=by decide
 simp (maxSteps:=1000000) only [↓Zn,Ze,Zd,Zm,gSt,gS0,Ya,Yb,↓reduceIte,reduceCtorEq,Yc,Yd,Ye,Yf,Yg,Yj,Yk,Yl,Ym,Yn,ZdU,gE1,gE2,Int.natCast_zero,Int.natCast_one,Int.cast_ofNat_Int,Yo,wm,List.getElem?_nil,Tryz.ntmps255,Tryz.results255,gTT]
 refine Zk (fun g:Nat=>⟨[(8,vI .i64 (g:Nat))],[],[]⟩) (fun g=>g≤1) (fun g=>1 - g) (·+1) 0 (by decide) ?_ ?_
 ·simp (maxSteps:=1000000) only [↓Zn,Ze,Zd,Zm,gSt,gS0,Ya,Yb,↓reduceIte,reduceCtorEq,Yc,Yd,Ye,Yf,Yg,Yj,Yk,Yl,Ym,Yn,ZdU,gE1,gE2,Int.natCast_zero,Int.natCast_one,Int.cast_ofNat_Int,Yo,wm,List.getElem?_nil,Tryz.ntmps255,Tryz.results255,gTT]
  all_goals rfl
 intro g hg
 rcases (by omega:g=0∨g=1) with rfl | rfl
 ·simp (maxSteps:=1000000) only [↓Zn,Ze,Zd,Zm,gSt,gS0,Ya,Yb,↓reduceIte,reduceCtorEq,Yc,Yd,Ye,Yf,Yg,Yj,Yk,Yl,Ym,Yn,ZdU,gE1,gE2,Int.natCast_zero,Int.natCast_one,Int.cast_ofNat_Int,Yo,wm,List.getElem?_nil,Tryz.ntmps255,Tryz.results255,gTT]
  all_goals exact ⟨by kernel_rfl,by decide,by decide⟩
 ·simp (maxSteps:=1000000) only [↓Zn,Ze,Zd,Zm,gSt,gS0,Ya,Yb,↓reduceIte,reduceCtorEq,Yc,Yd,Ye,Yf,Yg,Yj,Yk,Yl,Ym,Yn,ZdU,gE1,gE2,Int.natCast_zero,Int.natCast_one,Int.cast_ofNat_Int,Yo,wm,List.getElem?_nil,Tryz.ntmps255,Tryz.results255,gTT]
def Zds:List V→Zf→Zr→Name→Option Ent
 | [.agg [.d (.list q)]],[],[],_=>some ⟨q=spanL,vB true,[],[]⟩
 | _,_,_,_=>none
def ZhW:=And.intro (@Zds.eq_1) (@Zds.eq_1)
theorem ZhX:Snd Tryz.prog 255 Zds:=by
 intro vs b k n e h hn hp
 unfold Zds at h
 split at h
 ·cases h; have hp0:=hp; exact (ZqN _ hp0).lift rfl _
 ·cases h
theorem ZqM (q:List D) (hq:q=spanL):Spec Tryz.prog 0 235 [.agg [.d (.list q)]] [] [] (vL q) [] []:=by
 refine sE (md:=fun _=>0) (L:=[(255,Zds)]) [] 39 (Za ZhX Zb) Tryz.func235 rfl rfl rfl ?_
 simp (maxSteps:=1000000) only [↓Zn,Ze,Zd,Zm,gSt,gS0,Ya,Yb,↓reduceIte,reduceCtorEq,Yc,Yd,Ye,Yf,Yg,Yj,Yk,Yl,Ym,Yn,ZhW,gE1,gE2,Tryz.ntmps235,Tryz.results235,gTT]
 exact hq
def ZeB:List V→Zf→Zr→Name→Option Ent
 | [.agg [.d (.list q)]],[],[],_=>some ⟨q=spanL,vL q,[],[]⟩
 | _,_,_,_=>none
def Zog:=And.intro (@ZeB.eq_1) (@ZeB.eq_1)
theorem Zoh:Snd Tryz.prog 235 ZeB:=by
 intro vs b k n e h hn hp
 unfold ZeB at h
 split at h
 ·cases h; have hp0:=hp; exact (ZqM _ hp0).lift rfl _
 ·cases h
theorem Ztq (x y z:Int):Spec Tryz.prog 0 236 [.agg [.d (.int .i64 x),.d (.int .i64 y)],.c (.lp ⟨0,0⟩ 0)] [(⟨0,0⟩,[.d (.int .i64 z)])] [] (vB (decide (x≤z) && decide (z≤y))) [(⟨0,0⟩,[.d (.int .i64 z)])] []:=by
 refine spec_of_E (X:=⟨Tryz.prog,tt,Tryz.f236.ntmps,1,fun _=>0,(tab [])⟩) (M:=[]) (m:=15) rfl rfl ⟨Z7,ZI Zb _ rfl rfl⟩ Zs Tryz.func236 rfl (by decide) (by show (2:Nat)≤_; exact Nat.le_of_ble_eq_true rfl) ⟨by simp [V.has,C.has,Zz],by simp [C.has],by simp⟩ ?_
 simp (maxSteps:=1000000) only [↓Zn,Ze,Zd,Zm,gSt,gS0,Ya,Yb,↓reduceIte,reduceCtorEq,Yc,Yd,Ye,Yf,Yg,Yj,Yk,Yl,Ym,Yn,gE1,gE2,Tryz.ntmps236,Tryz.results236,gTT]
def Zgm:List V→Zf→Zr→Name→Option Ent
 | [.agg [.d (.int .i64 x),.d (.int .i64 y)],.c (.lp n0 0)],[(m0,[.d (.int .i64 z)])],[],_=>some ⟨n0.lv≤1∧m0=n0,vB (decide (x≤z) && decide (z≤y)),[(n0,[.d (.int .i64 z)])],[]⟩
 | _,_,_,_=>none
def ZfG:=And.intro (@Zgm.eq_1) (@Zgm.eq_1)
theorem ZrT:Snd Tryz.prog 236 Zgm:=by
 intro vs b k n e h hn hp
 unfold Zgm at h
 split at h
 ·cases h; obtain ⟨hl0,rfl⟩:=hp; exact Spec.ren1 (Ztq _ _ _) 0 (by simp [Za9,V.names,C.names,ZJ,ZK,Zz]) hl0
 ·cases h
end Go.Vam
