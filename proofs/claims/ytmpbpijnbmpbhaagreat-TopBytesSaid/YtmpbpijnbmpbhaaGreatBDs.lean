/- A part of the proof. Conditions: none. -/
import Derived.Test.YtmpbpijnbmpbhaaGreatBDq
set_option linter.unusedVariables false
set_option linter.defProp false
set_option linter.unusedSimpArgs false
set_option maxRecDepth 40000
set_option maxHeartbeats 4000000
namespace Go.Vam
open Go.Proofs
open Nat renaming reduceShiftRight→Ya,reduceMod→Yb,reduceEqDiff→Yc,reduceLT→Yd,reduceLeDiff→Ye,reduceAdd→Yf,reduceMul→Yg,reduceSub→Yh,reduceDiv→Yi
open Int renaming reduceLE→Yj,reduceLT→Yk,reduceNeg→Yl,reduceAdd→Ym,reduceToNat→Yn,reduceSub→Yo,reduceMul→Yp
theorem Zxq :Spec Tryz.prog 0 6 [] [] [] (vB true) [] []:=by
 refine sE (md:=fun s=>if s=31 then 2 else 0) (L:=[(9,Zff),(42,Zn1),(13,Ze7),(37,Zfc)]) [(9,[0,0,0,0,0,38685939101381905971444215,0,0,0,0,0,38685939097247742251006455,0,0,0,0,0,38685939083728147275872759,0,0,0]),(1000005,[7001])] 38685938957627357709498871 (Za Zjp (Za Zyu (Za ZiS (Za Zi5 Zb)))) Tryz.func6 rfl rfl rfl ?_
 obtain ⟨a1,a2,a3,a4,a5,a6,a7⟩:=ZFK
 have hE:cnE ⟨1,8000,[3]⟩ ⟨1,8000,[3]⟩=0:=by decide +kernel
 have hY:(List.replicate 16 (0:Int)).set 0 5=5::List.replicate 15 0:=rfl
 have hR:bnR 1 1 1 ⟨29,4,16,0⟩ 37 13=⟨37,⟨29,4,16,0⟩,⟨1,⟨1,1,0,0,0⟩,List.replicate 13 0⟩,0,0⟩:=(Zpm (m:=[3]) (by decide)).2
 have hw:IntKind.i64.wrap (IntKind.i64.wrap 0+16) - IntKind.i64.wrap 0=16:=by decide
 have hN:biN (bnR 1 1 1 ⟨29,4,16,0⟩ 37 13)=13:=by unfold biN; rw [if_pos a5,a7]
 simp (maxSteps:=1000000) only [↓Zn,Ze,Zd,Zm,gSt,gS0,Ya,Yb,↓reduceIte,reduceCtorEq,Yc,Yd,Ye,Yf,Yg,Yj,Yk,Yl,Ym,Yn,Zaf,Zga,Zac,Zae,gE1,gE2,gE3,Yh,Yi,ZaU,ZaV,exists_eq_left',Int.natCast_zero,Int.natCast_one,Int.cast_ofNat_Int,Yo,Yp,Tryz.ntmps6,Tryz.results6,gTT]
 refine ⟨by decide,a6,by decide,by decide,?_⟩
 simp only [hE,hY,hN]
 refine Zem 2 ?_
 simp (maxSteps:=1000000) only [↓Zn,Ze,Zd,Zm,gSt,gS0,Ya,Yb,↓reduceIte,reduceCtorEq,Yc,Yd,Ye,Yf,Yg,Yj,Yk,Yl,Ym,Yn,Zaf,Zga,Zac,Zae,gE1,gE2,gE3,Yh,Yi,ZaU,ZaV,exists_eq_left',Int.natCast_zero,Int.natCast_one,Int.cast_ofNat_Int,Yo,Yp,Tryz.ntmps6,Tryz.results6,gTT]
 simp only [hw,a3]
 refine ⟨⟨⟨rfl,.inl rfl,rfl,rfl,rfl,rfl⟩,⟨rfl,by decide,rfl,rfl,rfl,rfl,rfl,rfl⟩,a5,a6,⟨by rw [hR],by rw [hR],by rw [hR]⟩,by decide,⟨by rw [hR],by decide +kernel,by decide⟩,a1,a2,a4⟩,?_⟩
 refine Zk (fun g:Nat=>⟨[(62,vI .i64 (g:Nat))],[],[]⟩) (fun g=>g≤13) (fun g=>13 - g) (·+1) 0 (by decide) ?_ ?_
 ·simp (maxSteps:=1000000) only [↓Zn,Ze,Zd,Zm,gSt,gS0,Ya,Yb,↓reduceIte,reduceCtorEq,Yc,Yd,Ye,Yf,Yg,Yj,Yk,Yl,Ym,Yn,Zaf,Zga,Zac,Zae,gE1,gE2,gE3,Yh,Yi,ZaU,ZaV,exists_eq_left',Int.natCast_zero,Int.natCast_one,Int.cast_ofNat_Int,Yo,Yp,Tryz.ntmps6,Tryz.results6,gTT]
 intro g hg
 simp (maxSteps:=1000000) only [↓Zn,Ze,Zd,Zm,gSt,gS0,Ya,Yb,↓reduceIte,reduceCtorEq,Yc,Yd,Ye,Yf,Yg,Yj,Yk,Yl,Ym,Yn,Zaf,Zga,Zac,Zae,gE1,gE2,gE3,Yh,Yi,ZaU,ZaV,exists_eq_left',Int.natCast_zero,Int.natCast_one,Int.cast_ofNat_Int,Yo,Yp,Tryz.ntmps6,Tryz.results6,gTT]
 have hL:((List.replicate 13 (0:Int)++[5,0,0]).length:Int)=16:=rfl
 have hK:∀ z:Nat,z≤13→(((List.replicate 13 (0:Int)++[5,0,0])[z]?.getD 0==5)=decide (z=13)):=by decide
 rw [hK g hg,hL]
 refine ⟨fun h1=>⟨⟨by omega,by omega⟩,fun h2=>?_,fun h2=>?_⟩,fun h1=>?_⟩
 ·have:=of_decide_eq_true h2
  subst this
  decide
 ·have:=of_decide_eq_false h2
  exact ⟨(ZY _ (by omega)).symm,by omega,by omega⟩
 ·have:=of_decide_eq_false h1
  omega
def ZiR:List V→Zf→Zr→Name→Option Ent
 | [],[],[],_=>some ⟨True,vB true,[],[]⟩
 | _,_,_,_=>none
def Zbr:=And.intro (@ZiR.eq_1) (@ZiR.eq_1)
theorem ZvO:Snd Tryz.prog 6 ZiR:=by
 intro vs b k n e h hn hp
 unfold ZiR at h
 split at h
 ·cases h; exact (Zxq).lift rfl _
 ·cases h
theorem Zs4 (k:Int) (y:List Int) (c:Int) (l:List Int) (hb:ZaL k y=true) (hc:k=c) (hl:l.length≤1000000) (hy:y.length≤1000000) (ht:y=l.take y.length) (hv:ZaL c l=true):Spec Tryz.prog 0 19 [.agg [.d (.int .i64 k),.d (.list (LI .i32 y))],.agg [.d (.int .i64 c),.d (.list (LI .i32 l))]] [] [] (vB true) [] []:=by
 refine sE (md:=fun _=>0) (L:=[(20,ZdT),(30,Zbh),(67,ZvV),(24,ZoV)]) [(2,[0,0,0,0,0,8383551,0,0,0,0,0,8323135,0,0,0,0])] 63 (Za ZfF (Za Zbw (Za Zt4 (Za Zy7 Zb)))) Tryz.func19 rfl rfl rfl ?_
 simp (maxSteps:=1000000) only [↓Zn,Ze,Zd,Zm,gSt,gS0,Ya,Yb,↓reduceIte,reduceCtorEq,Yc,Yd,Ye,Yf,Yg,Yj,Yk,Yl,Ym,Yn,ZZ,ZB,Zfa,Zy6,gE1,gE2,gE3,Tryz.ntmps19,Tryz.results19,gTT]
 have q1:=ZW hb hy
 have q2:=ZW hv hl
 subst hc
 have hle:y.length≤l.length:=by rw [ht,List.length_take]; exact Nat.min_le_right _ _
 have hdv:=Nat.div_le_div_right (c:=k.toNat) hle
 rw [hb,hv,if_pos rfl,if_pos rfl,Int.toNat_natCast,← q1.2.1]
 refine ⟨hy,by kernel_rfl,hy,fun _=>hl,fun _=>⟨hl,q1.1,Int.natCast_nonneg _,by omega⟩,fun _=>by omega,?_⟩
 have hct:Zc7 k l 0 (y.length / k.toNat)=y:=by
  unfold Zc7
  rw [Nat.zero_mul,List.drop_zero,Nat.sub_zero,← q1.2.1,← ht]
 have hd2:((y.length / k.toNat:Nat):Int)≤((l.length / k.toNat:Nat):Int):=Int.ofNat_le.2 hdv
 rw [hct,decide_eq_true hd2]
 simp
def Zf5:List V→Zf→Zr→Name→Option Ent
 | [.agg [.d (.int .i64 k),.d (.list q_y)],.agg [.d (.int .i64 c),.d (.list q_l)]],[],[],_=>some ⟨ZaL k (Zc q_y)=true∧k=c∧(Zc q_l).length≤1000000∧(Zc q_y).length≤1000000∧(Zc q_y)=(Zc q_l).take (Zc q_y).length∧ZaL c (Zc q_l)=true∧q_y=LI .i32 (Zc q_y)∧q_l=LI .i32 (Zc q_l),vB true,[],[]⟩
 | _,_,_,_=>none
def ZaW:=And.intro (@Zf5.eq_1) (@Zf5.eq_1)
theorem Zrv:Snd Tryz.prog 19 Zf5:=by
 intro vs b k n e h hn hp
 unfold Zf5 at h
 split at h
 ·cases h; obtain ⟨hp0,hp1,hp2,hp3,hp4,hp5,hq0,hq1⟩:=hp; obtain ⟨_,rfl⟩:=Zq hq0; obtain ⟨_,rfl⟩:=Zq hq1; simp only [Zi,Zo,Zj,Zp] at hp0 hp1 hp2 hp3 hp4 hp5 ⊢; exact (Zs4 _ _ _ _ hp0 hp1 hp2 hp3 hp4 hp5).lift rfl _
 ·cases h
end Go.Vam
