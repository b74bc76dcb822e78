/- A part of the proof. Conditions: none. -/
import Derived.Test.YtmpbpijnbmpbhaaGreatSDq
set_option linter.unusedVariables false
set_option linter.defProp false
set_option linter.unusedSimpArgs false
set_option maxRecDepth 40000
set_option maxHeartbeats 4000000
namespace Go.Vam
open Go.Proofs
open Nat renaming reduceShiftRight→Ya,reduceMod→Yb,reduceEqDiff→Yc,reduceLT→Yd,reduceLeDiff→Ye,reduceAdd→Yf,reduceMul→Yg,reduceSub→Yh,reduceDiv→Yi
open Int renaming reduceLE→Yj,reduceLT→Yk,reduceNeg→Yl,reduceAdd→Ym,reduceToNat→Yn,reduceSub→Yo,reduceMul→Yp
theorem Zwl :Spec Tryz.prog 0 6 [] [] [] (vB true) [] []:=by
 refine sE (md:=fun s=>if s=31 then 2 else 0) (L:=[(9,ZdJ),(42,ZnD),(13,Zf4),(37,ZdH)]) [(9,[0,0,0,0,0,38685939101381905971444215,0,0,0,0,0,38685939097247742251006455,0,0,0,0,0,38685939083728147275872759,0,0,0]),(1000005,[7001])] 38685938957627357709498871 (Za ZfD (Za Zxu (Za ZqS (Za ZfB Zb)))) Tryz.func6 rfl rfl rfl ?_
 obtain ⟨a1,a2,a3,a4,a5,a6,a7⟩:=ZEx
 have hE:cnE ⟨1,8000,[3]⟩ ⟨1,8000,[3]⟩=0:=by decide +kernel
 have hY:(List.replicate 16 (0:Int)).set 0 5=5::List.replicate 15 0:=rfl
 have hR:bnR 1 1 1 ⟨29,4,16,0⟩ 37 13=⟨37,⟨29,4,16,0⟩,⟨1,⟨1,1,0,0,0⟩,List.replicate 13 0⟩,0,0⟩:=(ZoR (m:=[3]) (by decide)).2
 have hw:IntKind.i64.wrap (IntKind.i64.wrap 0+16) - IntKind.i64.wrap 0=16:=by decide
 have hN:biN (bnR 1 1 1 ⟨29,4,16,0⟩ 37 13)=13:=by unfold biN; rw [if_pos a5,a7]
 simp (maxSteps:=1000000) only [↓Zo,Ze,Zd,Zn,gSt,gS0,Ya,Yb,↓reduceIte,reduceCtorEq,Yc,Yd,Ye,Yf,Yg,Yj,Yk,Yl,Ym,Yn,Z2,Zf9,ZdB,Z1,gE1,gE2,gE3,Yh,Yi,ZaT,ZaU,exists_eq_left',Int.natCast_zero,Int.natCast_one,Int.cast_ofNat_Int,Yo,Yp,Tryz.ntmps6,Tryz.results6,gTT]
 refine ⟨by decide,a6,by decide,by decide,?_⟩
 simp only [hE,hY,hN]
 refine Zeb 2 ?_
 simp (maxSteps:=1000000) only [↓Zo,Ze,Zd,Zn,gSt,gS0,Ya,Yb,↓reduceIte,reduceCtorEq,Yc,Yd,Ye,Yf,Yg,Yj,Yk,Yl,Ym,Yn,Z2,Zf9,ZdB,Z1,gE1,gE2,gE3,Yh,Yi,ZaT,ZaU,exists_eq_left',Int.natCast_zero,Int.natCast_one,Int.cast_ofNat_Int,Yo,Yp,Tryz.ntmps6,Tryz.results6,gTT]
 simp only [hw,a3]
 refine ⟨⟨⟨rfl,.inl rfl,rfl,rfl,rfl,rfl⟩,⟨rfl,by decide,rfl,rfl,rfl,rfl,rfl,rfl⟩,a5,a6,⟨by rw [hR],by rw [hR],by rw [hR]⟩,by decide,⟨by rw [hR],by decide +kernel,by decide⟩,a1,a2,a4⟩,?_⟩
 refine Zl (fun g:Nat=>⟨[(62,vI .i64 (g:Nat))],[],[]⟩) (fun g=>g≤13) (fun g=>13 - g) (·+1) 0 (by decide) ?_ ?_
 ·simp (maxSteps:=1000000) only [↓Zo,Ze,Zd,Zn,gSt,gS0,Ya,Yb,↓reduceIte,reduceCtorEq,Yc,Yd,Ye,Yf,Yg,Yj,Yk,Yl,Ym,Yn,Z2,Zf9,ZdB,Z1,gE1,gE2,gE3,Yh,Yi,ZaT,ZaU,exists_eq_left',Int.natCast_zero,Int.natCast_one,Int.cast_ofNat_Int,Yo,Yp,Tryz.ntmps6,Tryz.results6,gTT]
 intro g hg
 simp (maxSteps:=1000000) only [↓Zo,Ze,Zd,Zn,gSt,gS0,Ya,Yb,↓reduceIte,reduceCtorEq,Yc,Yd,Ye,Yf,Yg,Yj,Yk,Yl,Ym,Yn,Z2,Zf9,ZdB,Z1,gE1,gE2,gE3,Yh,Yi,ZaT,ZaU,exists_eq_left',Int.natCast_zero,Int.natCast_one,Int.cast_ofNat_Int,Yo,Yp,Tryz.ntmps6,Tryz.results6,gTT]
 have hL:((List.replicate 13 (0:Int)++[5,0,0]).length:Int)=16:=rfl
 have hK:∀ z:Nat,z≤13→(((List.replicate 13 (0:Int)++[5,0,0])[z]?.getD 0==5)=decide (z=13)):=by decide
 rw [hK g hg,hL]
 refine ⟨fun h1=>⟨⟨by omega,by omega⟩,fun h2=>?_,fun h2=>?_⟩,fun h1=>?_⟩
 ·have:=of_decide_eq_true h2
  subst this
  decide
 ·have:=of_decide_eq_false h2
  exact ⟨(Zaz _ (by omega)).symm,by omega,by omega⟩
 ·have:=of_decide_eq_false h1
  omega
def ZiL:List V→Zf→Zw→Name→Option Ent
 | [],[],[],_=>some ⟨True,vB true,[],[]⟩
 | _,_,_,_=>none
def Ze6:=And.intro (@ZiL.eq_1) (@ZiL.eq_1)
theorem ZuU:Snd Tryz.prog 6 ZiL:=by
 intro vs b k n e h hn hp
 unfold ZiL at h
 split at h
 ·cases h; exact (Zwl).lift rfl _
 ·cases h
end Go.Vam
