/- A part of the proof. Conditions: none. -/
import Derived.Test.YtmpbpijnbmpbhaaGreatBDf
import Derived.Test.YtmpbpijnbmpbhaaGreatBVm
import Derived.RangeFuncNested
import Derived.RangeFuncBound
import Derived.RangeFuncCalls
import Derived.RangeFuncLeaves
import Derived.Shelf.Abstract
import Derived.Shelf.RegionOpen
import Derived.WalkKit
import Derived.OwnWalkIn
import Derived.TacticsInMore
import Derived.LoopNIn
import Derived.LoopIn
set_option linter.unusedVariables false
set_option linter.defProp false
set_option linter.unusedSimpArgs false
set_option maxRecDepth 40000
set_option maxHeartbeats 4000000
namespace Go.Vam
open Go.Proofs
open Nat renaming reduceShiftRight→Ya,reduceMod→Yb,reduceEqDiff→Yc,reduceLT→Yd,reduceLeDiff→Ye,reduceAdd→Yf,reduceMul→Yg,reduceSub→Yh
open Int renaming reduceLE→Yj,reduceLT→Yk,reduceNeg→Yl,reduceAdd→Ym,reduceToNat→Yn
theorem Zxs (fr rn rd un be t:Int) (hf:fr=0∧rn=1∧rd=1∧be=0) (ht:0≤t∧t≤1099511627776):Spec Tryz.prog 0 260 [.agg [.d (.int .i64 fr),.d (.int .i64 rn),.d (.int .i64 rd),.d (.int .i64 un),.d (.int .i64 be)],vI .i64 t] [] [] (vI .i64 t) [] []:=by
 refine sE (md:=fun _=>0) (L:=[(265,ZdB)]) [(1,[0,0,0,0,0,520375,0,0,0,0,0,393271,0,0])] 55 (Za ZmD Zb) Tryz.func260 rfl rfl rfl ?_
 obtain ⟨rfl,rfl,rfl,rfl⟩:=hf
 simp (maxSteps:=1000000) only [↓Zn,Ze,Zd,Zm,gSt,gS0,Ya,Yb,↓reduceIte,reduceCtorEq,Yc,Yd,Ye,Yf,Yg,Yj,Yk,Yl,Ym,Yn,ZmC,gE1,gE2,Tryz.ntmps260,Tryz.results260,gTT]
 rw [IntWalk.i64_in (t - 0) (by omega),IntWalk.i64_in _ (by omega)]
 exact ⟨⟨by omega,by decide⟩,by omega⟩
open Go.RowKit Go.Shelf
attribute [local go_sem] Oper.semAt_some
theorem ZhB {P:Program} {f:FuncId} {fn:Func} {c:Code} {args:List V} {k:IntKind} {n:Int} (h:Spec P 0 f args [] [] (vI k n) [] [])
  (hf:P.funcs[f]?=some fn) (hb:fn.body=some c) (hname:(fn.name == "runtime.NumGoroutine")=false) {w:World} {us:Array Value} (hus:RVs (fun x _=>x < w.heap.size) ℓ0 w us args) :
  Calls P f us w fun e w'=>e=.returned (.int k n)∧Below w.heap.size w w':=by
 have hc:=h.2 w (fun x _=>x < w.heap.size) ℓ0 us (Zp4 (fun _ _ h=>h)) hus
 have henter:(callFunc f us).run P w=.ok (.enter f us) w:=by
  simp only [beq_eq_false_iff_ne,ne_eq] at hname
  simp [callFunc,hf,hname,hb]
 rcases hc with ⟨_,h2⟩ | ⟨v,w',h1,_⟩
 ·refine h2.mono ?_
  rintro e w' ⟨u,ok',ℓ',rfl,hp⟩
  have hv:=hp.val
  simp only [RV,RC] at hv
  refine ⟨by rw [hv.1.int_inv],?_⟩
  have hx:=hp.ext
  refine ⟨hx.os,hx.tape,hx.output,hx.size,fun i hi=>hx.block i hi ?_⟩
  rintro ⟨n,hn⟩
  rcases hn with ⟨h,_⟩ | ⟨_,h,_⟩ | ⟨_,h,_⟩ <;> simp [lk] at h
 ·rw [henter] at h1; cases h1
theorem ZuD (u t:Int) (ht:0≤t∧t≤1099511627776) (w:World) :
  Calls Tryz.prog 260 #[.agg #[.int .i64 0,.int .i64 1,.int .i64 1,.int .i64 u,.int .i64 0],.int .i64 t] w fun e w'=>e=.returned (.int .i64 t)∧Below w.heap.size w w':=by
 refine ZhB (Zxs 0 1 1 u 0 t ⟨rfl,rfl,rfl,rfl⟩ ht) Tryz.func260 rfl (by decide) ?_
 refine rvs_cons ⟨_,rfl,rfl,fun i x c hx hc=>?_⟩ (rvs_cons rv_int rvs_nil)
 match i with
 | 0=>cases hx; cases hc; exact ⟨.int _ _,rfl⟩
 | 1=>cases hx; cases hc; exact ⟨.int _ _,rfl⟩
 | 2=>cases hx; cases hc; exact ⟨.int _ _,rfl⟩
 | 3=>cases hx; cases hc; exact ⟨.int _ _,rfl⟩
 | 4=>cases hx; cases hc; exact ⟨.int _ _,rfl⟩
 | i+5=>simp at hx
def pcV:Value:=.agg #[.int .i64 0,.int .i64 1,.int .i64 1,.int .i64 1099511627776,.int .i64 0]
def KpB (B n₀:Nat) (W W':World):Prop:=Below n₀ W W'∧∀ k o,k≠B→W.heap[k]?=some o→o.isCells=true→W'.heap[k]?=some o
theorem ZBd (n:Nat) (hn:1≤n) (l Bs B n₀ b off cap:Nat) (hb:b < n₀) (J Jx:List Unit→World→Prop)
  (hY:∀ pre x W,J pre W→pre.length < 1→YieldAt Fence.wide (n - 1) Tryz.prog l #[pcV] W fun e W' =>
   (e=.returned (.bool true)∧J (pre++[x]) W'∧KpB B n₀ W W')∨(e=.returned (.bool false)∧Jx (pre++[x]) W'))
  (W:World) (hBl:B < W.heap.size) (hBs:W.cell? ⟨Bs,0,none⟩=some (.slice (some ⟨b,off,none⟩) 1 cap))
  (h1:W.cell? ⟨b,off,none⟩=some (.int .i64 0)) (h2:W.cell? ⟨b,off+1,none⟩=some (.int .i64 1)) (h3:W.cell? ⟨b,off+1+1,none⟩=some (.int .i64 1))
  (hJ:AbidesFrom W.heap.size J) (h0:J [] W) :
  CallsIn Fence.wide n Tryz.prog 264 #[.func (.yield l) #[] #[],.pointer (some ⟨Bs,0,none⟩)] W fun e W'=>(∃ v,e=.returned v)∧
   ((∃ ys,ys=[()]∧J ys W')∨(∃ pre,pre <+: [()]∧Jx pre W')):=by
 refine callsIn_of_wp Tryz.func264 rfl trivial ?_ rfl
 simp only [Tryz.ntmps264,List.size_toArray,List.length_cons,List.length_nil,Yf,Yh,Array.replicate_succ,Array.replicate_zero,List.push_toArray,List.append_toArray,List.nil_append,List.cons_append]
 gi_wp2
 gi_loopw [3,10] (fun be i wr=>(be=.int .i64 0∧i=.int .i64 0∧wr=W)∨(∃ y,be=.int .i64 y∧i=.int .i64 1∧J [()] wr)) (fun _ i _=>1 - (intOf i).toNat)
 case atStart=>exact .inl ⟨rfl,rfl,rfl⟩
 case round =>
  rcases hrel with ⟨rfl,rfl,rfl⟩ | ⟨y,rfl,rfl,hJs⟩
  ·have hW2:J [] ((wr.alloc (Obj.cells #[Value.int .i64 0,Value.int .i64 1,Value.int .i64 1] 211)).alloc (Obj.cells #[Value.int .i64 0,Value.int .i64 1,Value.int .i64 1,Value.int .i64 1099511627776,Value.int .i64 0] 304)) :=
    hJ _ _ _ none (hJ _ _ _ none h0 (World.grownBy_alloc wr _ none) (by simp)) (World.grownBy_alloc _ _ none) (by simp)
   have hBs2:((wr.alloc (Obj.cells #[Value.int .i64 0,Value.int .i64 1,Value.int .i64 1] 211)).alloc (Obj.cells #[Value.int .i64 0,Value.int .i64 1,Value.int .i64 1,Value.int .i64 1099511627776,Value.int .i64 0] 304)).cell? ⟨Bs,0,none⟩=some (.slice (some ⟨b,off,none⟩) 1 cap):=Go.Lib.cell?_alloc_some _ (Go.Lib.cell?_alloc_some _ hBs)
   obtain ⟨fn,tmps,assign,body,hy,hR⟩:=hY [] () _ hW2 (by simp)
   dsimp only [pcV] at hy
   gi_wp2
   refine hR.mono ?_
   rintro e W3 (⟨rfl,hJ3,hk3,hkc⟩ | ⟨rfl,hJx3⟩)
   ·have hp:=hkc (wr.heap.size+1) (Obj.cells #[Value.int .i64 0,Value.int .i64 1,Value.int .i64 1,Value.int .i64 1099511627776,Value.int .i64 0] 304) (by omega) (by have:=World.alloc_heap_new (wr.alloc (Obj.cells #[Value.int .i64 0,Value.int .i64 1,Value.int .i64 1] 211)) (Obj.cells #[Value.int .i64 0,Value.int .i64 1,Value.int .i64 1,Value.int .i64 1099511627776,Value.int .i64 0] 304); rwa [World.size_alloc] at this) rfl
    have c0:W3.cell? ⟨wr.heap.size+1,0,none⟩=some (.int .i64 0):=by simp [World.cell?,hp]
    have c1:W3.cell? ⟨wr.heap.size+1,1,none⟩=some (.int .i64 1):=by simp [World.cell?,hp]
    have c2:W3.cell? ⟨wr.heap.size+1,2,none⟩=some (.int .i64 1):=by simp [World.cell?,hp]
    have c3:W3.cell? ⟨wr.heap.size+1,3,none⟩=some (.int .i64 1099511627776):=by simp [World.cell?,hp]
    have c4:W3.cell? ⟨wr.heap.size+1,4,none⟩=some (.int .i64 0):=by simp [World.cell?,hp]
    gi_wp2
    refine ⟨trivial,(callsIn_wide.2 (ZuD 1099511627776 1099511627776 (by decide) W3)).mono ?_⟩
    rintro e w' ⟨rfl,hb'⟩
    have hJ4:J [()] w':=hJ _ _ _ none hJ3 ⟨hb'.os,hb'.tape,hb'.output,hb'.size,fun k hk _=>hb'.block k hk⟩ (by simp)
    gi_wp2
    go_roundw
    case rel=>exact .inr ⟨_,rfl,by simp,hJ4⟩
    case measure=>simp [intOf]
   ·gi_wp2
    refine bodyPost_ret (results_none rfl _ _ _) rfl ?_
    exact ⟨⟨_,rfl⟩,.inr ⟨_,⟨[],rfl⟩,hJx3⟩⟩
  ·gi_wp2
   go_end0
   exact ⟨⟨_,rfl⟩,.inl ⟨_,rfl,hJs⟩⟩
theorem ZLQ {B n₀:Nat} {X Y Z:World} (h:KpB B n₀ X Y) (k:KpB B n₀ Y Z):KpB B n₀ X Z :=
 ⟨h.1.trans k.1,fun i o hi ho hc=>k.2 i o hi (h.2 i o hi ho hc) hc⟩
theorem ZLP {B n₀:Nat} {w:World} (hw:n₀≤w.heap.size) (W:World) (l:Nat) (o o':Obj) (h1:w.heap.size≤l) (h2:W.heap[l]?=some o) (h3:o.isCells=false) (h4:o.isWalk=false):KpB B n₀ W (W.putObj l o') :=
 ⟨belowK_b hw W l o o' h1 h2 h3 h4,fun i q hi hq hc=>by
  have hne:l≠i:=fun e=>by subst e; rw [h2] at hq; cases hq; rw [h3] at hc; cases hc
  exact (World.putObj_heap_other (Ne.symm hne)).trans hq⟩
theorem ZGh (B:Nat) (o:Obj) (ho:o.isCells=true):Own (fun (_:Unit) W=>W.heap[B]?=some o):=fun s X Y row hs hg hrow=>by
 refine (hg.block B (Array.getElem?_eq_some_iff.1 hs).1 (fun e=>?_)).trans hs
 obtain ⟨q,hq,hc⟩:=hrow B e.symm
 rw [hs] at hq
 cases hq
 rw [ho] at hc
 cases hc
theorem Zqb (n:Nat) (hn:1≤n) (Bs B n₀ b off cap:Nat) (hb:b < n₀) (w:World) (hBl:B < w.heap.size) (hBsl:Bs < w.heap.size) (hbl:b < w.heap.size) (hBs:w.cell? ⟨Bs,0,none⟩=some (.slice (some ⟨b,off,none⟩) 1 cap))
  (h1:w.cell? ⟨b,off,none⟩=some (.int .i64 0)) (h2:w.cell? ⟨b,off+1,none⟩=some (.int .i64 1)) (h3:w.cell? ⟨b,off+1+1,none⟩=some (.int .i64 1)) :
  SeqStopsK Fence.wide n Tryz.prog 264 #[.pointer (some ⟨Bs,0,none⟩)] (fun _:Unit=>#[pcV]) (KpB B n₀) (fun ys=>ys=[()]) (fun pre=>pre <+: [()]) 1 w:=fun l J Jx W hW hJ hJx hY h0 =>
 ZBd n hn l Bs B n₀ b off cap hb J Jx hY W (Nat.lt_of_lt_of_le hBl hW.size) ((hW.cell (p:=⟨Bs,0,none⟩) hBsl).trans hBs) ((hW.cell (p:=⟨b,off,none⟩) hbl).trans h1) ((hW.cell (p:=⟨b,off+1,none⟩) hbl).trans h2) ((hW.cell (p:=⟨b,off+1+1,none⟩) hbl).trans h3) hJ h0
theorem Zqa (n:Nat) (a:Option Addr) (len cap:Nat) (w:World) :
  CallsIn Fence.wide n Tryz.prog 259 #[.agg #[.slice a len cap]] w fun e w'=>e=.returned (.func (.func 264) #[] #[.pointer (some ⟨w.heap.size,0,none⟩)])∧w'=w.alloc (.cells #[.slice a len cap] 38):=by
 refine callsIn_of_wp Tryz.func259 rfl trivial ?_ rfl
 simp only [Tryz.ntmps259,List.size_toArray,List.length_cons,List.length_nil,Yf,Yh,Array.replicate_succ,Array.replicate_zero,List.push_toArray,List.append_toArray,List.nil_append,List.cons_append]
 gi_wp2
 go_ret
 exact ⟨rfl,rfl⟩
theorem Zlg (b off cap:Nat) (t:Int) (ht:0≤t∧t≤1099511627776) (w:World) (hbl:b < w.heap.size)
  (h1:w.cell? ⟨b,off,none⟩=some (.int .i64 0)) (h2:w.cell? ⟨b,off+1,none⟩=some (.int .i64 1)) (h3:w.cell? ⟨b,off+1+1,none⟩=some (.int .i64 1)) :
  Calls Tryz.prog 244 #[.agg #[.slice (some ⟨b,off,none⟩) 1 cap],.int .i64 t] w fun e w'=>e=.returned (.int .i64 t)∧Below w.heap.size w w':=by
 refine (callsIn_wide (n:=6)).1 ?_
 refine callsIn_of_wp_marks Tryz.func244 rfl trivial ?_ rfl
 simp only [Tryz.ntmps244,List.size_toArray,List.length_cons,List.length_nil,Yf,Yh,Array.replicate_succ,Array.replicate_zero,List.push_toArray,List.append_toArray,List.nil_append,List.cons_append]
 gi_wp2
 refine ⟨trivial,(Zqa _ _ _ _ _).mono ?_⟩
 rintro e w' ⟨rfl,rfl⟩
 gi_wp2
 have bC:=Boxed.new w 38 (.slice (some ⟨b,off,none⟩) 1 cap)
 have bT:=((Boxed.new (w.alloc (.cells #[.slice (some ⟨b,off,none⟩) 1 cap] 38)) 2 (.int .i64 t)).alloc (.cells #[.int .i64 0] 2)).alloc (.cells #[.slice (some ⟨b,off,none⟩) 1 cap] 38)
 have bN:=(Boxed.new ((w.alloc (.cells #[.slice (some ⟨b,off,none⟩) 1 cap] 38)).alloc (.cells #[.int .i64 t] 2)) 2 (.int .i64 0)).alloc (.cells #[.slice (some ⟨b,off,none⟩) 1 cap] 38)
 have bS:=Boxed.new (((w.alloc (.cells #[.slice (some ⟨b,off,none⟩) 1 cap] 38)).alloc (.cells #[.int .i64 t] 2)).alloc (.cells #[.int .i64 0] 2)) 38 (.slice (some ⟨b,off,none⟩) 1 cap)
 simp only [World.size_alloc] at bT bN bS
 have hB0:Below w.heap.size w ((((w.alloc (.cells #[.slice (some ⟨b,off,none⟩) 1 cap] 38)).alloc (.cells #[.int .i64 t] 2)).alloc (.cells #[.int .i64 0] 2)).alloc (.cells #[.slice (some ⟨b,off,none⟩) 1 cap] 38)):=((((Below.refl _ w).alloc (Nat.le_refl _) _).alloc (by simp) _).alloc (by simp; omega) _).alloc (by simp; omega) _
 have hsz:((((w.alloc (.cells #[.slice (some ⟨b,off,none⟩) 1 cap] 38)).alloc (.cells #[.int .i64 t] 2)).alloc (.cells #[.int .i64 0] 2)).alloc (.cells #[.slice (some ⟨b,off,none⟩) 1 cap] 38)).heap.size=w.heap.size+4:=by simp
 obtain ⟨W0,hW0⟩:∃ W0,(((w.alloc (.cells #[.slice (some ⟨b,off,none⟩) 1 cap] 38)).alloc (.cells #[.int .i64 t] 2)).alloc (.cells #[.int .i64 0] 2)).alloc (.cells #[.slice (some ⟨b,off,none⟩) 1 cap] 38)=W0:=⟨_,rfl⟩
 rw [hW0] at bT bN bS hB0 hsz ⊢
 clear hW0
 refine wpIn_rangeFunc_ownH rfl (by decide) (gf:=264) (lb:=#[.pointer (some ⟨w.heap.size+1+1+1,0,none⟩)]) rfl trivial (enters_of Tryz.func264 (by kernel_rfl) rfl)
  (Zqb 5 (by decide) (w.heap.size+1+1+1) (w.heap.size+1+1) w.heap.size b off cap hbl W0 (by omega) (by omega) (by omega) bS.cell ((hB0.cell (p:=⟨b,off,none⟩) hbl).trans h1) ((hB0.cell (p:=⟨b,off+1,none⟩) hbl).trans h2) ((hB0.cell (p:=⟨b,off+1+1,none⟩) hbl).trans h3)) ZLQ (ZLP (by omega)) (Below.refl _ _) (fun _=>rfl)
  (fun pre W=>(Boxed W (w.heap.size+1+1) 2 (.int .i64 (if pre.isEmpty then 0 else t))∧Boxed W (w.heap.size+1) 2 (.int .i64 t))∧Below w.heap.size w W)
  (fun _ _ _=>False)
  (OwnFrom.and (OwnFrom.and (Own.from (boxed_own _ _ _) _) (Own.from (boxed_own _ _ _) _)) (ownFrom_below (Nat.le_refl _) (by omega)))
  (fun _ _ _ _ _ hs _ _=>hs)
  ⟨⟨bN,bT⟩,hB0⟩
  (fun x a' W=>∃ Bx,w.heap.size+1+1 < Bx∧W.heap[Bx]?=some (Obj.cells #[Value.int .i64 0,Value.int .i64 1,Value.int .i64 1,Value.int .i64 1099511627776,Value.int .i64 0] 304)∧a'={ tmps:=#[Value.agg #[Value.slice (some ⟨b,off,none⟩) 1 cap],.int .i64 t,.pointer (some ⟨w.heap.size,0,none⟩),.pointer (some ⟨w.heap.size+1,0,none⟩),.int .i64 0,.pointer (some ⟨w.heap.size+1+1,0,none⟩),.pointer (some ⟨Bx,0,none⟩),Value.agg #[Value.slice (some ⟨b,off,none⟩) 1 cap],.func (.func 264) #[] #[.pointer (some ⟨w.heap.size+1+1+1,0,none⟩)],pcV,undef,undef,undef,undef,undef,undef,undef,undef,undef,undef,undef,undef],defers:=[]})
  (fun x a' _ X Y row hs hg hr=>by obtain ⟨Bx,h1,h2,h3⟩:=hs; exact ⟨Bx,h1,ZGh Bx _ rfl () X Y row h2 hg (fun r e=>(hr r e).2),h3⟩)
  ?assign ?body ?done ?stop
 case assign =>
  rintro l pre x W K ⟨⟨bN1,bT1⟩,hB1⟩ hK
  dsimp only [pcV]
  gi_wp2
  exact hK _ _ ((KeepsOthers.alloc _ _).from _) ⟨(Below.refl _ W).alloc hB1.size _,fun i o _ ho _=>(Below.heap_alloc W _ i (Array.getElem?_eq_some_iff.1 ho).1).trans ho⟩ ⟨⟨bN1.alloc _,bT1.alloc _⟩,hB1.alloc hB1.size _⟩ ⟨W.heap.size,by have:=bN1.lt; omega,World.alloc_heap_new W _,rfl⟩
 case body =>
  rintro l pre x a' W hl ⟨r,hr⟩ ⟨⟨bN1,bT1⟩,hB1⟩ ⟨Bx,hBx,hx,rfl⟩ hlt
  have cT:=bT1.cell
  have cN:=bN1.cell
  have fN:=bN1.frozen
  have c0:W.cell? ⟨Bx,0,none⟩=some (.int .i64 0):=by simp [World.cell?,hx]
  have c1:W.cell? ⟨Bx,1,none⟩=some (.int .i64 1):=by simp [World.cell?,hx]
  have c2:W.cell? ⟨Bx,2,none⟩=some (.int .i64 1):=by simp [World.cell?,hx]
  have c3:W.cell? ⟨Bx,3,none⟩=some (.int .i64 1099511627776):=by simp [World.cell?,hx]
  have c4:W.cell? ⟨Bx,4,none⟩=some (.int .i64 0):=by simp [World.cell?,hx]
  have ht0:¬ (0 > t):=by omega
  gi_wp2
  have hmin:min t 1099511627776=t:=by omega
  rw [hmin]
  refine ⟨trivial,(CallsIn.inRound l (callsIn_wide.2 (ZuD 1099511627776 t ht W))).mono ?_⟩
  rintro e w' ⟨rfl,hb'⟩
  have bN2:Boxed w' (w.heap.size+1+1) 2 _:=(hb'.block _ bN1.lt).trans bN1
  have bT2:Boxed w' (w.heap.size+1) 2 _:=(hb'.block _ bT1.lt).trans bT1
  have cN2:=bN2.cell
  have fN2:=bN2.frozen
  have hg:=grownBy_setCell' w' (w.heap.size+1+1) (.int .i64 t)
  have hKO:KeepsOthers W w':=⟨hb'.size,fun k o ho _=>(hb'.block k (Array.getElem?_eq_some_iff.1 ho).1).trans ho⟩
  gi_wp2
  refine ⟨(hKO.trans (KeepsOthers.setCell _ _ _)).from _,⟨(hb'.mono hB1.size).setCell (p:=⟨w.heap.size+1+1,0,none⟩) (by simp; omega) _,fun i o hi ho _=>?_⟩,⟨by simpa using bN2.set (.int .i64 t),bT2.other (by omega) _⟩,hB1.trans ((hb'.mono hB1.size).setCell (p:=⟨w.heap.size+1+1,0,none⟩) (by simp; omega) _)⟩
  have hil:=(Array.getElem?_eq_some_iff.1 ho).1
  exact (hg.block i (Nat.lt_of_lt_of_le hil hb'.size) (fun e=>hi (by cases e; rfl))).trans ((hb'.block i hil).trans ho)
 case done =>
  rintro D zs W hD rfl ⟨⟨bN1,bT1⟩,hB1⟩ hK
  have cN:=bN1.cell
  gi_wp2
  refine ⟨by simp,.inl ⟨_,_,rfl,run_takeDeferred hK,?_⟩⟩
  exact ⟨_,results_tmp rfl _ _ _,rfl,hB1.trans (belowK_b (w:=w) (Nat.le_refl _) W D _ _ (by omega) hK rfl rfl)⟩
 case stop =>
  rintro D c pre W _ _ h _
  exact h.elim
theorem ZDd {w:World} {b o:Nat} {u:Value} (h:w.cell? ⟨b,o,none⟩=some u):b < w.heap.size:=by
 refine Decidable.byContradiction fun hn=>?_
 have:w.heap[b]?=none:=Array.getElem?_eq_none (by omega)
 simp [World.cell?,this] at h
theorem Ztb (q:List D) (t:Int) (hq:q=Zru) (ht:0≤t∧t≤1099511627776):Spec Tryz.prog 0 244 [.agg [.d (.list q)],vI .i64 t] [] [] (vI .i64 t) [] []:=by
 subst hq
 refine ⟨⟨fun n hn=>(V.bare_has rfl n hn).elim,by simp,by simp⟩,fun w ok ℓ us hm hus=>.inl ⟨?_,?_⟩⟩
 ·have hf:Tryz.prog.funcs[244]?=some Tryz.f244:=Tryz.func244
  have hn:(Tryz.f244.name == "runtime.NumGoroutine")=false:=by decide
  have hb:Tryz.f244.body=some _:=rfl
  simp only [beq_eq_false_iff_ne,ne_eq] at hn
  simp [callFunc,hf,hn,hb]
 obtain ⟨u,v,rfl⟩:∃ u v,us=#[u,v]:=by
  have h2:us.size=2:=hus.1
  exact ⟨us[0],us[1],by apply Array.ext <;> simp [h2]; intro i hi; rcases (by omega:i=0∨i=1) with rfl | rfl <;> (intros; rfl)⟩
 obtain ⟨vs,rfl,hvs⟩:=hus.2 0 u _ (by simp) rfl
 have hv:=(hus.2 1 v _ (by simp) rfl).1.int_inv
 subst hv
 obtain ⟨s,rfl⟩:∃ s,vs=#[s]:=by
  have h1:vs.size=1:=hvs.1
  refine ⟨vs[0],?_⟩
  apply Array.ext <;> simp [h1]
  intro i hi
  obtain rfl:i=0:=by omega
  rfl
 have hs:=(hvs.2 0 s _ (by simp) rfl).1
 obtain ⟨a,c,rfl,hl | ⟨b,o,vs,rfl,hvl,hvc,_,hh⟩⟩:=ZfX (sz:=3) hs (by intro x hx; simp [Zru] at hx; subst hx; rfl) (by decide)
 ·cases hl
 have key:∀ j:Nat,∀ n:Int,([D.int .i64 0,D.int .i64 1,D.int .i64 1]:List D)[j]?=some (.int .i64 n)→w.cell? ⟨b,o+j,none⟩=some (.int .i64 n):=fun j n hj=>by
  obtain ⟨_,u,h2,h3⟩:=hh.2 0 _ j _ rfl hj
  have h4:=hvc _ _ h2
  rw [h3.int_inv] at h4
  simpa using h4
 have k0:=key 0 0 rfl
 refine (Zlg b o c t ht w (ZDd k0) k0 (key 1 1 rfl) (key 2 1 rfl)).mono ?_
 rintro e w' ⟨rfl,hb⟩
 exact ⟨_,_,_,rfl,Zea hm.alive hb ⟨.int _ _,rfl⟩⟩
def Zf9:List V→Zf→Zr→Name→Option Ent
 | [.agg [.d (.list q)],.c (.d (.int .i64 t))],[],[],_=>some ⟨q=Zru∧(0≤t∧t≤1099511627776),vI .i64 t,[],[]⟩
 | _,_,_,_=>none
def ZrC:=And.intro (@Zf9.eq_1) (@Zf9.eq_1)
theorem ZrD:Snd Tryz.prog 244 Zf9:=by
 intro vs b k n e h hn hp
 unfold Zf9 at h
 split at h
 ·cases h; obtain ⟨hp0,hp1⟩:=hp; exact (Ztb _ _ hp0 hp1).lift rfl _
 ·cases h
end Go.Vam
