/- A part of the proof. Conditions: none. -/
import Derived.Test.YtmpbpijnbmpbhaaGreatBWh
import Derived.MapKept
set_option linter.unusedVariables false
set_option linter.defProp false
set_option linter.unusedSimpArgs false
set_option maxRecDepth 40000
set_option maxHeartbeats 4000000
namespace Go.Vam
open Go.Proofs Go.RowKit Go.Lib
open Nat renaming reduceShiftRight→Ya,reduceMod→Yb,reduceEqDiff→Yc,reduceLT→Yd,reduceLeDiff→Ye,reduceAdd→Yf,reduceMul→Yg
open Int renaming reduceLE→Yj,reduceLT→Yk,reduceNeg→Yl,reduceAdd→Ym,reduceToNat→Yn
def gE1:=And.intro (@ZaA) (And.intro (@ZaT) (And.intro (@Zai) (And.intro (@Zaj) (And.intro (@ZaS) (@ZF)))))
def doA (x:Sm) (k:Int):Bool:=if k=1 then x.st==2 || (x.st==1 && (x.di==2 || x.s0==0)) else if k=2 then x.st==3 else if k=3 then x.st==4 else if k=4 then x.di==1 && decide (2≤x.st) && decide (x.st≤4) else if k=5 then decide (x.st≤5) else if k=6 then x.st != 7 else decide (x.st≤4)
def doE (x:Sm) (k:Int):Int:=if (!smV x || decide (k < 1) || decide (7 < k))=true then 1 else if doA x k=false then 9 else if k=1∧x.st=2∧x.di=1∧smN x < x.s0 then 4 else 0
def doT (x:Sm) (k:Int):Int:=if k=1 then 3 else if k=2 then 4 else if k=3 then 3 else if k=4 then 5 else if k=5 then 6 else if k=6 then 7 else if x.st=2 then 1 else x.st
def ZsZ (x:Sm) (s:Int):Sm:=⟨x.di,s,x.q,x.s0,x.r,x.g,x.wr,x.pl,x.mi⟩
def doR (x:Sm) (k:Int):Sm:=if doE x k=0 then (if 5≤k then smE (ZsZ x (doT x k)) else ZsZ x (doT x k)) else sm0
def Aft (X:Ctx) (S:Start) (c:Code) (Q:Exit→Act→World→Prop) (st:St):Prop:=∀ a w,Sim X S st a w→c.wp X.P Q a w
theorem do1 {x:Sm} {k:Int} (h:smV x=false):doE x k=1:=by unfold doE; rw [h]; rfl
theorem ZLK {x:Sm} {k:Int} (h:smV x=true) (hk:1≤k∧k≤7):¬ (!smV x || decide (k < 1) || decide (7 < k))=true:=by
 simp [h]
 omega
theorem do9 {x:Sm} {k:Int} (h:smV x=true) (hk:1≤k∧k≤7) (ha:doA x k=false):doE x k=9:=by unfold doE; rw [if_neg (ZLK h hk),if_pos ha]
theorem do4 {x:Sm} {k:Int} (h:smV x=true) (hk:1≤k∧k≤7) (ha:doA x k=true) (hs:k=1∧x.st=2∧x.di=1∧smN x < x.s0):doE x k=4:=by unfold doE; rw [if_neg (ZLK h hk),if_neg (by rw [ha]; decide),if_pos hs]
theorem do0 {x:Sm} {k:Int} (h:smV x=true) (hk:1≤k∧k≤7) (ha:doA x k=true) (hs:¬ (k=1∧x.st=2∧x.di=1∧smN x < x.s0)):doE x k=0:=by unfold doE; rw [if_neg (ZLK h hk),if_neg (by rw [ha]; decide),if_neg hs]
theorem doS {x:Sm} {k e:Int} (he:e≠0) (h:doE x k=e):doR x k=sm0:=by unfold doR; rw [h,if_neg he]
theorem Zbq (x:Int):∀ (m:List Int) (i:Nat),0≤Zl4 m x i↔x∈m
 | [],_=>by simp [Zl4]
 | y::ys,i=>by
  by_cases h:x=y
  ·simp [Zl4,h]
  ·simp [Zl4,h,Zbq x ys (i+1)]
theorem ZDY {X:Ctx} (hT:TOk X) (hm:X.P.follows .mixedOrders=true) {M:List (Nat×List Nat)} {m:Nat} {c1 c2:Code} {Q:Exit→Act→World→Prop} {S:Start} {st:St} (h:evS st (E X M m c1 (fun e st'=>e=.normal∧Aft X S c2 Q st'))):Aft X S (c1.seq c2) Q st :=
 fun a w hs=>wp_seq (wp_mono (ZmM hT hm c1 _ st h S a w hs) (fun e a w h=>by
  obtain ⟨st',⟨he,hr⟩,hs'⟩:=h
  subst he
  exact hr a w hs'))
theorem Zc8 {X:Ctx} (hT:TOk X) (hm:X.P.follows .mixedOrders=true) {M:List (Nat×List Nat)} {m:Nat} {c:Code} {S:Start} {st:St} {Q:Exit→St→Prop} (h:evS st (E X M m c Q)):Aft X S c (fun e a' w'=>∃ st',Q e st'∧Sim X S st' a' w') st :=
 fun a w hs=>ZmM hT hm c Q st h S a w hs
theorem Zdd {X:Ctx} (hT:TOk X) {ops:Array Oper} {S:Start} {c2:Code} {Q:Exit→Act→World→Prop} {ms:List Nat} {i n:Nat} {st:St} {l:List Oper} (hl:ops.toList.drop i=l) (hn:l.length=n) (h:evS st (Zvr X ops ms l · (Aft X S c2 Q))):∀ a w,Sim X S st a w→wpOps X.P ops (Exit.then (c2.wp X.P Q) Q) (List.range' i n) a w:=by
 subst hn
 exact Zed hT (Q':=Aft X S c2 Q) (fun st a w h hs=>h a w hs) l ms i st hl h
theorem ZtQ (di st q s0 c n d a p f:Int) (l:List Int) (gc gq gw gr:Int) (gl:List Int) (wr pl mi:Int) (s:Int):Spec Tryz.prog 0 197 [.agg (smC ⟨di,st,q,s0,⟨c,⟨n,d,a,p,f⟩,l⟩,⟨gc,gq,gw,gr,gl⟩,wr,pl,mi⟩),.c (.lp ⟨0,0⟩ 0)] [(⟨0,0⟩,[.d (.int .i64 s)])] [] (.agg [.d (.int .i64 di),.d (.int .i64 s),.d (.int .i64 q),.d (.int .i64 s0),.d (.int .i64 c),.d (.int .i64 n),.d (.int .i64 d),.d (.int .i64 a),.d (.int .i64 p),.d (.int .i64 f),.d (.list (LI .i32 l)),.d (.int .i64 gc),.d (.int .i64 gq),.d (.int .i64 gw),.d (.int .i64 gr),.d (.list (LI .i32 gl)),.d (.int .i64 wr),.d (.int .i64 pl),.d (.int .i64 mi)]) [(⟨0,0⟩,[.d (.int .i64 s)])] []:=by
 refine spec_of_E (X:=⟨Tryz.prog,tt,Tryz.f197.ntmps,1,fun _=>0,(tab [])⟩) (M:=[]) (m:=15) rfl rfl ⟨Z7,ZI Zb _ rfl rfl⟩ Zs Tryz.func197 rfl (by decide) (by show (2:Nat)≤_; exact Nat.le_of_ble_eq_true rfl) ⟨by simp [V.has,C.has,ZF],by simp [C.has],by simp⟩ ?_
 simp (maxSteps:=1000000) only [↓Zn,Ze,Zd,Zm,gSt,gS0,Ya,Yb,↓reduceIte,reduceCtorEq,Yc,Yd,Ye,Yf,Yg,Yj,Yk,Yl,Ym,Yn,gE1,Tryz.ntmps197,Tryz.results197,gTT]
def Zfn:List V→Zf→Zr→Name→Option Ent
 | [.agg [.d (.int .i64 di),.d (.int .i64 st),.d (.int .i64 q),.d (.int .i64 s0),.d (.int .i64 c),.d (.int .i64 n),.d (.int .i64 d),.d (.int .i64 a),.d (.int .i64 p),.d (.int .i64 f),.d (.list q_l),.d (.int .i64 gc),.d (.int .i64 gq),.d (.int .i64 gw),.d (.int .i64 gr),.d (.list q_gl),.d (.int .i64 wr),.d (.int .i64 pl),.d (.int .i64 mi)],.c (.lp n0 0)],[(m0,[.d (.int .i64 s)])],[],_=>some ⟨n0.lv≤1∧m0=n0∧q_l=LI .i32 (Zc q_l)∧q_gl=LI .i32 (Zc q_gl),.agg [.d (.int .i64 di),.d (.int .i64 s),.d (.int .i64 q),.d (.int .i64 s0),.d (.int .i64 c),.d (.int .i64 n),.d (.int .i64 d),.d (.int .i64 a),.d (.int .i64 p),.d (.int .i64 f),.d (.list (LI .i32 (Zc q_l))),.d (.int .i64 gc),.d (.int .i64 gq),.d (.int .i64 gw),.d (.int .i64 gr),.d (.list (LI .i32 (Zc q_gl))),.d (.int .i64 wr),.d (.int .i64 pl),.d (.int .i64 mi)],[(n0,[.d (.int .i64 s)])],[]⟩
 | _,_,_,_=>none
def ZM:=And.intro (@Zfn.eq_1) (@Zfn.eq_1)
theorem Zsk:Snd Tryz.prog 197 Zfn:=by
 intro vs b k n e h hn hp
 unfold Zfn at h
 split at h
 ·cases h; obtain ⟨hl0,rfl,hq0,hq1⟩:=hp; obtain ⟨_,rfl⟩:=Zq hq0; obtain ⟨_,rfl⟩:=Zq hq1; simp only [Zi,Zo,Zj,Zp]; exact Spec.ren1 (ZtQ _ _ _ _ _ _ _ _ _ _ _ _ _ _ _ _ _ _ _ _) 0 (by simp [Za9,V.names,C.names,ZJ,ZK,ZF]) hl0
 ·cases h
theorem Zx7 (di st q s0 c n d a p f:Int) (l:List Int) (gc gq gw gr:Int) (gl:List Int) (wr pl mi:Int) (s:Int) (hl:l.length≤1000000) (hg:gl.length≤1000000):Spec Tryz.prog 0 198 [.agg (smC ⟨di,st,q,s0,⟨c,⟨n,d,a,p,f⟩,l⟩,⟨gc,gq,gw,gr,gl⟩,wr,pl,mi⟩),.c (.lp ⟨0,0⟩ 0)] [(⟨0,0⟩,[.d (.int .i64 s)])] [] (.agg (smC ((smE (ZsZ ⟨di,st,q,s0,⟨c,⟨n,d,a,p,f⟩,l⟩,⟨gc,gq,gw,gr,gl⟩,wr,pl,mi⟩ s))))) [(⟨0,0⟩,[.d (.int .i64 s)])] []:=by
 refine spec_of_E (X:=⟨Tryz.prog,tt,Tryz.f198.ntmps,1,fun _=>0,(tab [(199,Zfm)])⟩) (M:=[]) (m:=15) rfl rfl ⟨Z7,ZI (Za ZjP Zb) _ rfl rfl⟩ Zs Tryz.func198 rfl (by decide) (by show (2:Nat)≤_; exact Nat.le_of_ble_eq_true rfl) ⟨by simp [V.has,C.has,ZF],by simp [C.has],by simp⟩ ?_
 simp (maxSteps:=1000000) only [↓Zn,Ze,Zd,Zm,gSt,gS0,Ya,Yb,↓reduceIte,reduceCtorEq,Yc,Yd,Ye,Yf,Yg,Yj,Yk,Yl,Ym,Yn,ZjO,gE1,Tryz.ntmps198,Tryz.results198,gTT]
 exact ⟨⟨hl,hg⟩,rfl,rfl,rfl,rfl,rfl,rfl,rfl,rfl,rfl,rfl,rfl,rfl,rfl,rfl,rfl,rfl,rfl,rfl,rfl⟩
def Zhp:List V→Zf→Zr→Name→Option Ent
 | [.agg [.d (.int .i64 di),.d (.int .i64 st),.d (.int .i64 q),.d (.int .i64 s0),.d (.int .i64 c),.d (.int .i64 n),.d (.int .i64 d),.d (.int .i64 a),.d (.int .i64 p),.d (.int .i64 f),.d (.list q_l),.d (.int .i64 gc),.d (.int .i64 gq),.d (.int .i64 gw),.d (.int .i64 gr),.d (.list q_gl),.d (.int .i64 wr),.d (.int .i64 pl),.d (.int .i64 mi)],.c (.lp n0 0)],[(m0,[.d (.int .i64 s)])],[],_=>some ⟨(Zc q_l).length≤1000000∧(Zc q_gl).length≤1000000∧n0.lv≤1∧m0=n0∧q_l=LI .i32 (Zc q_l)∧q_gl=LI .i32 (Zc q_gl),.agg (smC ((smE (ZsZ ⟨di,st,q,s0,⟨c,⟨n,d,a,p,f⟩,(Zc q_l)⟩,⟨gc,gq,gw,gr,(Zc q_gl)⟩,wr,pl,mi⟩ s)))),[(n0,[.d (.int .i64 s)])],[]⟩
 | _,_,_,_=>none
def ZU:=And.intro (@Zhp.eq_1) (@Zhp.eq_1)
theorem Zwz:Snd Tryz.prog 198 Zhp:=by
 intro vs b k n e h hn hp
 unfold Zhp at h
 split at h
 ·cases h; obtain ⟨hp0,hp1,hl0,rfl,hq0,hq1⟩:=hp; obtain ⟨_,rfl⟩:=Zq hq0; obtain ⟨_,rfl⟩:=Zq hq1; simp only [Zi,Zo,Zj,Zp] at hp0 hp1 ⊢; exact Spec.ren1 (Zx7 _ _ _ _ _ _ _ _ _ _ _ _ _ _ _ _ _ _ _ _ hp0 hp1) 0 (by simp [Za9,V.names,C.names,ZJ,ZK,ZF]) hl0
 ·cases h
theorem Zrb (di st q s0 c n d a p f:Int) (l:List Int) (gc gq gw gr:Int) (gl:List Int) (wr pl mi:Int) (hl:l.length≤1000000) (hg:gl.length≤1000000):Spec Tryz.prog 0 128 [.agg (smC ⟨di,st,q,s0,⟨c,⟨n,d,a,p,f⟩,l⟩,⟨gc,gq,gw,gr,gl⟩,wr,pl,mi⟩)] [] [] (.agg (smC ((smE (ZsZ ⟨di,st,q,s0,⟨c,⟨n,d,a,p,f⟩,l⟩,⟨gc,gq,gw,gr,gl⟩,wr,pl,mi⟩ (if st=2 then 1 else st)))))) [] []:=by
 refine sE (md:=fun _=>0) (L:=[(199,Zfm)]) [] 39 (Za ZjP Zb) Tryz.func128 rfl rfl rfl ?_
 simp (maxSteps:=1000000) only [↓Zn,Ze,Zd,Zm,gSt,gS0,Ya,Yb,↓reduceIte,reduceCtorEq,Yc,Yd,Ye,Yf,Yg,Yj,Yk,Yl,Ym,Yn,ZjO,gE1,Tryz.ntmps128,Tryz.results128,gTT]
 refine ⟨fun h=>?_,fun h=>?_⟩
 ·have hd:st=2:=by simpa using h
  rw [if_pos hd]
  exact ⟨⟨hl,hg⟩,rfl,rfl,rfl,rfl,rfl,rfl,rfl,rfl,rfl,rfl,rfl,rfl,rfl,rfl,rfl,rfl,rfl,rfl,rfl⟩
 ·have hd:¬ st=2:=by simpa using h
  rw [if_neg hd]
  exact ⟨⟨hl,hg⟩,rfl,rfl,rfl,rfl,rfl,rfl,rfl,rfl,rfl,rfl,rfl,rfl,rfl,rfl,rfl,rfl,rfl,rfl,rfl⟩
def ZdJ:List V→Zf→Zr→Name→Option Ent
 | [.agg [.d (.int .i64 di),.d (.int .i64 st),.d (.int .i64 q),.d (.int .i64 s0),.d (.int .i64 c),.d (.int .i64 n),.d (.int .i64 d),.d (.int .i64 a),.d (.int .i64 p),.d (.int .i64 f),.d (.list q_l),.d (.int .i64 gc),.d (.int .i64 gq),.d (.int .i64 gw),.d (.int .i64 gr),.d (.list q_gl),.d (.int .i64 wr),.d (.int .i64 pl),.d (.int .i64 mi)]],[],[],_=>some ⟨(Zc q_l).length≤1000000∧(Zc q_gl).length≤1000000∧q_l=LI .i32 (Zc q_l)∧q_gl=LI .i32 (Zc q_gl),.agg (smC ((smE (ZsZ ⟨di,st,q,s0,⟨c,⟨n,d,a,p,f⟩,(Zc q_l)⟩,⟨gc,gq,gw,gr,(Zc q_gl)⟩,wr,pl,mi⟩ (if st=2 then 1 else st))))),[],[]⟩
 | _,_,_,_=>none
def ZH:=And.intro (@ZdJ.eq_1) (@ZdJ.eq_1)
theorem Zo1:Snd Tryz.prog 128 ZdJ:=by
 intro vs b k n e h hn hp
 unfold ZdJ at h
 split at h
 ·cases h; obtain ⟨hp0,hp1,hq0,hq1⟩:=hp; obtain ⟨_,rfl⟩:=Zq hq0; obtain ⟨_,rfl⟩:=Zq hq1; simp only [Zi,Zo,Zj,Zp] at hp0 hp1 ⊢; exact (Zrb _ _ _ _ _ _ _ _ _ _ _ _ _ _ _ _ _ _ _ hp0 hp1).lift rfl _
 ·cases h
def ruF (k:Int):List Int:=if k=1 then [1,2] else if k=2 then [3] else if k=3 then [4] else if k=4 then [2,3,4] else if k=5 then [1,2,3,4,5] else if k=6 then [1,2,3,4,5,6] else if k=7 then [1,2,3,4] else []
def ruT (k:Int):FuncId×Option Int:=if k=1 then (197,some 3) else if k=2 then (197,some 4) else if k=3 then (197,some 3) else if k=4 then (197,some 5) else if k=5 then (198,some 6) else if k=6 then (198,some 7) else (128,none)
def ZG4 (m:Nat) (w':World) (b:Nat) (t:FuncId×Option Int) (v:Value):Prop:=match t.2 with
 | some s=>∃ c,m < c∧c≠b∧v=.func (.func t.1) #[] #[.pointer (some ⟨c,0,none⟩)]∧w'.heap[c]?=some (.cells #[.int .i64 s] 3 (0,0))
 | none=>v=.func (.func t.1) #[] #[]
def EntAt (m:Nat) (w':World) (k:Int) (v:Value):Prop:=∃ b fv,m < b∧v=.agg #[.slice (some ⟨b,0,none⟩) (ruF k).length (ruF k).length,fv]∧w'.heap[b]?=some (.cells ((ruF k).map (Value.int .i64)).toArray 3 (0,0))∧ZG4 m w' b (ruT k) fv
def MapAt (w0 w':World) (n:Nat):Prop:=Below w0.heap.size w0 w'∧w0.heap.size < w'.heap.size∧∃ es:Array MapEntry,w'.heap[w0.heap.size]?=some (.map es n)∧es.size=n∧∀ (i:Nat) (e:MapEntry),es[i]?=some e→e.key=.int .i64 ((i:Int)+1)∧EntAt w0.heap.size w' ((i:Int)+1) e.val
theorem EntAt.keep {m:Nat} {w1 w2:World} {k:Int} {v:Value} (h:EntAt m w1 k v) (hk:∀ j,j≠m→∀ o,w1.heap[j]?=some o→w2.heap[j]?=some o):EntAt m w2 k v:=by
 obtain ⟨b,fv,h1,h2,h3,h4⟩:=h
 refine ⟨b,fv,h1,h2,hk b (by omega) _ h3,?_⟩
 unfold ZG4 at h4 ⊢
 split
 ·rename_i s hs
  rw [hs] at h4
  obtain ⟨c,c1,c2,c3,c4⟩:=h4
  exact ⟨c,c1,c2,c3,hk c (by omega) _ c4⟩
 ·rename_i hs
  rw [hs] at h4
  exact h4
theorem MapAt.first (w:World):MapAt w (w.alloc (.map #[] 0)) 0:=by
 have h:=MapKept.heap_alloc w (.map #[] 0)
 refine ⟨(Below.refl _ w).alloc (Nat.le_refl _) _,by simp,#[],h.1,rfl,fun i e h=>by simp at h⟩
theorem Zia {es:Array MapEntry} {n:Nat} {k:Int} (hk:∀ (i:Nat) (e:MapEntry),es[i]?=some e→e.key=.int .i64 ((i:Int)+1)) (hn:es.size≤n) (hkn:k≤0∨(n:Int) < k):Instr.findNow (.int .i64) (.int .i64 k) es.toList 0=some none:=by
 have key:∀ (l:List MapEntry) (i:Nat),(∀ e∈l,∃ j:Nat,j < n∧e.key=.int .i64 ((j:Int)+1))→Instr.findNow (.int .i64) (.int .i64 k) l i=some none:=by
  intro l
  induction l with
  | nil=>intro i _; rfl
  | cons e l ih =>
   intro i h
   obtain ⟨j,hj,he⟩:=h e (.head _)
   have h2:(k==(j:Int)+1)=false:=by simp; omega
   unfold Instr.findNow
   rw [he]
   simp only [Instr.sameNow,↓reduceIte,h2]
   exact ih (i+1) (fun e' he'=>h e' (.tail _ he'))
 refine key _ 0 (fun e he=>?_)
 obtain ⟨i,hi⟩:=List.getElem?_of_mem he
 rw [Array.getElem?_toList] at hi
 have:=(Array.getElem?_eq_some_iff.1 hi).1
 exact ⟨i,by omega,hk i e hi⟩
theorem ZpF {es:Array MapEntry} (hk:∀ (i:Nat) (e:MapEntry),es[i]?=some e→e.key=.int .i64 ((i:Int)+1)) {i:Nat} {e:MapEntry} (hi:es[i]?=some e):Instr.findNow (.int .i64) (.int .i64 ((i:Int)+1)) es.toList 0=some (some (i,e.val)):=by
 have key:∀ (l:List MapEntry) (j d:Nat),(∀ (q:Nat) (e:MapEntry),l[q]?=some e→e.key=.int .i64 (((j+q:Nat):Int)+1))→i=j+d→l[d]?=some e→Instr.findNow (.int .i64) (.int .i64 ((i:Int)+1)) l j=some (some (i,e.val)):=by
  intro l
  induction l with
  | nil=>intro j d _ _ h; simp at h
  | cons e' l ih =>
   intro j d h hij hd
   have he:=h 0 e' rfl
   unfold Instr.findNow
   rw [he]
   cases d with
   | zero =>
    have hee:e'=e:=by simpa using hd
    subst hee
    subst hij
    simp only [Instr.sameNow,↓reduceIte,Nat.add_zero,beq_self_eq_true]
   | succ d =>
    have h2:(((i:Int)+1)==(((j+0:Nat):Int)+1))=false:=by simp; omega
    simp only [Instr.sameNow,↓reduceIte,h2]
    exact ih (j+1) d (fun q e2 hq=>by have:=h (q+1) e2 (by simpa using hq); rw [this]; congr 2; omega) (by omega) (by simpa using hd)
 exact key _ 0 i (fun q e2 hq=>by rw [Nat.zero_add]; exact hk q e2 (by simpa using hq)) (by omega) (by simpa using hi)
theorem Zt3:Tryz.prog.underlying 146=some (.map 3 144):=Tryz.underlying146
theorem ZhN:Tryz.prog.underlying 3=some (.int .i64):=Tryz.underlying3
theorem ZAX {w0 w1:World} {n:Nat} (h:Aside (MapAt w0 w1 n)) {w2:World} (hg:Below w1.heap.size w1 w2) {k:Int} {v:Value} (hk:k=(n:Int)+1) (he:EntAt w0.heap.size w2 k v) :
  ∃ w3,Sem.run Tryz.prog (Instr.mapUpdate 146 (.map (some w0.heap.size)) (.int .i64 k) v) w2=.ok () w3∧Aside (MapAt w0 w3 (n+1)):=by
 obtain ⟨hB,hs,es,hm,hes,hent⟩:=h.out
 have hm2:w2.heap[w0.heap.size]?=some (.map es n):=by rw [hg.block _ hs]; exact hm
 have hset:=MapKept.heap_set (o':=.map (es.push ⟨.int .i64 k,v,n⟩) (n+1)) hm2
 have hf:=Zia (k:=k) (fun i e hi=>(hent i e hi).1) (n:=n) (by omega) (by omega)
 have hik:MapKept.IsKey (.int .i64) (.int .i64 k):=rfl
 refine ⟨{ w2 with heap:=w2.heap.setIfInBounds w0.heap.size (.map (es.push ⟨.int .i64 k,v,n⟩) (n+1))},?_,?_⟩
 ·simp [Instr.mapUpdate,run_underlying Zt3,MapKept.run_getObj_map hm2,MapKept.run_checkKey ZhN hik,MapKept.run_findKey ZhN hf,MapKept.run_setObj_map _ hm2,Result.andThen]
 have hkeep:∀ j,j≠w0.heap.size→∀ o,w2.heap[j]?=some o→(w2.heap.setIfInBounds w0.heap.size (.map (es.push ⟨.int .i64 k,v,n⟩) (n+1)))[j]?=some o:=fun j hj o ho=>by rw [hset.2 j hj]; exact ho
 refine ⟨⟨hg.os.trans hB.os,hg.tape.trans hB.tape,hg.output.trans hB.output,?_,fun i hi=>?_⟩,?_,_,hset.1,by simp [hes],fun i e hi=>?_⟩
 ·have:=hg.size; have:=hB.size; simp; omega
 ·show (w2.heap.setIfInBounds _ _)[i]?=_
  rw [hset.2 i (by omega),hg.block i (by have:=hB.size; omega)]
  exact hB.block i hi
 ·have:=hg.size; simp; omega
 ·rw [Array.getElem?_push] at hi
  split at hi
  ·rename_i hin
   cases hi
   have hki:k=(i:Int)+1:=by omega
   rw [← hki]
   exact ⟨rfl,he.keep hkeep⟩
  ·obtain ⟨h1,h2⟩:=hent i e hi
   refine ⟨h1,(h2.keep (fun j hj o ho=>?_)).keep hkeep⟩
   rw [hg.block j (Z8 ho)]
   exact ho
theorem ZcF {w0 w1:World} {n:Nat} (h:Aside (MapAt w0 w1 n)) (k s:Int) (hk:k=(n:Int)+1) (f:FuncId) (ht:ruT k=(f,some s)) (a:Array Value) (ha:a=((ruF k).map (Value.int .i64)).toArray) (len:Nat) (hlen:len=(ruF k).length) :
  ∃ w3,Sem.run Tryz.prog (Instr.mapUpdate 146 (.map (some w0.heap.size)) (.int .i64 k) (.agg #[.slice (some ⟨w1.heap.size,0,none⟩) len len,.func (.func f) #[] #[.pointer (some ⟨w1.heap.size+1,0,none⟩)]])) ((w1.alloc (.cells a 3)).alloc (.cells #[.int .i64 s] 3))=.ok () w3∧Aside (MapAt w0 w3 (n+1)):=by
 have hs:=h.out.2.1
 have g1:=MapKept.heap_alloc w1 (.cells a 3)
 have g2:=MapKept.heap_alloc (w1.alloc (.cells a 3)) (.cells #[.int .i64 s] 3)
 have hsz:(w1.alloc (.cells a 3)).heap.size=w1.heap.size+1:=by simp
 rw [hsz] at g2
 refine ZAX h (((Below.refl _ w1).alloc (Nat.le_refl _) _).alloc (by simp) _) hk ⟨w1.heap.size,_,hs,by rw [hlen],by rw [g2.2 _ (by omega),g1.1,ha],?_⟩
 unfold ZG4
 rw [ht]
 exact ⟨w1.heap.size+1,by omega,by omega,rfl,g2.1⟩
theorem Zp2 {w0 w1:World} {n:Nat} (h:Aside (MapAt w0 w1 n)) (k:Int) (hk:k=(n:Int)+1) (f:FuncId) (ht:ruT k=(f,none)) (a:Array Value) (ha:a=((ruF k).map (Value.int .i64)).toArray) (len:Nat) (hlen:len=(ruF k).length) :
  ∃ w3,Sem.run Tryz.prog (Instr.mapUpdate 146 (.map (some w0.heap.size)) (.int .i64 k) (.agg #[.slice (some ⟨w1.heap.size,0,none⟩) len len,.func (.func f) #[] #[]])) (w1.alloc (.cells a 3))=.ok () w3∧Aside (MapAt w0 w3 (n+1)):=by
 have hs:=h.out.2.1
 have g1:=MapKept.heap_alloc w1 (.cells a 3)
 refine ZAX h ((Below.refl _ w1).alloc (Nat.le_refl _) _) hk ⟨w1.heap.size,_,hs,by rw [hlen],by rw [g1.1,ha],?_⟩
 unfold ZG4
 rw [ht]
def Zzx (w:World) (e:Ending) (w':World):Prop:=e=.returned (.map (some w.heap.size))∧MapAt w w' 7
theorem Zqo {P:Program} (t:TypeId) (w:World):Sem.run P (Instr.makeMap t none) w=.ok (.map (some w.heap.size)) (w.alloc (.map #[] 0)):=by
 simp [Instr.makeMap,Result.andThen]
theorem ZsW (w:World):Calls Tryz.prog 50 #[] w (Zzx w):=by
 go_enter Tryz.func50,Tryz.ntmps50
 go_wp2
 rw [Zqo]
 have h0:Aside (MapAt w (w.alloc (.map #[] 0)) 0):=MapAt.first w
 generalize w.alloc (.map #[] 0)=v0 at *
 go_wp2
 obtain ⟨v1,hr,h1⟩:=ZcF h0 1 3 (by decide) 197 (by decide) #[.int .i64 1,.int .i64 2] (by simp [ruF]) 2 (by simp [ruF])
 rw [hr]
 clear hr h0
 go_wp2
 obtain ⟨v2,hr,h2⟩:=ZcF h1 2 4 (by decide) 197 (by decide) #[.int .i64 3] (by simp [ruF]) 1 (by simp [ruF])
 rw [hr]
 clear hr h1
 go_wp2
 obtain ⟨v3,hr,h3⟩:=ZcF h2 3 3 (by decide) 197 (by decide) #[.int .i64 4] (by simp [ruF]) 1 (by simp [ruF])
 rw [hr]
 clear hr h2
 go_wp2
 obtain ⟨v4,hr,h4⟩:=ZcF h3 4 5 (by decide) 197 (by decide) #[.int .i64 2,.int .i64 3,.int .i64 4] (by simp [ruF]) 3 (by simp [ruF])
 rw [hr]
 clear hr h3
 go_wp2
 obtain ⟨v5,hr,h5⟩:=ZcF h4 5 6 (by decide) 198 (by decide) #[.int .i64 1,.int .i64 2,.int .i64 3,.int .i64 4,.int .i64 5] (by simp [ruF]) 5 (by simp [ruF])
 rw [hr]
 clear hr h4
 go_wp2
 obtain ⟨v6,hr,h6⟩:=ZcF h5 6 7 (by decide) 198 (by decide) #[.int .i64 1,.int .i64 2,.int .i64 3,.int .i64 4,.int .i64 5,.int .i64 6] (by simp [ruF]) 6 (by simp [ruF])
 rw [hr]
 clear hr h5
 go_wp2
 obtain ⟨v7,hr,h7⟩:=Zp2 h6 7 (by decide) 128 (by decide) #[.int .i64 1,.int .i64 2,.int .i64 3,.int .i64 4] (by simp [ruF]) 4 (by simp [ruF])
 rw [hr]
 clear hr h6
 go_wp2
 go_ret
 exact ⟨rfl,h7.out⟩
theorem ZBu (w:World):(zeroValue 144).run Tryz.prog w=.ok (.agg #[.slice none 0 0,.nilFunc]) w:=by
 have h:(Tryz.prog.info? 144).map (fun i=>i.zero)=some (some (.agg #[.slice none 0 0,.nilFunc])):=by kernel_rfl
 cases hi:Tryz.prog.info? 144 with
 | none=>rw [hi] at h; cases h
 | some i =>
  rw [hi] at h
  simp only [Option.map_some,Option.some.injEq] at h
  simp [zeroValue,typeInfo,hi,h,Result.andThen]
theorem Zqh {w0 w:World} (h:MapAt w0 w 7) {k:Int} (hk:1≤k∧k≤7):∃ v,(Instr.lookup 146 (.map (some w0.heap.size)) (.int .i64 k) true).run Tryz.prog w=.ok (.tuple #[v,.bool true]) w∧EntAt w0.heap.size w k v:=by
 obtain ⟨hB,hs,es,hm,hes,hent⟩:=h
 have hlt:(k - 1).toNat < es.size:=by omega
 have hi:es[(k - 1).toNat]?=some es[(k - 1).toNat]:=Array.getElem?_eq_getElem hlt
 have hf:=ZpF (fun i e hi=>(hent i e hi).1) hi
 have hki:(((k - 1).toNat:Nat):Int)+1=k:=by omega
 rw [hki] at hf
 have he:=(hent _ _ hi).2
 rw [hki] at he
 have hik:MapKept.IsKey (.int .i64) (.int .i64 k):=rfl
 refine ⟨es[(k - 1).toNat].val,?_,he⟩
 simp [Instr.lookup,run_underlying Zt3,MapKept.run_getObj_map hm,MapKept.run_checkKey ZhN hik,MapKept.run_findKey ZhN hf,Result.andThen]
theorem Zqi {w0 w:World} (h:MapAt w0 w 7) {k:Int} (hk:k < 1∨7 < k):(Instr.lookup 146 (.map (some w0.heap.size)) (.int .i64 k) true).run Tryz.prog w=.ok (.tuple #[.agg #[.slice none 0 0,.nilFunc],.bool false]) w:=by
 obtain ⟨hB,hs,es,hm,hes,hent⟩:=h
 have hf:=Zia (k:=k) (fun i e hi=>(hent i e hi).1) (n:=7) (by omega) (by omega)
 have hik:MapKept.IsKey (.int .i64) (.int .i64 k):=rfl
 simp [Instr.lookup,run_underlying Zt3,MapKept.run_getObj_map hm,MapKept.run_checkKey ZhN hik,MapKept.run_findKey ZhN hf,ZBu,Result.andThen]
def ruN:Name:=⟨1,12⟩
def ruC (k:Int):C:=match (ruT k).2 with
 | some _=>.fn (ruT k).1 [(ruN,0)]
 | none=>.fn (ruT k).1 []
def ruB (k:Int):Zf:=match (ruT k).2 with
 | some s=>[(ruN,[.d (.int .i64 s)])]
 | none=>[]
def ruV (k:Int):V:=.ts [some 2,none] [.d (.list (LI .i64 (ruF k))),ruC k,.d (.bool true)]
def ZHZ:V:=.ts [some 2,none] [.nil,.d (.raw .nilFunc),.d (.bool false)]
theorem ZAW {ok:Zas} {w:World} {b:Nat} {l:List Int} (hb:w.heap[b]?=some (.cells (l.map (Value.int .i64)).toArray 3 (0,0))) (hok:∀ o,ok b o):Rep ok w (.slice (some ⟨b,0,none⟩) l.length l.length) (.list (LI .i64 l)):=by
 have hlen:(LI .i64 l).length=l.length:=ZgM
 have hcell:∀ (i:Nat) (y:D) (j:Nat) (z:D),(LI .i64 l)[i]?=some y→y.cells[j]?=some z→∃ n,z=D.int .i64 n∧l[i]?=some n∧j=0:=by
  intro i y j z hy hz
  simp only [LI,List.getElem?_map,Option.map_eq_some_iff] at hy
  obtain ⟨n,hn,rfl⟩:=hy
  cases j with
  | zero=>simp [D.cells] at hz; exact ⟨n,hz.symm,hn,rfl⟩
  | succ j=>simp [D.cells] at hz
 have:=Rep.list (ok:=ok) (w:=w) b 0 l.length 1 (LI .i64 l) (fun i _=>.int .i64 (l.getD i 0)) (by rw [hlen]; exact Nat.le_refl _) (of_eq_true ZmO) (fun i y j z hy hz=>?_) (fun i y j z hy hz=>?_)
 ·rw [hlen] at this; exact this
 ·obtain ⟨n,rfl,h1,rfl⟩:=hcell i y j z hy hz
  refine ⟨rfl,hok _,?_⟩
  rw [Zam hb]
  simp only [Nat.mul_one,Nat.zero_add,Nat.add_zero,List.getD,h1,Option.getD_some]
  simp [h1]
 ·obtain ⟨n,rfl,h1,rfl⟩:=hcell i y j z hy hz
  simp only [List.getD,h1,Option.getD_some]
  exact .int _ _
theorem ZBt {ok:Zas} {ℓ:Loc} {w w':World} (ha:∀ x o,ok x o→x < w.heap.size) (h:Below w.heap.size w w') {k:Int} {v:Value} (he:EntAt w.heap.size w' k v) :
  ∃ ok' ℓ',Post 1 ok ℓ [] [] w (ruV k) (ruB k) [] ok' ℓ' w' (.tuple #[v,.bool true]):=by
 obtain ⟨b,fv,hb,rfl,hl,hf⟩:=he
 unfold ZG4 at hf
 unfold ruV ruC ruB
 split at hf
 ·rename_i s hs
  obtain ⟨c,c1,c2,rfl,c4⟩:=hf
  let ok':Zas:=fun x o=>ok x o∨(w.heap.size≤x∧x≠c∧x < w'.heap.size)
  have hnot:∀ o,¬ ok' c o:=fun o ho=>by
   rcases ho with ho | ho
   ·have:=ha c o ho; omega
   ·exact ho.2.1 rfl
  have hi:(ℓ.setI ruN c).i ruN=c:=by simp [Loc.setI]
  have hown:∀ n x,Owns (ℓ.setI ruN c) [(ruN,[C.d (.int .i64 s)])] [] n x→n=ruN∧x=c:=by
   intro n x hn
   rcases hn with ⟨h1,h2⟩ | ⟨_,h1,_⟩ | ⟨_,h1,_⟩
   ·by_cases e:ruN=n
    ·subst e; exact ⟨rfl,by rw [h2,hi]⟩
    ·rw [Zh _ _ e] at h1; simp [lk] at h1
   ·simp [lk] at h1
   ·simp [lk] at h1
  refine ⟨ok',ℓ.setI ruN c,ZbF _ h,⟨fun n cs hn=>?_,by simp [lk],by simp [lk],fun n hn=>by simp [lk],fun n m x hn hm=>by rw [(hown n x hn).1,(hown m x hm).1],fun x o hx=>?_⟩,?_,⟨fun x o hx=>.inl hx,fun x o hx=>ZaO (h.block x (ha x o hx)) o⟩,fun x o hx=>?_,fun n x hn=>?_,fun n hn hnn=>?_⟩
  ·by_cases e:ruN=n
   ·subst e
    rw [Zl] at hn
    cases hn
    refine ⟨#[.int .i64 s],3,by rw [hi]; exact c4,⟨rfl,fun i u x hu hx=>?_⟩,by rw [hi]; exact hnot⟩
    match i with
    | 0=>cases hu; cases hx; exact ⟨.int _ _,rfl⟩
    | i+1=>simp at hu
   ·rw [Zh _ _ e] at hn; simp [lk] at hn
  ·rcases hx with hx | hx
   ·exact Nat.lt_of_lt_of_le (ha x o hx) h.size
   ·exact hx.2.2
  ·refine ⟨#[.slice (some ⟨b,0,none⟩) (ruF k).length (ruF k).length,.func (.func (ruT k).1) #[] #[.pointer (some ⟨c,0,none⟩)],.bool true],rfl,rfl,fun i u x hu hx=>?_⟩
   match i with
   | 0=>cases hu; cases hx; exact ⟨ZAW hl (fun o=>.inr ⟨by omega,fun e=>c2 e.symm,Z8 hl⟩),rfl⟩
   | 1=>cases hu; cases hx; show _=fnV _ _ _; simp [fnV,rcv,fnP,hi]
   | 2=>cases hu; cases hx; exact ⟨.bool _,rfl⟩
   | i+3=>simp at hu
  ·rcases hx with hx | hx
   ·exact .inl hx
   ·exact .inr (.inl hx.1)
  ·rw [(hown n x hn).2]
   exact .inl (by omega)
  ·by_cases e:n=ruN
   ·subst e
    exact absurd ⟨by simp [lk],by simp [lk],.inl (by simp [lk])⟩ hnn
   ·exact ⟨.setI c e,fun _ _=>⟨by simp [Loc.setI,e],rfl,rfl⟩⟩
 ·rename_i hs
  subst hf
  have hal:=Zcz ha h
  refine ⟨Zd5 ok w w',ℓ,ZbF _ h,ZhH hal,?_,Zd6 ha h,fun x o hx=>hx.imp id (fun h=>.inl h.1),fun n x hn=>(ZiL hn).elim,fun n _ _=>⟨.refl ℓ n,fun _ _=>⟨rfl,rfl,rfl⟩⟩⟩
  refine ⟨#[.slice (some ⟨b,0,none⟩) (ruF k).length (ruF k).length,.func (.func (ruT k).1) #[] #[],.bool true],rfl,rfl,fun i u x hu hx=>?_⟩
  match i with
  | 0=>cases hu; cases hx; exact ⟨ZAW hl (fun o=>.inr ⟨by omega,Z8 hl⟩),rfl⟩
  | 1=>cases hu; cases hx; show _=fnV _ _ _; simp [fnV,rcv,fnP]
  | 2=>cases hu; cases hx; exact ⟨.bool _,rfl⟩
  | i+3=>simp at hu
theorem Zxj {ok:Zas} {ℓ:Loc} {w w':World} (ha:∀ x o,ok x o→x < w.heap.size) (h:Below w.heap.size w w') :
  ∃ ok' ℓ',Post 1 ok ℓ [] [] w ZHZ [] [] ok' ℓ' w' (.tuple #[.agg #[.slice none 0 0,.nilFunc],.bool false]):=by
 have hal:=Zcz ha h
 refine ⟨Zd5 ok w w',ℓ,ZbF _ h,ZhH hal,?_,Zd6 ha h,fun x o hx=>hx.imp id (fun h=>.inl h.1),fun n x hn=>(ZiL hn).elim,fun n _ _=>⟨.refl ℓ n,fun _ _=>⟨rfl,rfl,rfl⟩⟩⟩
 refine ⟨#[.slice none 0 0,.nilFunc,.bool false],rfl,rfl,fun i u x hu hx=>?_⟩
 match i with
 | 0=>cases hu; cases hx; exact ⟨none,rfl⟩
 | 1=>cases hu; cases hx; exact ⟨.raw _,rfl⟩
 | 2=>cases hu; cases hx; exact ⟨.bool _,rfl⟩
 | i+3=>simp at hu
theorem SimW.put_free {X:Ctx} {S:Start} {ok:Zas} {ℓ:Loc} {st:St} {a:Act} {w:World} (h:SimW X S ok ℓ st a w) {d:Nat} (u:Value) (hd:lk st.t d=none):SimW X S ok ℓ st (a.put (some d) u) w:=by
 refine ⟨h.defers,by simp [Act.put,h.size],fun t v hv=>?_,h.mem,h.ext,h.sub,h.sup,h.own,h.names,h.inH⟩
 obtain ⟨u',h1,h2⟩:=h.tmps t v hv
 refine ⟨u',?_,h2⟩
 have hne:d≠t:=fun e=>by subst e; rw [hd] at hv; cases hv
 simp [Act.put,Array.getElem?_setIfInBounds_ne hne,h1]
section
variable {T:TypeId→Option TI} {n m:Nat} {md:Nat→Nat} {G:FuncId→List V→Zf→Zr→Name→Option Ent} {ops:Array Oper} {o0 o1 o2:Oper} {S:Start} {st:St} {a:Act} {w:World} {k:Int} {Q:Exit→Act→World→Prop}
theorem ZFT (h0:ops[0]?=some o0) (h1:ops[1]?=some o1) (h2:ops[2]?=some o2) (g0:o0.guard=none) (g1:o1.guard=none) (g2:o2.guard=none) (d0:o0.dst=some 10) (d1:o1.dst=some 11) (d2:o2.dst=some 12)
  (q0:o0.op=.call ⟨.value (.func 50),#[],#[]⟩) (q1:o1.op=.move (.tmp 1)) (q2:o2.op=.lookup 146 (.tmp 10) (.tmp 11) true) (hn:13≤a.tmps.size) (hk:a.tmps[1]?=some (.int .i64 k))
  (hK:∀ w' u,MapAt w w' 7→(Instr.lookup 146 (.map (some w.heap.size)) (.int .i64 k) true).run Tryz.prog w'=.ok u w'→wpOps Tryz.prog ops Q (List.range' 3 m) (((a.put (some 10) (.map (some w.heap.size))).put (some 11) (.int .i64 k)).put (some 12) u) w'):wpOps Tryz.prog ops Q (List.range' 0 (m+3)) a w:=by
 have er:List.range' 0 (m+3)=0::1::2::List.range' 3 m:=by simp [List.range'_succ]
 rw [er,wpOps_cons]
 unfold wpOp
 simp only [h0]
 rw [if_pos (by simp [Region.wanted,g0])]
 left
 unfold Oper.wp
 have e0:(execOp a.eval o0).run Tryz.prog w=.ok (.enter 50 #[]) w:=by
  have hname:Tryz.f50.name≠ "runtime.NumGoroutine":=by decide
  have hbody:Tryz.f50.body≠none:=fun h=>by cases h
  simp only [execOp,q0,resolve,Act.eval,Deferred.ofValue]
  have hb:∀ d:Deferred,((pure d:Sem Deferred) >>= fun d=>invoke d.target d.args)=invoke d.target d.args:=fun _=>rfl
  rw [hb]
  simp [invoke,callFunc,Tryz.func50,hname,hbody]
 rw [e0,Oper.upon_enter]
 refine (ZsW w).mono ?_
 rintro e w' ⟨rfl,hmap⟩
 show wpOps Tryz.prog ops Q (1::2::List.range' 3 m) (a.put o0.dst _) w'
 rw [d0,wpOps_cons]
 unfold wpOp
 simp only [h1]
 rw [if_pos (by simp [Region.wanted,g1])]
 left
 refine Zu (u:=.int .i64 k) (w':=w') ?_ ?_
 ·simp [execOp,q1,Act.eval,Act.put,hk]
 rw [d1,wpOps_cons]
 unfold wpOp
 simp only [h2]
 rw [if_pos (by simp [Region.wanted,g2])]
 left
 have e2:∀ u,(Instr.lookup 146 (.map (some w.heap.size)) (.int .i64 k) true).run Tryz.prog w'=.ok u w'→(execOp ((a.put (some 10) (.map (some w.heap.size))).put (some 11) (.int .i64 k)).eval o2).run Tryz.prog w'=.ok (.value u) w':=fun u hu=>by
  have hs10:10 < a.tmps.size:=by omega
  have hs11:11 < a.tmps.size:=by omega
  simp [execOp,q2,Act.eval,Act.put,Array.getElem?_setIfInBounds,hs10,hs11,hu,Result.andThen]
 by_cases hkk:1≤k∧k≤7
 ·obtain ⟨v,hv,_⟩:=Zqh hmap hkk
  refine Zu (e2 _ hv) ?_
  rw [d2]
  exact hK w' _ hmap hv
 ·have hv:=Zqi hmap (k:=k) (by omega)
  refine Zu (e2 _ hv) ?_
  rw [d2]
  exact hK w' _ hmap hv
theorem ZLZ (k:Int):ZC2 1 (ruV k) (ruB k) []:=by
 unfold ruV ruC ruB
 split
 ·refine ⟨fun n hn=>?_,fun p hp=>?_,by simp⟩
  ·simp [V.has,C.has] at hn
   rw [hn]
   exact Nat.le_refl _
  ·simp only [List.mem_singleton] at hp
   subst hp
   exact ⟨Nat.le_refl _,fun c hc n hn=>by simp only [List.mem_singleton] at hc; subst hc; exact hn.elim⟩
 ·exact ⟨fun n hn=>by simp [V.has,C.has] at hn,by simp,by simp⟩
theorem ZH0 {k:Int} {n:Name} (h:(lk (ruB k) n).isSome=true∨(lk ([]:Zr) n).isSome=true):n=ruN:=by
 rcases h with h | h
 ·unfold ruB at h
  split at h
  ·by_cases e:ruN=n
   ·exact e.symm
   ·rw [Zh _ _ e] at h; simp [lk] at h
  ·simp [lk] at h
 ·simp [lk] at h
theorem ZFS (h0:ops[0]?=some o0) (h1:ops[1]?=some o1) (h2:ops[2]?=some o2) (g0:o0.guard=none) (g1:o1.guard=none) (g2:o2.guard=none) (d0:o0.dst=some 10) (d1:o1.dst=some 11) (d2:o2.dst=some 12)
  (q0:o0.op=.call ⟨.value (.func 50),#[],#[]⟩) (q1:o1.op=.move (.tmp 1)) (q2:o2.op=.lookup 146 (.tmp 10) (.tmp 11) true) (hn:13≤n) (hc:lk st.t 1=some (vI .i64 k)) (f10:lk st.t 10=none) (f11:lk st.t 11=none) (hfr:FreeB st ruN)
  (hK1:(1≤k∧k≤7)→∀ a' w',Sim ⟨Tryz.prog,T,n,1,md,G⟩ S ⟨(12,ruV k)::st.t,ruB k++st.b,st.k⟩ a' w'→wpOps Tryz.prog ops Q (List.range' 3 m) a' w')
  (hK0:(k < 1∨7 < k)→∀ a' w',Sim ⟨Tryz.prog,T,n,1,md,G⟩ S ⟨(12,ZHZ)::st.t,st.b,st.k⟩ a' w'→wpOps Tryz.prog ops Q (List.range' 3 m) a' w')
  (hs:Sim ⟨Tryz.prog,T,n,1,md,G⟩ S st a w):wpOps Tryz.prog ops Q (List.range' 0 (m+3)) a w:=by
 obtain ⟨ok,ℓ,hs⟩:=hs
 obtain ⟨u1,hu1,hr1⟩:=hs.tmps 1 _ hc
 obtain ⟨r1,_⟩:=hr1
 cases r1
 refine ZFT h0 h1 h2 g0 g1 g2 d0 d1 d2 q0 q1 q2 (by have e:=hs.size; show 13≤a.tmps.size; rw [e]; exact hn) hu1 (fun w' u hmap hu=>?_)
 have hd12:∀ d,some 12=some d→d < n:=fun d hd=>by cases hd; omega
 by_cases hkk:1≤k∧k≤7
 ·obtain ⟨v,hv,he⟩:=Zqh hmap hkk
  rw [hv] at hu
  cases hu
  obtain ⟨ok',ℓ',hp⟩:=ZBt hs.mem.alive hmap.1 he
  obtain ⟨hs',hrv⟩:=ZhA hs (b:=[]) (k:=[]) (by simp [lk]) (by simp [lk]) (ZLZ k) hp (by simp [lk]) (by simp [lk]) (fun n hn=>.inr (.inr (by rw [ZH0 hn]; exact ⟨rfl,hfr.free⟩)))
  exact hK1 hkk _ _ (Sim.fin ((hs'.put_free _ f10).put_free _ f11) (dst:=some 12) (gd:=none) hd12 rfl (fun _=>hrv))
 ·have hv:=Zqi hmap (k:=k) (by omega)
  rw [hv] at hu
  cases hu
  obtain ⟨ok',ℓ',hp⟩:=Zxj (ok:=ok) (ℓ:=ℓ) hs.mem.alive hmap.1
  obtain ⟨hs',hrv⟩:=ZhA hs (b:=[]) (k:=[]) (by simp [lk]) (by simp [lk]) (⟨fun n hn=>by simp [ZHZ,V.has,C.has] at hn,by simp,by simp⟩:ZC2 1 ZHZ [] []) hp (by simp [lk]) (by simp [lk]) (fun n hn=>by simp [lk] at hn)
  exact hK0 (by omega) _ _ (Sim.fin ((hs'.put_free _ f10).put_free _ f11) (dst:=some 12) (gd:=none) hd12 rfl (fun _=>hrv))
end
end Go.Vam
