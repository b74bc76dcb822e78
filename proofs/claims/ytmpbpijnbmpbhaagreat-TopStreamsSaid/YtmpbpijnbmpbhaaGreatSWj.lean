/- A part of the proof. Conditions: none. -/
import Derived.Test.YtmpbpijnbmpbhaaGreatSWh
import Derived.MapKept
set_option linter.unusedVariables false
set_option linter.defProp false
set_option linter.unusedSimpArgs false
set_option maxRecDepth 40000
set_option maxHeartbeats 4000000
namespace Go.Vam
open Go.Proofs Go.RowKit Go.Lib
def gE1:=And.intro (@Zax) (And.intro (@Zck) (And.intro (@ZaD) (And.intro (@ZaE) (And.intro (@Zcj) (@Z6)))))
def doA (x:Sm) (k:Int):Bool:=if k=1 then x.st==2 || (x.st==1 && (x.di==2 || x.s0==0)) else if k=2 then x.st==3 else if k=3 then x.st==4 else if k=4 then x.di==1 && decide (2≤x.st) && decide (x.st≤4) else if k=5 then decide (x.st≤5) else if k=6 then x.st != 7 else decide (x.st≤4)
def doE (x:Sm) (k:Int):Int:=if (!smV x || decide (k < 1) || decide (7 < k))=true then 1 else if doA x k=false then 9 else if k=1∧x.st=2∧x.di=1∧smN x < x.s0 then 4 else 0
def doT (x:Sm) (k:Int):Int:=if k=1 then 3 else if k=2 then 4 else if k=3 then 3 else if k=4 then 5 else if k=5 then 6 else if k=6 then 7 else if x.st=2 then 1 else x.st
def ZuE (x:Sm) (s:Int):Sm:=⟨x.di,s,x.q,x.s0,x.r,x.g,x.wr,x.pl,x.mi⟩
def doR (x:Sm) (k:Int):Sm:=if doE x k=0 then (if 5≤k then smE (ZuE x (doT x k)) else ZuE x (doT x k)) else sm0
theorem do1 {x:Sm} {k:Int} (h:smV x=false):doE x k=1:=by unfold doE; rw [h]; rfl
theorem ZKH {x:Sm} {k:Int} (h:smV x=true) (hk:1≤k∧k≤7):¬ (!smV x || decide (k < 1) || decide (7 < k))=true:=by
 simp [h]
 omega
theorem do9 {x:Sm} {k:Int} (h:smV x=true) (hk:1≤k∧k≤7) (ha:doA x k=false):doE x k=9:=by unfold doE; rw [if_neg (ZKH h hk),if_pos ha]
theorem do4 {x:Sm} {k:Int} (h:smV x=true) (hk:1≤k∧k≤7) (ha:doA x k=true) (hs:k=1∧x.st=2∧x.di=1∧smN x < x.s0):doE x k=4:=by unfold doE; rw [if_neg (ZKH h hk),if_neg (by rw [ha]; decide),if_pos hs]
theorem do0 {x:Sm} {k:Int} (h:smV x=true) (hk:1≤k∧k≤7) (ha:doA x k=true) (hs:¬ (k=1∧x.st=2∧x.di=1∧smN x < x.s0)):doE x k=0:=by unfold doE; rw [if_neg (ZKH h hk),if_neg (by rw [ha]; decide),if_neg hs]
theorem doS {x:Sm} {k e:Int} (he:e≠0) (h:doE x k=e):doR x k=sm0:=by unfold doR; rw [h,if_neg he]
def ruF (k:Int):List Int:=if k=1 then [1,2] else if k=2 then [3] else if k=3 then [4] else if k=4 then [2,3,4] else if k=5 then [1,2,3,4,5] else if k=6 then [1,2,3,4,5,6] else if k=7 then [1,2,3,4] else []
def ruT (k:Int):FuncId×Option Int:=if k=1 then (197,some 3) else if k=2 then (197,some 4) else if k=3 then (197,some 3) else if k=4 then (197,some 5) else if k=5 then (198,some 6) else if k=6 then (198,some 7) else (128,none)
def ZMt (m:Nat) (w':World) (b:Nat) (t:FuncId×Option Int) (v:Value):Prop:=match t.2 with
 | some s=>∃ c,m < c∧c≠b∧v=.func (.func t.1) #[] #[.pointer (some ⟨c,0,none⟩)]∧w'.heap[c]?=some (.cells #[.int .i64 s] 3 (0,0))
 | none=>v=.func (.func t.1) #[] #[]
def EntAt (m:Nat) (w':World) (k:Int) (v:Value):Prop:=∃ b fv,m < b∧v=.agg #[.slice (some ⟨b,0,none⟩) (ruF k).length (ruF k).length,fv]∧w'.heap[b]?=some (.cells ((ruF k).map (Value.int .i64)).toArray 3 (0,0))∧ZMt m w' b (ruT k) fv
def MapAt (w0 w':World) (n:Nat):Prop:=Below w0.heap.size w0 w'∧w0.heap.size < w'.heap.size∧∃ es:Array MapEntry,w'.heap[w0.heap.size]?=some (.map es n)∧es.size=n∧∀ (i:Nat) (e:MapEntry),es[i]?=some e→e.key=.int .i64 ((i:Int)+1)∧EntAt w0.heap.size w' ((i:Int)+1) e.val
theorem EntAt.keep {m:Nat} {w1 w2:World} {k:Int} {v:Value} (h:EntAt m w1 k v) (hk:∀ j,j≠m→∀ o,w1.heap[j]?=some o→w2.heap[j]?=some o):EntAt m w2 k v:=by
 obtain ⟨b,fv,h1,h2,h3,h4⟩:=h
 refine ⟨b,fv,h1,h2,hk b (by omega) _ h3,?_⟩
 unfold ZMt at h4 ⊢
 split
 ·rename_i s hs
  rw [hs] at h4
  obtain ⟨c,c1,c2,c3,c4⟩:=h4
  exact ⟨c,c1,c2,c3,hk c (by omega) _ c4⟩
 ·rename_i hs
  rw [hs] at h4
  exact h4
theorem MapAt.first (w:World):MapAt w (w.alloc (.map #[] 0)) 0:=by
 have h:=MapKept.heap_alloc w (.map #[] 0)
 refine ⟨(Below.refl _ w).alloc (Nat.le_refl _) _,by simp,#[],h.1,rfl,fun i e h=>by simp at h⟩
section
variable {T:TypeId→Option TI} {n m:Nat} {md:Nat→Nat} {G:FuncId→List V→Zf→Zw→Name→Option Ent} {ops:Array Oper} {o0 o1 o2:Oper} {S:Start} {st:St} {a:Act} {w:World} {k:Int} {Q:Exit→Act→World→Prop}
end
end Go.Vam
