/- A part of the proof. Conditions: none. -/
import Derived.Test.YtmpbpijnbmpbhaaGreatBVl
import Derived.Below
import Derived.Laws.AppendOwn
section
set_option linter.unusedVariables false
set_option linter.unusedSimpArgs false
namespace Go.Vam
open Go.RowKit

theorem ZbF {w w':World} (M:Nat→Prop) (h:Below w.heap.size w w'):Ext M w w':=⟨h.os,h.tape,h.output,h.size,fun i hi _=>h.block i hi⟩

theorem ZiL {ℓ:Loc} {n:Name} {x:Nat} (h:Owns ℓ [] [] n x):False:=by
 rcases h with ⟨h,_⟩ | ⟨_,h,_⟩ | ⟨_,h,_⟩ <;> simp [lk] at h
theorem ZhH {ok:Zas} {ℓ:Loc} {w:World} (h:∀ x o,ok x o→x < w.heap.size):MemOK ok ℓ [] [] w :=
 ⟨by simp [lk],by simp [lk],by simp [lk],by simp [lk],fun n m x hn=>(ZiL hn).elim,h⟩

def Zd5 (ok:Zas) (w w':World):Zas:=fun x o=>ok x o∨(w.heap.size≤x∧x < w'.heap.size)
theorem Zd6 {ok:Zas} {w w':World} (ha:∀ x o,ok x o→x < w.heap.size) (h:Below w.heap.size w w'):Chg ok (Zd5 ok w w') w w' :=
 ⟨fun x o hx=>.inl hx,fun x o hx=>ZaO (h.block x (ha x o hx)) o⟩
theorem Zcz {ok:Zas} {w w':World} (ha:∀ x o,ok x o→x < w.heap.size) (h:Below w.heap.size w w'):∀ x o,Zd5 ok w w' x o→x < w'.heap.size:=by
 intro x o hx
 rcases hx with hx | hx
 ·exact Nat.lt_of_lt_of_le (ha x o hx) h.size
 ·exact hx.2

theorem Zea {ok:Zas} {ℓ:Loc} {w w':World} {u:Value} {r:V} (ha:∀ x o,ok x o→x < w.heap.size) (h:Below w.heap.size w w') (hr:RV (Zd5 ok w w') ℓ w' u r) :
  Post 0 ok ℓ [] [] w r [] [] (Zd5 ok w w') ℓ w' u :=
 ⟨ZbF _ h,ZhH (Zcz ha h),hr,Zd6 ha h,fun x o hx=>hx.imp id (fun h=>.inl h.1),fun n x hn=>(ZiL hn).elim,fun n _ _=>⟨.refl ℓ n,fun _ _=>⟨rfl,rfl,rfl⟩⟩⟩

theorem ZBj {ok:Zas} {w w':World} {e:TypeId} {v:Value} {k:IntKind} {l:List Int} (h:w'.ownsRow w.heap.size e 1 v l.length (l.map (Value.int k))):Rep (Zd5 ok w w') w' v (.list (LI k l)):=by
 obtain ⟨_,h | ⟨g,cap,cur,rfl,hb,hg,hn,hm,hs,ht⟩⟩:=h
 ·obtain ⟨rfl,h0⟩:=h
  have:l=[]:=List.length_eq_zero_iff.1 h0
  subst this
  exact .nil _ _
 ·have hlen:(LI k l).length=l.length:=ZgM
  have hgl:=Z8 hg
  have hcell:∀ (i:Nat) (y:D) (j:Nat) (z:D),(LI k l)[i]?=some y→y.cells[j]?=some z→∃ n,z=D.int k n∧l[i]?=some n∧j=0:=by
   intro i y j z hy hz
   simp only [LI,List.getElem?_map,Option.map_eq_some_iff] at hy
   obtain ⟨n,hn,rfl⟩:=hy
   cases j with
   | zero=>simp [D.cells] at hz; exact ⟨n,hz.symm,hn,rfl⟩
   | succ j=>simp [D.cells] at hz
  have:=Rep.list (ok:=Zd5 ok w w') (w:=w') g 0 cap 1 (LI k l) (fun i _=>.int k (l.getD i 0)) (by rw [hlen]; exact hn) (of_eq_true ZmO) (fun i y j z hy hz=>?_) (fun i y j z hy hz=>?_)
  ·rw [hlen] at this; exact this
  ·obtain ⟨n,rfl,h1,rfl⟩:=hcell i y j z hy hz
   have hi:=(List.getElem?_eq_some_iff.1 h1).1
   refine ⟨rfl,.inr ⟨hb,hgl⟩,?_⟩
   rw [Zam hg]
   have h2:(cur.toList.take (l.length*1))[i]?=(l.map (Value.int k))[i]?:=by rw [ht]
   rw [List.getElem?_take_of_lt (by omega),List.getElem?_map,h1] at h2
   simp only [Nat.mul_one,Nat.zero_add,Nat.add_zero,List.getD,h1,Option.getD_some]
   rw [← Array.getElem?_toList,h2]
   rfl
  ·obtain ⟨n,rfl,h1,rfl⟩:=hcell i y j z hy hz
   simp only [List.getD,h1,Option.getD_some]
   exact .int _ _

theorem ZwP {ok:Zas} {w:World} {v:Value} {k:IntKind} {l:List Int} (h:Rep ok w v (.list (LI k l))) :
  ∃ a c,v=.slice a l.length c∧(l=[]∨∃ b o,a=some ⟨b,o,none⟩∧∀ j,j < l.length→w.cell? ⟨b,o+j,none⟩=some (.int k (l.getD j 0))):=by
 obtain ⟨a,c,rfl,hh⟩:=h.list_inv
 rw [ZgM]
 refine ⟨a,c,rfl,?_⟩
 rcases hh with hh | ⟨b,o,sz,u,rfl,h1,h2,h3⟩
 ·left
  cases l with
  | nil=>rfl
  | cons x l=>cases hh
 ·by_cases h0:l=[]
  ·exact .inl h0
  ·refine .inr ⟨b,o,rfl,fun j hj=>?_⟩
   have hx:(LI k l)[j]?=some (.int k l[j]):=by simp [LI,hj]
   have hsz:sz=1:=by
    have:=h2 _ (List.mem_of_getElem? hx)
    simpa [D.cells] using this.symm
   subst hsz
   obtain ⟨_,_,h5,h6⟩:=h3 j _ 0 _ hx (by simp [D.cells]; rfl)
   rw [Nat.mul_one,Nat.add_zero] at h5
   rw [h5,h6.int_inv]
   simp [List.getD,List.getElem?_eq_getElem hj]

theorem Zg2 {P:Program} {f:FuncId} {fn:Func} {c:Code} {k:IntKind} {e:TypeId} (hf:P.funcs[f]?=some fn) (hb:fn.body=some c) (hname:(fn.name == "runtime.NumGoroutine")=false) (l:List Int)
  (h0:∀ (n c:Nat) (w:World),Calls P f #[.slice none n c] w fun e w'=>e=.returned (.slice none 0 0)∧w'=w)
  (h1:∀ (b o c:Nat) (w:World),(∀ j,j < l.length→w.cell? ⟨b,o+j,none⟩=some (.int k (l.getD j 0)))→Calls P f #[.slice (some ⟨b,o,none⟩) l.length c] w fun en w'=>∃ v',en=.returned v'∧w'.ownsRow w.heap.size e 1 v' l.length (l.map (Value.int k))∧Below w.heap.size w w')
  (h2:∀ (a:Addr) (c:Nat) (w:World),Calls P f #[.slice (some a) 0 c] w fun en w'=>∃ v',en=.returned v'∧w'.ownsRow w.heap.size e 1 v' 0 []∧Below w.heap.size w w') :
  Spec P 0 f [vL (LI k l)] [] [] (vL (LI k l)) [] []:=by
 refine ⟨⟨fun n hn=>hn.elim,by simp,by simp⟩,fun w ok ℓ us hm hus=>.inl ⟨?_,?_⟩⟩
 ·simp only [beq_eq_false_iff_ne,ne_eq] at hname
  simp [callFunc,hf,hname,hb]
 obtain ⟨u,rfl⟩:∃ u,us=#[u]:=by
  have:=hus.1
  simp at this
  refine ⟨us[0],?_⟩
  apply Array.ext <;> simp [this]
  intro i hi
  have:i=0:=by omega
  subst this
  rfl
 have hu:=hus.2 0 u _ (by simp) rfl
 obtain ⟨a,c,rfl,hh⟩:=ZwP hu.1
 have halive:=hm.alive
 cases a with
 | none =>
  have hl:l=[]:=by rcases hh with h | ⟨_,_,h,_⟩; exact h; cases h
  subst hl
  refine (h0 _ c w).mono ?_
  rintro en w' ⟨rfl,rfl⟩
  exact ⟨_,_,_,rfl,Zea halive (Below.refl _ _) ⟨.nil _ _,rfl⟩⟩
 | some a =>
  rcases hh with rfl | ⟨b,o,hab,hc⟩
  ·refine (h2 a c w).mono ?_
   rintro en w' ⟨v',rfl,hr,hbl⟩
   exact ⟨_,_,_,rfl,Zea halive hbl ⟨ZBj (l:=[]) hr,rfl⟩⟩
  ·cases hab
   refine (h1 b o c w hc).mono ?_
   rintro en w' ⟨v',rfl,hr,hbl⟩
   exact ⟨_,_,_,rfl,Zea halive hbl ⟨ZBj hr,rfl⟩⟩

def ZNt (a:Option Addr) (w:World) (en:Ending) (w':World):Prop:=(en=.returned (.slice a 0 0)∧w'=w)∨
   ∃ g cs T,en=.returned (.slice (some ⟨w.heap.size,0,none⟩) 0 g)∧w'.heap=w.heap.push (.cells cs T (0,0))∧cs.size=g∧w'.os=w.os∧w'.tape=w.tape∧w'.output=w.output
theorem ZqK {P:Program} {f:FuncId} {fn:Func} {c:Code} (hf:P.funcs[f]?=some fn) (hb:fn.body=some c) (hname:(fn.name == "runtime.NumGoroutine")=false) (n:Nat)
  (h:∀ (a:Option Addr) (w:World),Calls P f #[.slice a 0 0,.int .i64 n] w (ZNt a w)) :
  Spec P 0 f [.c .nil,vI .i64 n] [] [] (.c (.own ⟨0,9⟩ [])) [] [(⟨0,9⟩,⟨false,1,[]⟩)]:=by
 refine ⟨⟨fun m hm=>by cases hm; exact Nat.le_refl _,by simp,by simp⟩,fun w ok ℓ us hm hus=>.inl ⟨?_,?_⟩⟩
 ·simp only [beq_eq_false_iff_ne,ne_eq] at hname
  simp [callFunc,hf,hname,hb]
 obtain ⟨u,v,rfl⟩:∃ u v,us=#[u,v]:=by
  have:=hus.1
  simp at this
  refine ⟨us[0],us[1],?_⟩
  apply Array.ext
  ·simp [this]
  ·intro i hi hi2
   rcases i with _ | _ | i
   ·rfl
   ·rfl
   ·simp at hi2; omega
 obtain ⟨a,rfl⟩:=hus.2 0 u _ (by simp) rfl
 have hv:=(hus.2 1 v _ (by simp) rfl).1.int_inv
 subst hv
 have halive:=hm.alive
 have hsets:∀ (x:Value) (m:Name),m≠⟨0,9⟩→(⟨ℓ.i,fun k=>if k=⟨0,9⟩ then x else ℓ.h k,ℓ.z⟩:Loc).h m=ℓ.h m:=fun x m hne=>by simp [hne]
 refine (h a w).mono ?_
 rintro en w' (⟨rfl,rfl⟩ | ⟨g,cs,T,rfl,hh,hcs,ho,ht,hou⟩)
 ·refine ⟨_,Zd5 ok w' w',⟨ℓ.i,fun k=>if k=⟨0,9⟩ then .slice a 0 0 else ℓ.h k,ℓ.z⟩,rfl,?_⟩
  refine ⟨.refl _ _,⟨by simp [lk],fun m tk hmk _=>?_,fun m tk hmk ha=>?_,by simp [lk],fun m m' x hx hx'=>?_,Zcz halive (Below.refl _ _)⟩,?_,Zd6 halive (Below.refl _ _),fun x o hx=>hx.imp id (fun h=>.inl h.1),fun m x hx=>?_,fun m _ hne=>?_⟩
  ·simp only [lk] at hmk
   split at hmk
   ·rename_i e; cases hmk; subst e
    exact ⟨by simpa using Rep.nil a 0,by simp,a,0,by simp,.inl rfl⟩
   ·cases hmk
  ·simp only [lk] at hmk
   split at hmk
   ·cases hmk; cases ha
   ·cases hmk
  ·rcases hx with ⟨h,_⟩ | ⟨tk,h,h',_⟩ | ⟨tk,h,h',h''⟩
   ·simp [lk] at h
   ·simp only [lk] at h; split at h <;> cases h; cases h'
   ·simp only [lk] at h; split at h <;> cases h
    rename_i e; subst e
    cases a <;> simp [Zl2] at h''
  ·exact ⟨by simpa using Rep.nil a 0,by simp,fun _=>by simp⟩
  ·rcases hx with ⟨h,_⟩ | ⟨tk,h,h',_⟩ | ⟨tk,h,h',h''⟩
   ·simp [lk] at h
   ·simp only [lk] at h; split at h <;> cases h; cases h'
   ·simp only [lk] at h; split at h <;> cases h
    rename_i e; subst e
    cases a <;> simp [Zl2] at h''
  ·have hm9:m≠⟨0,9⟩:=fun e=>hne (by subst e; exact ⟨rfl,rfl,.inr (by simp [lk])⟩)
   exact ⟨⟨rfl,rfl,by simp [hm9],fun _=>by simp [hm9]⟩,fun _ _=>⟨rfl,rfl,by simp [hm9]⟩⟩
 ·have hsz:w'.heap.size=w.heap.size+1:=by rw [hh]; simp
  have hbl:Below w.heap.size w w':=⟨ho,ht,hou,by omega,fun k hk=>by rw [hh,Array.getElem?_push,if_neg (by omega)]⟩
  have hnew:w'.heap[w.heap.size]?=some (.cells cs T (0,0)):=by rw [hh]; simp
  have hok:∀ x o,ok x o→x < w'.heap.size:=fun x o hx=>by have:=halive x o hx; omega
  refine ⟨_,ok,⟨ℓ.i,fun k=>if k=⟨0,9⟩ then .slice (some ⟨w.heap.size,0,none⟩) 0 g else ℓ.h k,ℓ.z⟩,rfl,?_⟩
  refine ⟨ZbF _ hbl,⟨by simp [lk],fun m tk hmk _=>?_,fun m tk hmk ha=>?_,by simp [lk],fun m m' x hx hx'=>?_,hok⟩,?_,⟨fun _ _ h=>h,fun x o hx=>ZaO (hbl.block x (halive x o hx)) o⟩,fun x o hx=>.inl hx,fun m x hx=>?_,fun m _ hne=>?_⟩
  ·simp only [lk] at hmk
   split at hmk
   ·rename_i e; cases hmk; subst e
    refine ⟨by simpa using Rep.nil _ _,by simp,some ⟨w.heap.size,0,none⟩,g,by simp,.inr ⟨w.heap.size,cs,T,rfl,hnew,by simp [hcs],fun o _ hx=>?_⟩⟩
    have:=halive _ _ hx
    omega
   ·cases hmk
  ·simp only [lk] at hmk
   split at hmk
   ·cases hmk; cases ha
   ·cases hmk
  ·have key:∀ y,Owns ⟨ℓ.i,fun k=>if k=⟨0,9⟩ then .slice (some ⟨w.heap.size,0,none⟩) 0 g else ℓ.h k,ℓ.z⟩ [] [(⟨0,9⟩,⟨false,1,[]⟩)] y x→y=⟨0,9⟩:=by
    intro y hy
    rcases hy with ⟨h,_⟩ | ⟨tk,h,h',_⟩ | ⟨tk,h,h',h''⟩
    ·simp [lk] at h
    ·simp only [lk] at h; split at h <;> cases h; cases h'
    ·simp only [lk] at h; split at h <;> cases h
     rename_i e; exact e.symm
   rw [key m hx,key m' hx']
  ·exact ⟨by simpa using Rep.nil _ _,by simp,fun _=>by simp⟩
  ·rcases hx with ⟨h,_⟩ | ⟨tk,h,h',_⟩ | ⟨tk,h,h',h''⟩
   ·simp [lk] at h
   ·simp only [lk] at h; split at h <;> cases h; cases h'
   ·simp only [lk] at h; split at h <;> cases h
    rename_i e; subst e
    by_cases hg:g=0
    ·simp [Zl2,hg] at h''
    ·simp [Zl2,hg] at h''; left; omega
  ·have hm9:m≠⟨0,9⟩:=fun e=>hne (by subst e; exact ⟨rfl,rfl,.inr (by simp [lk])⟩)
   exact ⟨⟨rfl,rfl,by simp [hm9],fun _=>by simp [hm9]⟩,fun _ _=>⟨rfl,rfl,by simp [hm9]⟩⟩
theorem Zk4 {P:Program} {ops:Array Oper} {rest:List Oper} {o:Oper} {a:Act} {w w':World} {Q:Exit→Act→World→Prop} {u p q:Value} {x y:Operand} {t t':TypeId} (hg:o.guard=none)
  (ho:o.op=.call ⟨.builtin .append,#[x,y],#[t,t']⟩) (hp:a.eval x=p) (hq:a.eval y=q) (hr:∀ ty,(Builtin.append_ #[t,t'] ty #[p,q]).run P w=.ok u w') (h:wpList P ops Q rest (a.put o.dst u) w'):wpList P ops Q (o::rest) a w:=by
 refine wpList_plain hg fun _ hK=>Zu (u:=u) (w':=w') ?_ (hK _ _ h)
 simp [execOp,ho,resolve,builtin,invoke,hp,hq,hr]
end Go.Vam
end
section
set_option linter.unusedVariables false
namespace Go.Vam
theorem CallsF.mono {P:Program} {f:FuncId} {us:Array Value} {w:World} {R R':Ending→World→Prop} (h:CallsF P f us w R) (hr:∀ e w',R e w'→R' e w'):CallsF P f us w R':=by
 rcases h with ⟨h1,h2⟩ | ⟨v,w',h1,h2⟩
 ·exact .inl ⟨h1,h2.mono hr⟩
 ·exact .inr ⟨v,w',h1,hr _ _ h2⟩

end Go.Vam
end
section
set_option linter.unusedVariables false
namespace Go.Vam
open Go.RowKit

theorem ZfX {ok:Zas} {w:World} {v:Value} {l:List D} {sz:Nat} (h:Rep ok w v (.list l)) (hsz:∀ x∈l,x.cells.length=sz) (h0:0 < sz) :
  ∃ a c,v=.slice a l.length c∧(l=[]∨∃ b o,∃ vs:List Value,a=some ⟨b,o,none⟩∧vs.length=l.length*sz∧(∀ j u,vs[j]?=some u→w.cell? ⟨b,o+j,none⟩=some u)∧(∀ u∈vs,u.oneCell'=true)∧
   Holds ok w sz l (fun i=>vs[i]?)):=by
 obtain ⟨a,c,rfl,hh⟩:=h.holds
 refine ⟨a,c,rfl,?_⟩
 rcases hh with hh | ⟨b,o,sz',rfl,hc,hhold,hok⟩
 ·exact .inl hh
 ·by_cases hl:l=[]
  ·exact .inl hl
  ·have hlp:=List.length_pos_iff.2 hl
   have hss:sz'=sz:=by
    have hm:l[0]∈l:=List.getElem_mem hlp
    rw [← hhold.1 _ hm,hsz _ hm]
   subst hss
   have hsome:∀ k,k < l.length*sz'→∃ u y,w.cell? ⟨b,o+k,none⟩=some u∧Rep ok w u y∧y.sc=true:=by
    intro k hk
    have hi:k / sz' < l.length:=Nat.div_lt_of_lt_mul (by rw [Nat.mul_comm]; exact hk)
    have hj:=Nat.mod_lt k h0
    have hx:l[k / sz']?=some l[k / sz']:=List.getElem?_eq_getElem hi
    have hcl:=hhold.1 _ (List.getElem_mem hi)
    have hy:(l[k / sz']).cells[k % sz']?=some ((l[k / sz']).cells[k % sz']'(by omega)):=List.getElem?_eq_getElem (by omega)
    obtain ⟨h1,u,h2,h3⟩:=hhold.2 _ _ _ _ hx hy
    rw [show k / sz'*sz'+k % sz'=k by rw [Nat.mul_comm]; exact Nat.div_add_mod k sz'] at h2
    exact ⟨u,_,h2,h3,h1⟩
   refine .inr ⟨b,o,(List.range (l.length*sz')).map fun k=>(w.cell? ⟨b,o+k,none⟩).getD default,rfl,by simp,fun j u hj=>?_,fun u hu=>?_,⟨hhold.1,fun i x j y hx hy=>?_⟩⟩
   ·rw [List.getElem?_map,Option.map_eq_some_iff] at hj
    obtain ⟨k,hk,rfl⟩:=hj
    have hkl:=(List.getElem?_eq_some_iff.1 hk).1
    rw [List.length_range] at hkl
    rw [List.getElem?_range hkl] at hk
    cases hk
    obtain ⟨u,y,h2,_,_⟩:=hsome j hkl
    rw [h2]
    rfl
   ·rw [List.mem_map] at hu
    obtain ⟨k,hk,rfl⟩:=hu
    rw [List.mem_range] at hk
    obtain ⟨u,y,h2,h3,h4⟩:=hsome k hk
    rw [h2]
    exact h3.oneCell h4
   ·obtain ⟨h1,u,h2,h3⟩:=hhold.2 i x j y hx hy
    refine ⟨h1,u,?_,h3⟩
    have hi:=(List.getElem?_eq_some_iff.1 hx).1
    have hj:=(List.getElem?_eq_some_iff.1 hy).1
    rw [hhold.1 x (List.mem_of_getElem? hx)] at hj
    have hlt:i*sz'+j < l.length*sz':=by
     have:=Nat.mul_le_mul_right sz' (show i+1≤l.length from hi)
     rw [Nat.add_mul,Nat.one_mul] at this
     omega
    show ((List.range (l.length*sz')).map fun k=>(w.cell? ⟨b,o+k,none⟩).getD default)[i*sz'+j]?=some u
    have h2':w.cell? ⟨b,o+(i*sz'+j),none⟩=some u:=h2
    rw [List.getElem?_map,List.getElem?_range hlt]
    simp only [Option.map_some,h2',Option.getD_some]

structure Clones (P:Program) (f:FuncId) (e:TypeId) (sz bytes:Nat):Prop where
 h0:∀ (n c:Nat) (w:World),Calls P f #[.slice none n c] w fun e w'=>e=.returned (.slice none 0 0)∧w'=w
 h1:∀ (n:Nat) (vs:List Value) (b o c:Nat) (w:World),vs.length=n*sz→(∀ j u,vs[j]?=some u→w.cell? ⟨b,o+j,none⟩=some u)→(∀ u∈vs,u.oneCell'=true)→n*bytes≤140737488355328→n≤1000000000→
  Calls P f #[.slice (some ⟨b,o,none⟩) n c] w fun en w'=>∃ v',en=.returned v'∧w'.ownsRow w.heap.size e sz v' n vs∧Below w.heap.size w w'
 h2:∀ (a:Addr) (c:Nat) (w:World),Calls P f #[.slice (some a) 0 c] w fun en w'=>∃ v',en=.returned v'∧w'.ownsRow w.heap.size e sz v' 0 []∧Below w.heap.size w w'

theorem Rep.row {ok:Zas} {w w':World} {e:TypeId} {v:Value} {l:List D} {sz:Nat} {vs:List Value} (ha:∀ x o,ok x o→x < w.heap.size) (hb:Below w.heap.size w w') (h:w'.ownsRow w.heap.size e sz v l.length vs) (hh:Holds ok w sz l (fun i=>vs[i]?)) (hl:l≠[]) :
  ∃ g cap cur,v=.slice (some ⟨g,0,none⟩) l.length cap∧w.heap.size≤g∧g < w'.heap.size∧w'.heap[g]?=some (.cells cur e (0,0))∧l.length≤cap∧cur.size=cap*sz∧Holds ok w' sz l (fun i=>cur[i]?):=by
 obtain ⟨hvl,h | ⟨g,cap,cur,rfl,hg0,hg,hn,hm,hs,ht⟩⟩:=h
 ·exact absurd (List.length_eq_zero_iff.1 h.2) hl
 ·refine ⟨g,cap,cur,rfl,hg0,Z8 hg,hg,hn,hs,hh.1,fun i x j y hx hy=>?_⟩
  obtain ⟨h1,u,h2,h3⟩:=hh.2 i x j y hx hy
  have hc:Chg ok ok w w':=⟨fun _ _ h=>h,fun x o hx=>ZaO (hb.block x (ha x o hx)) o⟩
  refine ⟨h1,u,?_,h3.chg hc⟩
  have hlt:i*sz+j < l.length*sz:=by
   rw [← hvl]
   exact (List.getElem?_eq_some_iff.1 h2).1
  have h2':vs[i*sz+j]?=some u:=h2
  rw [← ht,List.getElem?_take_of_lt hlt] at h2'
  show cur[i*sz+j]?=some u
  rw [← Array.getElem?_toList]
  exact h2'

theorem ZkY {P:Program} {f:FuncId} {fn:Func} {c:Code} {e:TypeId} {sz bytes:Nat} (hf:P.funcs[f]?=some fn) (hb:fn.body=some c) (hname:(fn.name == "runtime.NumGoroutine")=false) (hC:Clones P f e sz bytes) (h0:0 < sz)
  (l:List D) (hl:∀ x∈l,x.cells.length=sz) (hbig:l.length*bytes≤140737488355328) (hbig2:l.length≤1000000000):Spec P 0 f [vL l] [] [] (vL l) [] []:=by
 refine ⟨⟨fun n hn=>hn.elim,by simp,by simp⟩,fun w ok ℓ us hm hus=>.inl ⟨?_,?_⟩⟩
 ·simp only [beq_eq_false_iff_ne,ne_eq] at hname
  simp [callFunc,hf,hname,hb]
 obtain ⟨u,rfl⟩:∃ u,us=#[u]:=by
  have:=hus.1
  simp at this
  refine ⟨us[0],?_⟩
  apply Array.ext <;> simp [this]
  intro i hi
  have:i=0:=by omega
  subst this
  rfl
 have hu:=hus.2 0 u _ (by simp) rfl
 obtain ⟨a,cc,rfl,hh⟩:=ZfX hu.1 hl h0
 have halive:=hm.alive
 cases a with
 | none =>
  have hl:l=[]:=by rcases hh with h | ⟨_,_,_,h,_⟩; exact h; cases h
  subst hl
  refine (hC.h0 _ cc w).mono ?_
  rintro en w' ⟨rfl,rfl⟩
  exact ⟨_,_,_,rfl,Zea halive (Below.refl _ _) ⟨.nil _ _,rfl⟩⟩
 | some a =>
  rcases hh with rfl | ⟨b,o,vs,hab,hvl,hcell,hone,hold⟩
  ·refine (hC.h2 a cc w).mono ?_
   rintro en w' ⟨v',rfl,hr,hbl⟩
   have hv:∃ a' c',v'=.slice a' 0 c':=by
    obtain ⟨_,h | ⟨g,cap,cur,rfl,_⟩⟩:=hr
    ·exact ⟨none,0,h.1⟩
    ·exact ⟨_,_,rfl⟩
   obtain ⟨a',c',rfl⟩:=hv
   exact ⟨_,_,_,rfl,Zea halive hbl ⟨.nil _ _,rfl⟩⟩
  ·cases hab
   refine (hC.h1 l.length vs b o cc w hvl hcell hone hbig hbig2).mono ?_
   rintro en w' ⟨v',rfl,hr,hbl⟩
   refine ⟨_,_,_,rfl,Zea halive hbl ⟨?_,rfl⟩⟩
   by_cases hne:l=[]
   ·subst hne
    obtain ⟨_,h | ⟨g,cap,cur,rfl,_⟩⟩:=hr
    ·rw [h.1]; exact .nil _ _
    ·exact .nil _ _
   ·obtain ⟨g,cap,cur,rfl,k1,k1',k2,k3,k4,k5⟩:=Rep.row halive hbl hr hold hne
    refine Rep.of_holds (sz:=sz) k3 ?_ (fun i _=>.inr ⟨k1,k1'⟩)
    refine (Holds.chg ⟨fun x o hx=>.inl hx,fun _ _ _=>rfl⟩ k5).at_eq (fun i hi=>?_)
    rw [Nat.zero_add]
    exact Zam k2 i

theorem ZkX {P:Program} {f:FuncId} {fn:Func} {c:Code} {e:TypeId} {sz bytes:Nat} (hf:P.funcs[f]?=some fn) (hb:fn.body=some c) (hname:(fn.name == "runtime.NumGoroutine")=false) (hC:Clones P f e sz bytes) (h0:0 < sz)
  (l:List D) (hl:∀ x∈l,x.cells.length=sz) (hbig:l.length*bytes≤140737488355328) (hbig2:l.length≤1000000000) (hne:l≠[]):Spec P 0 f [vL l] [] [] (.c (.arr ⟨0,9⟩ l.length)) [] [(⟨0,9⟩,⟨true,sz,l⟩)]:=by
 refine ⟨⟨fun n hn=>by cases hn; exact Nat.le_refl _,by simp,by simp⟩,fun w ok ℓ us hm hus=>.inl ⟨?_,?_⟩⟩
 ·simp only [beq_eq_false_iff_ne,ne_eq] at hname
  simp [callFunc,hf,hname,hb]
 obtain ⟨u,rfl⟩:∃ u,us=#[u]:=by
  have:=hus.1
  simp at this
  refine ⟨us[0],?_⟩
  apply Array.ext <;> simp [this]
  intro i hi
  have:i=0:=by omega
  subst this
  rfl
 have hu:=hus.2 0 u _ (by simp) rfl
 obtain ⟨a,cc,rfl,hh⟩:=ZfX hu.1 hl h0
 have halive:=hm.alive
 obtain ⟨b,o,vs,rfl,hvl,hcell,hone,hold⟩:=hh.resolve_left hne
 refine (hC.h1 l.length vs b o cc w hvl hcell hone hbig hbig2).mono ?_
 rintro en w' ⟨v',rfl,hr,hbl⟩
 obtain ⟨g,cap,cur,rfl,k1,k1',k2,k3,k4,k5⟩:=Rep.row halive hbl hr hold hne
 have hown:∀ n x,Owns (⟨fun n=>if n=⟨0,9⟩ then g else ℓ.i n,ℓ.h,fun n=>if n=⟨0,9⟩ then sz else ℓ.z n⟩:Loc) [] [((⟨0,9⟩:Name),(⟨true,sz,l⟩:Tok))] n x→n=⟨0,9⟩∧x=g:=by
  intro n x hx
  rcases hx with ⟨h1,h2⟩ | ⟨tk,h1,_,h2⟩ | ⟨tk,h1,h3,_⟩
  ·simp [lk] at h1
  ·have e:n=⟨0,9⟩:=by
    by_cases e:(⟨0,9⟩:Name)=n
    ·exact e.symm
    ·simp [lk,e] at h1
   subst e
   exact ⟨rfl,by simpa using h2⟩
  ·by_cases e:(⟨0,9⟩:Name)=n
   ·simp only [lk,e,if_true,Option.some.injEq] at h1
    subst h1
    cases h3
   ·simp [lk,e] at h1
 refine ⟨_,ok,⟨fun n=>if n=⟨0,9⟩ then g else ℓ.i n,ℓ.h,fun n=>if n=⟨0,9⟩ then sz else ℓ.z n⟩,rfl,?_⟩
 have hc:Chg ok ok w w':=⟨fun _ _ h=>h,fun x o hx=>ZaO (hbl.block x (halive x o hx)) o⟩
 refine ⟨ZbF _ hbl,⟨by simp [lk],fun m tk hmk ha=>?_,fun m tk hmk ha=>?_,by simp [lk],fun n m x h1 h2=>(hown n x h1).1.trans (hown m x h2).1.symm,fun x o hx=>Nat.lt_of_lt_of_le (halive x o hx) hbl.size⟩,⟨cap,k3,by simp⟩,hc,fun x o hx=>.inl hx,fun n x hx=>.inl ((hown n x hx).2 ▸ k1),fun n _ hnew=>?_⟩
 ·by_cases e:(⟨0,9⟩:Name)=m
  ·simp only [lk,e,if_true,Option.some.injEq] at hmk
   subst hmk
   cases ha
  ·simp [lk,e] at hmk
 ·have e:m=⟨0,9⟩:=by
   by_cases e:(⟨0,9⟩:Name)=m
   ·exact e.symm
   ·simp [lk,e] at hmk
  subst e
  simp only [lk,if_true,Option.some.injEq] at hmk
  subst hmk
  refine ⟨by simp,hl,cur,e,by simpa using k2,by rw [k4]; exact Nat.mul_le_mul_right _ k3,k5.2,fun o hx=>?_⟩
  have:=halive _ _ hx
  simp only [if_true] at this
  omega
 ·have hn9:n≠⟨0,9⟩:=fun e=>hnew (by subst e; exact ⟨rfl,rfl,.inr (by simp [lk])⟩)
  exact ⟨⟨by simp [hn9],by simp [hn9],Nat.le_refl _,fun _=>rfl⟩,fun _ _=>⟨by simp [hn9],by simp [hn9],rfl⟩⟩
end Go.Vam
end
