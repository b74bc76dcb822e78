/- A part of the proof. Conditions: none. -/
import Derived.Test.YtmpbpijnbmpbhaaGreatBVh
import Derived.ChangeSame
import Derived.WalkKit
import Derived.ProofKit
import Derived.OpenShut
import Derived.ShutString
section
set_option linter.unusedVariables false
set_option linter.unusedSimpArgs false
namespace Go.Vam
open Go.ChangeShapes Go.WideShapes

section
variable {H:Type} {enc:TypeId×Value→H} {P:Program}

end

def ℓ0:Loc:=⟨fun _=>0,fun _=>undef,fun _=>0⟩

theorem Zp4 {ok:Zas} {w:World} (h:∀ x o,ok x o→x < w.heap.size):MemOK ok ℓ0 [] [] w:=by
 refine ⟨by simp [lk],by simp [lk],by simp [lk],by simp [lk],fun n m x hn=>?_,h⟩
 rcases hn with ⟨h,_⟩ | ⟨_,h,_⟩ | ⟨_,h,_⟩ <;> simp [lk] at h

theorem law_of_spec {P:Program} {f:FuncId} {fn:Func} {c:Code} {lv:Nat} {args:List V} (h:Spec P lv f args [] [] (vB true) [] [])
  (hf:P.funcs[f]?=some fn) (hb:fn.body=some c) (hname:(fn.name == "runtime.NumGoroutine")=false) {w:World} {us:Array Value} (hus:RVs (fun x _=>x < w.heap.size) ℓ0 w us args) :
  Calls P f us w fun e w'=>e=.returned (.bool true)∧Ext (fun _=>False) w w':=by
 have hc:=h.2 w (fun x _=>x < w.heap.size) ℓ0 us (Zp4 (fun _ _ h=>h)) hus
 have henter:(callFunc f us).run P w=.ok (.enter f us) w:=by
  simp only [beq_eq_false_iff_ne,ne_eq] at hname
  simp [callFunc,hf,hname,hb]
 rcases hc with ⟨_,h2⟩ | ⟨v,w',h1,_⟩
 ·refine h2.mono ?_
  rintro e w' ⟨u,ok',ℓ',rfl,hp⟩
  have hv:=hp.val
  simp only [RV,RC] at hv
  refine ⟨by rw [hv.1.bool_inv],hp.ext.mono ?_⟩
  rintro x ⟨n,hn⟩
  rcases hn with ⟨h,_⟩ | ⟨_,h,_⟩ | ⟨_,h,_⟩ <;> simp [lk] at h
 ·rw [henter] at h1; cases h1

theorem rvs_nil {ok:Zas} {ℓ:Loc} {w:World}:RVs ok ℓ w #[] []:=⟨rfl,by simp⟩
theorem rvs_cons {ok:Zas} {ℓ:Loc} {w:World} {u:Value} {v:V} {us:List Value} {vs:List V} (h:RV ok ℓ w u v) (hs:RVs ok ℓ w us.toArray vs):RVs ok ℓ w (u::us).toArray (v::vs):=by
 refine ⟨by simpa using hs.1,fun i x y hx hy=>?_⟩
 cases i with
 | zero=>simp at hx hy; subst hx; subst hy; exact h
 | succ i=>simp at hx hy; exact hs.2 i x y (by simpa using hx) hy
theorem rv_int {ok:Zas} {ℓ:Loc} {w:World} {k:IntKind} {n:Int}:RV ok ℓ w (.int k n) (vI k n):=⟨.int _ _,rfl⟩
theorem wf_u8 {n:Int} (h:(Lit.int .u8 n).wf=true):0≤n∧n≤255:=by
 simpa [Lit.wf,IntKind.min,IntKind.max,IntKind.signed,IntKind.bits] using h
end Go.Vam
end
section
set_option linter.unusedVariables false
set_option linter.unusedSimpArgs false
namespace Go.Vam

theorem ZvK {α:Type} {Q Q':α→Prop} (hq:∀ a,Q a→Q' a):∀ {r:Rd α} {st:St},wp r st Q→wp r st Q':=by
 intro r
 induction r with
 | ret a=>intro st h; exact hq a h
 | fail=>intro st h; exact h
 | getT n f ih=>intro st h; simp only [wp] at h ⊢; split at h <;> simp_all
 | getB n f ih=>intro st h; simp only [wp] at h ⊢; split at h <;> simp_all
 | getK n f ih=>intro st h; simp only [wp] at h ⊢; split at h <;> simp_all
 | need p r ih=>intro st h; exact ⟨h.1,ih h.2⟩
 | exD f ih=>intro st h; obtain ⟨x,h⟩:=h; exact ⟨x,ih x h⟩
 | exM f ih=>intro st h; obtain ⟨x,b,k,h⟩:=h; exact ⟨x,b,k,ih x b k h⟩
 | case γ r s ih ih'=>intro st h; exact ⟨fun e=>ih (h.1 e),fun e=>ih' (h.2 e)⟩

theorem ZiO {α:Type} {Q Q':List Key→α→Prop} (hq:∀ R a,Q R a→Q' R a):∀ {r:Rd α} {st:St} {R:List Key},wpL r st R Q→wpL r st R Q':=by
 intro r
 induction r with
 | ret a=>intro st R h; exact hq R a h
 | fail=>intro st R h; exact h
 | getT n f ih=>intro st R h; simp only [wpL] at h ⊢; split at h <;> simp_all
 | getB n f ih=>intro st R h; simp only [wpL] at h ⊢; split at h <;> simp_all
 | getK n f ih=>intro st R h; simp only [wpL] at h ⊢; split at h <;> simp_all
 | need p r ih=>intro st R h; exact ⟨h.1,ih h.2⟩
 | exD f ih=>intro st R h; obtain ⟨x,h⟩:=h; exact ⟨x,ih x h⟩
 | exM f ih=>intro st R h; obtain ⟨x,b,k,h⟩:=h; exact ⟨x,b,k,ih x b k h⟩
 | case γ r s ih ih'=>intro st R h; exact ⟨fun e=>ih (h.1 e),fun e=>ih' (h.2 e)⟩

theorem Zij {X:Ctx} {ops:Array Oper} {Q Q':St→List Rec→Prop} (hq:∀ st cs,Q st cs→Q' st cs):∀ (l:List Oper) (st:St) (cs:List Rec),ZfY X ops l st cs Q→ZfY X ops l st cs Q'
 | [],st,cs,h=>hq st cs h
 | o::l,st,cs,h=>⟨h.1,ZiO (fun R p hp=>Zij hq l _ _ hp) h.2⟩

theorem ZEl {m:List (Nat×V)}:Zri [] m=True:=Eq.trans rfl rfl
theorem Zrj {t:Nat} {v:V} {l m:List (Nat×V)}:Zri ((t,v)::l) m=(oel (lk m t) (leV v)∧Zri l m):=by
 simp only [Zri]; cases lk m t <;> rfl

def keep {κ α:Type} [DecidableEq κ]:List κ→List (κ×α)→List (κ×α)
 | _,[]=>[]
 | ws,p::l=>if p.1∈ws then keep ws l else p::keep (p.1::ws) l

theorem ZDw {κ α:Type} [DecidableEq κ] {ws:List κ}:keep ws ([]:List (κ×α))=[]:=Eq.trans rfl rfl
theorem ZgU {κ α:Type} [DecidableEq κ] {ws:List κ} {k:κ} {v:α} {l:List (κ×α)}:keep ws ((k,v)::l)=if k∈ws then keep ws l else (k,v)::keep (k::ws) l:=Eq.trans rfl rfl

theorem Zd7 {κ α:Type} [DecidableEq κ]:∀ (l:List (κ×α)) (ws:List κ) (k:κ) (v:α),lk (keep ws l) k=some v→k∉ws∧lk l k=some v
 | [],ws,k,v,h=>by simp [keep,lk] at h
 | (k',v')::l,ws,k,v,h=>by
  rw [ZgU] at h
  split at h
  ·rename_i hm
   obtain ⟨h1,h2⟩:=Zd7 l ws k v h
   have:k'≠k:=fun e=>h1 (e ▸ hm)
   exact ⟨h1,by rw [Zh _ _ this]; exact h2⟩
  ·rename_i hm
   by_cases e:k'=k
   ·subst e
    rw [Zl] at h ⊢
    exact ⟨hm,h⟩
   ·rw [Zh _ _ e] at h ⊢
    obtain ⟨h1,h2⟩:=Zd7 l _ k v h
    exact ⟨fun hh=>h1 (List.mem_cons_of_mem _ hh),h2⟩

theorem Zu9 (c:C):leC c c:=by
 cases c with
 | d x=>cases x <;> rfl
 | _=>rfl
theorem Zcq:∀ cs:List C,Zl5 cs cs
 | []=>trivial
 | c::cs=>⟨Zu9 c,Zcq cs⟩
theorem Zm9:∀ v:V,leV v v
 | .c x=>Zu9 x
 | .agg cs=>Zcq cs
 | .tup _=>rfl
 | .ts _ cs=>⟨rfl,Zcq cs⟩
 | .g _ _=>⟨rfl,rfl⟩
theorem ZDA {v:V}:leV v v=True:=eq_true (Zm9 v)
theorem ZAQ {cs:List C}:Zl5 cs cs=True:=eq_true (Zcq cs)

theorem subT_of {l m:List (Nat×V)} (h:∀ t v,lk l t=some v→∃ v',lk m t=some v'∧leV v v') (hd:(l.map (·.1)).Nodup):Zri l m:=by
 induction l with
 | nil=>trivial
 | cons p l ih =>
  obtain ⟨t,v⟩:=p
  rw [List.map_cons,List.nodup_cons] at hd
  rw [Zrj]
  refine ⟨?_,ih (fun t' v' h'=>?_) hd.2⟩
  ·obtain ⟨v',h1,h2⟩:=h t v (Zl _ _ _)
   rw [h1]; exact h2
  ·refine h t' v' ?_
   have:t≠t':=fun e=>hd.1 (e ▸ List.mem_map.2 ⟨_,Zbj _ _ _ h',rfl⟩)
   rw [Zh _ _ this]; exact h'

theorem ZcE {κ α:Type} [DecidableEq κ]:∀ (l:List (κ×α)) (ws:List κ),((keep ws l).map (·.1)).Nodup
 | [],ws=>by simp [keep]
 | (k,v)::l,ws=>by
  rw [ZgU]
  split
  ·exact ZcE l ws
  ·rw [List.map_cons,List.nodup_cons]
   refine ⟨fun h=>?_,ZcE l _⟩
   obtain ⟨p,hp,e⟩:=List.mem_map.1 h
   have hs:∀ (l:List (κ×α)) (ws:List κ) (p:κ×α),p∈keep ws l→p.1∉ws:=by
    intro l
    induction l with
    | nil=>intro ws p h; simp [keep] at h
    | cons q l ih =>
     obtain ⟨k',v'⟩:=q
     intro ws p h
     rw [ZgU] at h
     split at h
     ·exact ih ws p h
     ·rename_i hn
      rcases List.mem_cons.1 h with e | h
      ·rw [e]; exact hn
      ·exact fun hh=>ih _ p h (List.mem_cons_of_mem _ hh)
   exact hs l _ p hp (by simp [show p.1=k from e])

theorem ZtZ {a b m:List (Nat×V)} (h1:Zri a m) (h2:Zri b m):Zri (a++b) m:=by
 induction a with
 | nil=>exact h2
 | cons p a ih=>obtain ⟨t,v⟩:=p; simp only [Zri] at h1; simp only [List.cons_append,Zri]; exact ⟨h1.1,ih h1.2⟩
theorem ZtX {a b m:Zf} (h1:Zll a m) (h2:Zll b m):Zll (a++b) m:=by
 induction a with
 | nil=>exact h2
 | cons p a ih=>obtain ⟨t,v⟩:=p; simp only [Zll] at h1; simp only [List.cons_append,Zll]; exact ⟨h1.1,ih h1.2⟩
theorem ZtY {a b m:Zr} (h1:Zlm a m) (h2:Zlm b m):Zlm (a++b) m:=by
 induction a with
 | nil=>exact h2
 | cons p a ih=>obtain ⟨t,v⟩:=p; simp only [Zlm] at h1; simp only [List.cons_append,Zlm]; exact ⟨h1.1,ih h1.2⟩

theorem subB_of {l m:Zf} (h:∀ t v,lk l t=some v→∃ v',lk m t=some v'∧Zl5 v v') (hd:(l.map (·.1)).Nodup):Zll l m:=by
 induction l with
 | nil=>trivial
 | cons p l ih =>
  obtain ⟨t,v⟩:=p
  rw [List.map_cons,List.nodup_cons] at hd
  simp only [Zll]
  refine ⟨?_,ih (fun t' v' h'=>?_) hd.2⟩
  ·obtain ⟨v',h1,h2⟩:=h t v (Zl _ _ _)
   rw [h1]; exact h2
  ·refine h t' v' ?_
   have:t≠t':=fun e=>hd.1 (e ▸ List.mem_map.2 ⟨_,Zbj _ _ _ h',rfl⟩)
   rw [Zh _ _ this]; exact h'
theorem subK_of {l m:Zr} (h:∀ t v,lk l t=some v→lk m t=some v) (hd:(l.map (·.1)).Nodup):Zlm l m:=by
 induction l with
 | nil=>trivial
 | cons p l ih =>
  obtain ⟨t,v⟩:=p
  rw [List.map_cons,List.nodup_cons] at hd
  simp only [Zlm]
  refine ⟨?_,ih (fun t' v' h'=>?_) hd.2⟩
  ·rw [h t v (Zl _ _ _)]
  ·refine h t' v' ?_
   have:t≠t':=fun e=>hd.1 (e ▸ List.mem_map.2 ⟨_,Zbj _ _ _ h',rfl⟩)
   rw [Zh _ _ this]; exact h'

theorem ZCx (l:List (Nat×V)) (ws:List Nat):Zri (keep ws l) l :=
 subT_of (fun t v h=>⟨v,(Zd7 l ws t v h).2,Zm9 v⟩) (ZcE l ws)
theorem Zrg (l:Zf) (ws:List Name):Zll (keep ws l) l :=
 subB_of (fun t v h=>⟨v,(Zd7 l ws t v h).2,Zcq v⟩) (ZcE l ws)
theorem Zrh (l:Zr) (ws:List Name):Zlm (keep ws l) l :=
 subK_of (fun t v h=>(Zd7 l ws t v h).2) (ZcE l ws)

def ZGV:List Oper→List Nat
 | []=>[]
 | o::l=>o.dst.toList++ZGV l
def Zkq:Code→List Nat
 | .region _ ops _=>ZGV ops.toList
 | .seq a b=>Zkq a++Zkq b
 | .cond _ a b=>Zkq a++Zkq b
 | .block _ c=>Zkq c
 | .loop c=>Zkq c
 | _=>[]
theorem ZDo:ZGV []=[]:=Eq.trans rfl rfl
theorem ZAe {o:Oper} {l:List Oper}:ZGV (o::l)=o.dst.toList++ZGV l:=Eq.trans rfl rfl
theorem ZsE {id:Nat} {l:List Oper} {d:Bool}:Zkq (.region id (List.toArray l) d)=ZGV l:=Eq.trans rfl rfl
theorem ZDq {a b:Code}:Zkq (.seq a b)=Zkq a++Zkq b:=Eq.trans rfl rfl
theorem ZAf {x:Operand} {a b:Code}:Zkq (.cond x a b)=Zkq a++Zkq b:=Eq.trans rfl rfl
theorem Zw1 {id:Nat} {a:Code}:Zkq (.block id a)=Zkq a:=Eq.trans rfl rfl
theorem ZAh {a:Code}:Zkq (.loop a)=Zkq a:=Eq.trans rfl rfl
theorem ZAi:Zkq .skip=[]:=Eq.trans rfl rfl
theorem ZAg {id:Nat}:Zkq (.exit id)=[]:=Eq.trans rfl rfl
theorem ZDp:Zkq .ret=[]:=Eq.trans rfl rfl

section
variable {X:Ctx} {n:Nat} {st:St} {Q:Exit→St→Prop}
end

section
variable {k:IntKind} {z a0 a1 a2 a3 a4 a5 a6 a7 a8 a9:Int} {i:Nat}
theorem gi1:(([D.int k a0]:List D)[i]?).getD (D.int k z)=D.int k (([a0]:List Int)[i]?.getD z):=by
 match i with
 | 0=>rfl
 | j+1=>rfl
theorem gi2:(([D.int k a0,D.int k a1]:List D)[i]?).getD (D.int k z)=D.int k (([a0,a1]:List Int)[i]?.getD z):=by
 match i with
 | 0=>rfl
 | 1=>rfl
 | j+2=>rfl
theorem gi3:(([D.int k a0,D.int k a1,D.int k a2]:List D)[i]?).getD (D.int k z)=D.int k (([a0,a1,a2]:List Int)[i]?.getD z):=by
 match i with
 | 0=>rfl
 | 1=>rfl
 | 2=>rfl
 | j+3=>rfl
theorem gi4:(([D.int k a0,D.int k a1,D.int k a2,D.int k a3]:List D)[i]?).getD (D.int k z)=D.int k (([a0,a1,a2,a3]:List Int)[i]?.getD z):=by
 match i with
 | 0=>rfl
 | 1=>rfl
 | 2=>rfl
 | 3=>rfl
 | j+4=>rfl
theorem gi5:(([D.int k a0,D.int k a1,D.int k a2,D.int k a3,D.int k a4]:List D)[i]?).getD (D.int k z)=D.int k (([a0,a1,a2,a3,a4]:List Int)[i]?.getD z):=by
 match i with
 | 0=>rfl
 | 1=>rfl
 | 2=>rfl
 | 3=>rfl
 | 4=>rfl
 | j+5=>rfl
theorem gi6:(([D.int k a0,D.int k a1,D.int k a2,D.int k a3,D.int k a4,D.int k a5]:List D)[i]?).getD (D.int k z)=D.int k (([a0,a1,a2,a3,a4,a5]:List Int)[i]?.getD z):=by
 match i with
 | 0=>rfl
 | 1=>rfl
 | 2=>rfl
 | 3=>rfl
 | 4=>rfl
 | 5=>rfl
 | j+6=>rfl
theorem gi7:(([D.int k a0,D.int k a1,D.int k a2,D.int k a3,D.int k a4,D.int k a5,D.int k a6]:List D)[i]?).getD (D.int k z)=D.int k (([a0,a1,a2,a3,a4,a5,a6]:List Int)[i]?.getD z):=by
 match i with
 | 0=>rfl
 | 1=>rfl
 | 2=>rfl
 | 3=>rfl
 | 4=>rfl
 | 5=>rfl
 | 6=>rfl
 | j+7=>rfl
theorem gi8:(([D.int k a0,D.int k a1,D.int k a2,D.int k a3,D.int k a4,D.int k a5,D.int k a6,D.int k a7]:List D)[i]?).getD (D.int k z)=D.int k (([a0,a1,a2,a3,a4,a5,a6,a7]:List Int)[i]?.getD z):=by
 match i with
 | 0=>rfl
 | 1=>rfl
 | 2=>rfl
 | 3=>rfl
 | 4=>rfl
 | 5=>rfl
 | 6=>rfl
 | 7=>rfl
 | j+8=>rfl
theorem gi9:(([D.int k a0,D.int k a1,D.int k a2,D.int k a3,D.int k a4,D.int k a5,D.int k a6,D.int k a7,D.int k a8]:List D)[i]?).getD (D.int k z)=D.int k (([a0,a1,a2,a3,a4,a5,a6,a7,a8]:List Int)[i]?.getD z):=by
 match i with
 | 0=>rfl
 | 1=>rfl
 | 2=>rfl
 | 3=>rfl
 | 4=>rfl
 | 5=>rfl
 | 6=>rfl
 | 7=>rfl
 | 8=>rfl
 | j+9=>rfl
theorem ZNH:(([D.int k a0,D.int k a1,D.int k a2,D.int k a3,D.int k a4,D.int k a5,D.int k a6,D.int k a7,D.int k a8,D.int k a9]:List D)[i]?).getD (D.int k z)=D.int k (([a0,a1,a2,a3,a4,a5,a6,a7,a8,a9]:List Int)[i]?.getD z):=by
 match i with
 | 0=>rfl
 | 1=>rfl
 | 2=>rfl
 | 3=>rfl
 | 4=>rfl
 | 5=>rfl
 | 6=>rfl
 | 7=>rfl
 | 8=>rfl
 | 9=>rfl
 | j+10=>rfl
end

theorem ZY (n:Nat) (h:n < 9223372036854775807):IntKind.i64.wrap (((n:Nat):Int)+1)=((n+1:Nat):Int):=by
 rw [IntWalk.i64_in _ (by omega)]; omega

end Go.Vam
end
