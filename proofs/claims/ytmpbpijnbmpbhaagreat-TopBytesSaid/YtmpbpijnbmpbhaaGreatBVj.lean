/- A part of the proof. Conditions: none. -/
import Derived.Test.YtmpbpijnbmpbhaaGreatBVi
section
set_option linter.unusedVariables false
set_option linter.unusedSimpArgs false
namespace Go.Vam

def C.ren (ρ:Name→Name):C→C
 | .own k l=>.own (ρ k) l
 | .arr k n=>.arr (ρ k) n
 | .lp k off=>.lp (ρ k) off
 | .ap k i off=>.ap (ρ k) i off
 | .bs k n=>.bs (ρ k) n
 | .vw k o n=>.vw (ρ k) o n
 | .rws k o n=>.rws (ρ k) o n
 | .rp k o n=>.rp (ρ k) o n
 | .fn f caps=>.fn f (caps.map fun p=>(ρ p.1,p.2))
 | c=>c
def V.ren (ρ:Name→Name):V→V
 | .c x=>.c (x.ren ρ)
 | .agg cs=>.agg (cs.map (C.ren ρ))
 | .tup ds=>.tup ds
 | .ts sh cs=>.ts sh (cs.map (C.ren ρ))
 | .g γ v=>.g γ (v.ren ρ)
def Zih (ρ:Name→Name) (b:Zf):Zf:=b.map fun p=>(ρ p.1,p.2.map (C.ren ρ))
def Zii (ρ:Name→Name) (k:Zr):Zr:=k.map fun p=>(ρ p.1,p.2)

def C.names:C→List Name
 | .own k _=>[k]
 | .arr k _=>[k]
 | .lp k _=>[k]
 | .ap k _ _=>[k]
 | .bs k _=>[k]
 | .vw k _ _=>[k]
 | .rws k _ _=>[k]
 | .rp k _ _=>[k]
 | .fn _ caps=>caps.map (·.1)
 | _=>[]
def V.names:V→List Name
 | .c x=>x.names
 | .agg cs=>cs.flatMap C.names
 | .tup _=>[]
 | .ts _ cs=>cs.flatMap C.names
 | .g _ v=>v.names
def ZJ (b:Zf):List Name:=b.flatMap fun p=>p.1::p.2.flatMap C.names
def ZK (k:Zr):List Name:=k.map (·.1)

structure Agree (ρ:Name→Name) (sup:List Name) (ℓ ℓ':Loc):Prop where
 i:∀ n∈sup,ℓ'.i (ρ n)=ℓ.i n
 h:∀ n∈sup,ℓ'.h (ρ n)=ℓ.h n
 z:∀ n∈sup,ℓ'.z (ρ n)=ℓ.z n

section
variable {ρ:Name→Name} {sup:List Name} {ℓ ℓ':Loc} {ok:Zas} {w:World}

theorem RC.ren (ha:Agree ρ sup ℓ ℓ') {u:Value} {c:C} (hc:∀ n∈c.names,n∈sup):RC ok ℓ' w u (c.ren ρ)↔RC ok ℓ w u c:=by
 cases c with
 | own k l=>simp only [RC,C.ren,ha.h k (hc k (by simp [C.names]))]
 | arr k n=>simp only [RC,C.ren,ha.i k (hc k (by simp [C.names]))]
 | lp k off=>simp only [RC,C.ren,ha.i k (hc k (by simp [C.names]))]
 | ap k i off=>simp only [RC,C.ren,ha.i k (hc k (by simp [C.names])),ha.z k (hc k (by simp [C.names]))]
 | bs k n=>simp only [RC,C.ren,ha.i k (hc k (by simp [C.names]))]
 | vw k o n=>simp only [RC,C.ren,ha.i k (hc k (by simp [C.names]))]
 | rws k o n=>simp only [RC,C.ren,ha.i k (hc k (by simp [C.names]))]
 | rp k o n=>simp only [RC,C.ren,ha.i k (hc k (by simp [C.names]))]
 | fn f caps =>
  simp only [RC,C.ren]
  have key:∀ k,fnP ℓ k caps=fnP ℓ' k (caps.map fun p=>(ρ p.1,p.2)):=fun k=>by
   unfold fnP
   rw [List.map_map]
   apply List.map_congr_left
   intro p hp
   simp only [Function.comp_apply]
   rw [ha.i p.1 (hc p.1 (by simp only [C.names,List.mem_map]; exact ⟨p,hp,rfl⟩))]
  have hr:rcv (caps.map fun p=>(ρ p.1,p.2))=rcv caps:=by
   match caps with
   | []=>rfl
   | [(n,o)]=>rfl
   | _::_::_=>rfl
  unfold fnV
  rw [key,key,hr]
 | _=>exact Iff.rfl

theorem RCs.ren (ha:Agree ρ sup ℓ ℓ') {vs:Array Value} {cs:List C} (hc:∀ n∈cs.flatMap C.names,n∈sup):RCs ok ℓ' w vs (cs.map (C.ren ρ))↔RCs ok ℓ w vs cs:=by
 unfold RCs
 rw [List.length_map]
 have hn:∀ c∈cs,∀ n∈c.names,n∈sup:=fun c hh n hm=>hc n (List.mem_flatMap.2 ⟨c,hh,hm⟩)
 constructor
 ·rintro ⟨h1,h2⟩
  exact ⟨h1,fun i u c hu hcs=>(RC.ren ha (hn c (List.mem_of_getElem? hcs))).1 (h2 i u (c.ren ρ) hu (by simp [hcs]))⟩
 ·rintro ⟨h1,h2⟩
  refine ⟨h1,fun i u c hu hcs=>?_⟩
  simp only [List.getElem?_map,Option.map_eq_some_iff] at hcs
  obtain ⟨c0,hc0,rfl⟩:=hcs
  exact (RC.ren ha (hn c0 (List.mem_of_getElem? hc0))).2 (h2 i u c0 hu hc0)

theorem RV.ren (ha:Agree ρ sup ℓ ℓ'):∀ {v:V} {u:Value},(∀ n∈v.names,n∈sup)→(RV ok ℓ' w u (v.ren ρ)↔RV ok ℓ w u v)
 | .c x,u,hc=>RC.ren ha hc
 | .agg cs,u,hc=>by
  simp only [RV,V.ren]
  constructor
  ·rintro ⟨vs,rfl,h⟩; exact ⟨vs,rfl,(RCs.ren ha hc).1 h⟩
  ·rintro ⟨vs,rfl,h⟩; exact ⟨vs,rfl,(RCs.ren ha hc).2 h⟩
 | .tup ds,u,hc=>Iff.rfl
 | .ts sh cs,u,hc=>by
  simp only [RV,V.ren]
  constructor
  ·rintro ⟨vs,rfl,h⟩; exact ⟨vs,rfl,(RCs.ren ha hc).1 h⟩
  ·rintro ⟨vs,rfl,h⟩; exact ⟨vs,rfl,(RCs.ren ha hc).2 h⟩
 | .g γ v,u,hc=>by simp only [RV,V.ren]; rw [RV.ren ha (v:=v) hc]

theorem C.has_ren {c:C} {m:Name} (h:(c.ren ρ).has m):∃ n,n∈c.names∧ρ n=m:=by
 cases c with
 | own k l=>exact ⟨k,by simp [C.names],h⟩
 | arr k n=>exact ⟨k,by simp [C.names],h⟩
 | lp k off=>exact ⟨k,by simp [C.names],h⟩
 | ap k i off=>exact ⟨k,by simp [C.names],h⟩
 | bs k n=>exact ⟨k,by simp [C.names],h⟩
 | vw k o n=>exact ⟨k,by simp [C.names],h⟩
 | rws k o n=>exact ⟨k,by simp [C.names],h⟩
 | rp k o n=>exact ⟨k,by simp [C.names],h⟩
 | fn f caps =>
  simp only [C.ren,C.has,List.mem_map] at h
  obtain ⟨_,⟨p,hp,rfl⟩,e⟩:=h
  exact ⟨p.1,List.mem_map.2 ⟨p,hp,rfl⟩,e⟩
 | _=>exact h.elim
theorem V.has_ren:∀ {v:V} {m:Name},(v.ren ρ).has m→∃ n,n∈v.names∧ρ n=m
 | .c x,m,h=>C.has_ren h
 | .agg cs,m,h=>by
  simp only [V.ren,V.has,List.mem_map] at h
  obtain ⟨_,⟨c,hc,rfl⟩,h⟩:=h
  obtain ⟨n,h1,h2⟩:=C.has_ren h
  exact ⟨n,List.mem_flatMap.2 ⟨c,hc,h1⟩,h2⟩
 | .tup _,_,h=>h.elim
 | .ts _ cs,m,h=>by
  simp only [V.ren,V.has,List.mem_map] at h
  obtain ⟨_,⟨c,hc,rfl⟩,h⟩:=h
  obtain ⟨n,h1,h2⟩:=C.has_ren h
  exact ⟨n,List.mem_flatMap.2 ⟨c,hc,h1⟩,h2⟩
 | .g _ v,m,h=>V.has_ren (v:=v) h

variable (hinj:∀ a∈sup,∀ b∈sup,ρ a=ρ b→a=b)
include hinj

theorem Zd8 {b:Zf} (hb:∀ n∈ZJ b,n∈sup) {n:Name} (hn:n∈sup):lk (Zih ρ b) (ρ n)=(lk b n).map (List.map (C.ren ρ)):=by
 induction b with
 | nil=>rfl
 | cons p b ih =>
  obtain ⟨k,cs⟩:=p
  have ih:=ih (fun m hm=>hb m (by simp only [ZJ,List.flatMap_cons,List.mem_append] at hm ⊢; exact .inr hm))
  have hk:k∈sup:=hb k (by simp [ZJ])
  show lk ((ρ k,cs.map (C.ren ρ))::Zih ρ b) (ρ n)=_
  by_cases e:k=n
  ·subst e; rw [Zl,Zl]; rfl
  ·rw [Zh _ _ (fun h=>e (hinj k hk n hn h)),Zh _ _ e]; exact ih
theorem ZcO {k:Zr} (hb:∀ n∈ZK k,n∈sup) {n:Name} (hn:n∈sup):lk (Zii ρ k) (ρ n)=lk k n:=by
 induction k with
 | nil=>rfl
 | cons p b ih =>
  obtain ⟨k,cs⟩:=p
  have ih:=ih (fun m hm=>hb m (by simp only [ZK,List.map_cons,List.mem_cons] at hm ⊢; exact .inr hm))
  have hk:k∈sup:=hb k (by simp [ZK])
  show lk ((ρ k,cs)::Zii ρ b) (ρ n)=_
  by_cases e:k=n
  ·subst e; rw [Zl,Zl]
  ·rw [Zh _ _ (fun h=>e (hinj k hk n hn h)),Zh _ _ e]; exact ih
omit hinj in
theorem Znb {b:Zf} (hb:∀ n∈ZJ b,n∈sup) {m:Name} (h:(lk (Zih ρ b) m).isSome=true):∃ n∈sup,ρ n=m:=by
 obtain ⟨cs,hcs⟩:=Option.isSome_iff_exists.1 h
 have:=Zbj _ _ _ hcs
 simp only [Zih,List.mem_map,Prod.mk.injEq] at this
 obtain ⟨p,hp,rfl,_⟩:=this
 exact ⟨p.1,hb p.1 (List.mem_flatMap.2 ⟨p,hp,by simp⟩),rfl⟩
omit hinj in
theorem ZiI {b:Zr} (hb:∀ n∈ZK b,n∈sup) {m:Name} (h:(lk (Zii ρ b) m).isSome=true):∃ n∈sup,ρ n=m:=by
 obtain ⟨cs,hcs⟩:=Option.isSome_iff_exists.1 h
 have:=Zbj _ _ _ hcs
 simp only [Zii,List.mem_map,Prod.mk.injEq] at this
 obtain ⟨p,hp,rfl,_⟩:=this
 exact ⟨p.1,hb p.1 (List.mem_map.2 ⟨p,hp,rfl⟩),rfl⟩

theorem Zde (ha:Agree ρ sup ℓ ℓ') {b:Zf} {k:Zr} (hb:∀ n∈ZJ b,n∈sup) (hk:∀ n∈ZK k,n∈sup) {n:Name} (hn:n∈sup) {x:Nat}:Owns ℓ' (Zih ρ b) (Zii ρ k) (ρ n) x↔Owns ℓ b k n x:=by
 unfold Owns
 rw [Zd8 hinj hb hn,ZcO hinj hk hn,ha.i n hn,ha.h n hn,Option.isSome_map]
omit hinj in
theorem Zcr {b:Zf} {k:Zr} (hb:∀ n∈ZJ b,n∈sup) (hk:∀ n∈ZK k,n∈sup) {m:Name} {x:Nat} (h:Owns ℓ' (Zih ρ b) (Zii ρ k) m x):∃ n∈sup,ρ n=m:=by
 rcases h with ⟨h1,_⟩ | ⟨t,h1,_⟩ | ⟨t,h1,_⟩
 ·exact Znb hb h1
 ·exact ZiI hk (by simp [h1])
 ·exact ZiI hk (by simp [h1])

theorem ZsS (ha:Agree ρ sup ℓ ℓ') {b:Zf} {k:Zr} (hb:∀ n∈ZJ b,n∈sup) (hk:∀ n∈ZK k,n∈sup) {x:Nat}:(∃ m,Owns ℓ' (Zih ρ b) (Zii ρ k) m x)↔∃ n,Owns ℓ b k n x:=by
 constructor
 ·rintro ⟨m,h⟩
  obtain ⟨n,hn,rfl⟩:=Zcr hb hk h
  exact ⟨n,(Zde hinj ha hb hk hn).1 h⟩
 ·rintro ⟨n,h⟩
  have hn:n∈sup:=by
   rcases h with ⟨h1,_⟩ | ⟨t,h1,_⟩ | ⟨t,h1,_⟩
   ·obtain ⟨cs,hcs⟩:=Option.isSome_iff_exists.1 h1
    exact hb n (List.mem_flatMap.2 ⟨_,Zbj _ _ _ hcs,by simp⟩)
   ·exact hk n (List.mem_map.2 ⟨_,Zbj _ _ _ h1,rfl⟩)
   ·exact hk n (List.mem_map.2 ⟨_,Zbj _ _ _ h1,rfl⟩)
  exact ⟨ρ n,(Zde hinj ha hb hk hn).2 h⟩

theorem MemOK.ren (ha:Agree ρ sup ℓ ℓ') {b:Zf} {k:Zr} (hb:∀ n∈ZJ b,n∈sup) (hk:∀ n∈ZK k,n∈sup):MemOK ok ℓ' (Zih ρ b) (Zii ρ k) w↔MemOK ok ℓ b k w:=by
 have hbc:∀ n cs,lk b n=some cs→∀ m∈cs.flatMap C.names,m∈sup:=fun n cs h m hm=>hb m (List.mem_flatMap.2 ⟨_,Zbj _ _ _ h,by simp only [List.mem_cons]; exact .inr hm⟩)
 have hbn:∀ n cs,lk b n=some cs→n∈sup:=fun n cs h=>hb n (List.mem_flatMap.2 ⟨_,Zbj _ _ _ h,by simp⟩)
 have hkn:∀ n t,lk k n=some t→n∈sup:=fun n t h=>hk n (List.mem_map.2 ⟨_,Zbj _ _ _ h,rfl⟩)
 have hbox:∀ n cs,lk b n=some cs→(BoxOK ok ℓ' w (ρ n) (cs.map (C.ren ρ))↔BoxOK ok ℓ w n cs):=fun n cs h=>by
  unfold BoxOK
  rw [ha.i n (hbn n cs h)]
  constructor
  ·rintro ⟨vs,T,h1,h2,h3⟩; exact ⟨vs,T,h1,(RCs.ren ha (hbc n cs h)).1 h2,h3⟩
  ·rintro ⟨vs,T,h1,h2,h3⟩; exact ⟨vs,T,h1,(RCs.ren ha (hbc n cs h)).2 h2,h3⟩
 have hbuf:∀ n t,lk k n=some t→(BufOK ok ℓ' w (ρ n) t↔BufOK ok ℓ w n t):=fun n t h=>by
  unfold BufOK; rw [ha.h n (hkn n t h)]
 have harr:∀ n t,lk k n=some t→(ArrOK ok ℓ' w (ρ n) t↔ArrOK ok ℓ w n t):=fun n t h=>by
  unfold ArrOK; rw [ha.i n (hkn n t h),ha.z n (hkn n t h)]
 constructor
 ·intro h
  refine ⟨fun n cs hn=>?_,fun n t hn h1=>?_,fun n t hn h1=>?_,fun n hn=>?_,fun n m x hn hm=>?_,h.alive⟩
  ·have:=Zd8 hinj hb (hbn n cs hn)
   rw [hn] at this
   exact (hbox n cs hn).1 (h.box _ _ this)
  ·have:=ZcO hinj hk (hkn n t hn)
   rw [hn] at this
   exact (hbuf n t hn).1 (h.buf _ _ this h1)
  ·have:=ZcO hinj hk (hkn n t hn)
   rw [hn] at this
   exact (harr n t hn).1 (h.arr _ _ this h1)
  ·obtain ⟨cs,hcs⟩:=Option.isSome_iff_exists.1 hn
   have hns:=hbn n cs hcs
   rw [← ZcO hinj hk hns]
   exact h.apart _ (by rw [Zd8 hinj hb hns,Option.isSome_map]; exact hn)
  ·have hs:∀ n x,Owns ℓ b k n x→n∈sup:=by
    rintro n x (⟨h1,_⟩ | ⟨t,h1,_⟩ | ⟨t,h1,_⟩)
    ·obtain ⟨cs,hcs⟩:=Option.isSome_iff_exists.1 h1; exact hbn n cs hcs
    ·exact hkn n t h1
    ·exact hkn n t h1
   exact hinj n (hs n x hn) m (hs m x hm) (h.distinct _ _ x ((Zde hinj ha hb hk (hs n x hn)).2 hn) ((Zde hinj ha hb hk (hs m x hm)).2 hm))
 ·intro h
  refine ⟨fun m cs hm=>?_,fun m t hm h1=>?_,fun m t hm h1=>?_,fun m hm=>?_,fun m m' x hm hm'=>?_,h.alive⟩
  ·obtain ⟨n,hn,rfl⟩:=Znb (ρ:=ρ) (m:=m) hb (by rw [hm]; rfl)
   rw [Zd8 hinj hb hn,Option.map_eq_some_iff] at hm
   obtain ⟨cs0,h0,rfl⟩:=hm
   exact (hbox n cs0 h0).2 (h.box n cs0 h0)
  ·obtain ⟨n,hn,rfl⟩:=ZiI (ρ:=ρ) (m:=m) hk (by rw [hm]; rfl)
   rw [ZcO hinj hk hn] at hm
   exact (hbuf n t hm).2 (h.buf n t hm h1)
  ·obtain ⟨n,hn,rfl⟩:=ZiI (ρ:=ρ) (m:=m) hk (by rw [hm]; rfl)
   rw [ZcO hinj hk hn] at hm
   exact (harr n t hm).2 (h.arr n t hm h1)
  ·obtain ⟨n,hn,rfl⟩:=Znb hb hm
   rw [Zd8 hinj hb hn,Option.isSome_map] at hm
   rw [ZcO hinj hk hn]
   exact h.apart n hm
  ·obtain ⟨n,hn,rfl⟩:=Zcr hb hk hm
   obtain ⟨n',hn',rfl⟩:=Zcr hb hk hm'
   rw [h.distinct n n' x ((Zde hinj ha hb hk hn).1 hm) ((Zde hinj ha hb hk hn').1 hm')]
end

theorem Spec.ren {P:Program} {f:FuncId} {args:List V} {b b':Zf} {k k':Zr} {r:V} {lv0:Nat} (h:Spec P lv0 f args b k r b' k') (lv:Nat) (ρ:Name→Name) (sup:List Name)
  (hsup:(args.flatMap V.names++ZJ b++ZK k++r.names++ZJ b'++ZK k').all (fun n=>decide (n∈sup))=true)
  (hlv0:∀ n∈sup,n.lv≤lv0) (hinj:(sup.map ρ).Nodup) (hlv:∀ n∈sup,(ρ n).lv≤lv) :
  Spec P lv f (args.map (V.ren ρ)) (Zih ρ b) (Zii ρ k) (r.ren ρ) (Zih ρ b') (Zii ρ k'):=by
 classical
 have hinj':∀ x∈sup,∀ y∈sup,ρ x=ρ y→x=y:=by
  clear hsup hlv0 hlv
  induction sup with
  | nil=>simp
  | cons a sup ih =>
   rw [List.map_cons,List.nodup_cons] at hinj
   intro x hx y hy e
   rcases List.mem_cons.1 hx with h1 | hx <;> rcases List.mem_cons.1 hy with h2 | hy
   ·rw [h1,h2]
   ·exact absurd (List.mem_map.2 ⟨y,hy,by rw [← e,h1]⟩) hinj.1
   ·exact absurd (List.mem_map.2 ⟨x,hx,by rw [e,h2]⟩) hinj.1
   ·exact ih hinj.2 x hx y hy e
 simp only [List.all_eq_true,List.mem_append,decide_eq_true_eq] at hsup
 have s1:∀ n∈args.flatMap V.names,n∈sup:=fun n hn=>hsup n (by simp only [hn,true_or])
 have s2:∀ n∈ZJ b,n∈sup:=fun n hn=>hsup n (by simp only [hn,true_or,or_true])
 have s3:∀ n∈ZK k,n∈sup:=fun n hn=>hsup n (by simp only [hn,true_or,or_true])
 have s4:∀ n∈r.names,n∈sup:=fun n hn=>hsup n (by simp only [hn,true_or,or_true])
 have s5:∀ n∈ZJ b',n∈sup:=fun n hn=>hsup n (by simp only [hn,true_or,or_true])
 have s6:∀ n∈ZK k',n∈sup:=fun n hn=>hsup n (by simp only [hn,or_true])
 refine ⟨⟨fun m hm=>?_,fun p hp=>?_,fun p hp=>?_⟩,fun w ok ℓ us hm hus=>?_⟩
 ·obtain ⟨n,hn,rfl⟩:=V.has_ren hm
  exact hlv n (s4 n hn)
 ·simp only [Zih,List.mem_map] at hp
  obtain ⟨q,hq,rfl⟩:=hp
  refine ⟨hlv q.1 (s5 q.1 (List.mem_flatMap.2 ⟨q,hq,by simp⟩)),fun c hc m hm=>?_⟩
  obtain ⟨c0,hc0,rfl⟩:=List.mem_map.1 hc
  obtain ⟨n,hn,rfl⟩:=V.has_ren (v:=.c c0) hm
  exact hlv n (s5 n (List.mem_flatMap.2 ⟨q,hq,by simp only [List.mem_cons,List.mem_flatMap]; exact .inr ⟨c0,hc0,hn⟩⟩))
 ·simp only [Zii,List.mem_map] at hp
  obtain ⟨q,hq,rfl⟩:=hp
  exact hlv q.1 (s6 q.1 (List.mem_map.2 ⟨q,hq,rfl⟩))
 ·let ℓ0:Loc:=⟨fun n=>ℓ.i (ρ n),fun n=>ℓ.h (ρ n),fun n=>ℓ.z (ρ n)⟩
  have ha:Agree ρ sup ℓ0 ℓ:=⟨fun _ _=>rfl,fun _ _=>rfl,fun _ _=>rfl⟩
  have hm0:=(MemOK.ren hinj' ha s2 s3).1 hm
  have hus0:RVs ok ℓ0 w us args:=by
   refine ⟨by simpa using hus.1,fun i u v hu hv=>?_⟩
   exact (RV.ren ha (fun n hn=>s1 n (List.mem_flatMap.2 ⟨v,List.mem_of_getElem? hv,hn⟩))).1 (hus.2 i u (v.ren ρ) hu (by simp [hv]))
  have hmono:∀ (e:Ending) (w':World),(∃ u ok' ℓ',e=Ending.returned u∧Post lv0 ok ℓ0 b k w r b' k' ok' ℓ' w' u)→∃ u ok' ℓ',e=.returned u∧Post lv ok ℓ (Zih ρ b) (Zii ρ k) w (r.ren ρ) (Zih ρ b') (Zii ρ k') ok' ℓ' w' u:=by
   rintro e w' ⟨u,ok',ℓ1,rfl,hp⟩
   let pick:Name→Option Name:=fun m=>if hh:∃ n∈sup,ρ n=m then some hh.choose else none
   have hpick:∀ n∈sup,pick (ρ n)=some n:=fun n hn=>by
    have hh:∃ n'∈sup,ρ n'=ρ n:=⟨n,hn,rfl⟩
    simp only [pick,dif_pos hh]
    obtain ⟨h1,h2⟩:=hh.choose_spec
    rw [hinj' _ h1 n hn h2]
   have hnone:∀ m,(∀ n∈sup,ρ n≠m)→pick m=none:=fun m hh=>by
    simp only [pick]
    rw [dif_neg]
    rintro ⟨n,hn,e⟩
    exact hh n hn e
   let ℓ2:Loc:=⟨fun m=>match pick m with | some n=>ℓ1.i n | none=>ℓ.i m,fun m=>match pick m with | some n=>ℓ1.h n | none=>ℓ.h m,fun m=>match pick m with | some n=>ℓ1.z n | none=>ℓ.z m⟩
   have ha2:Agree ρ sup ℓ1 ℓ2:=⟨fun n hn=>by simp only [ℓ2,hpick n hn],fun n hn=>by simp only [ℓ2,hpick n hn],fun n hn=>by simp only [ℓ2,hpick n hn]⟩
   have hex:=fun x=>ZsS (x:=x) hinj' ha s2 s3
   have hext:(fun x=>∃ n,Owns ℓ (Zih ρ b) (Zii ρ k) n x)=fun x=>∃ n,Owns ℓ0 b k n x:=by funext x; exact propext (hex x)
   refine ⟨u,ok',ℓ2,rfl,by rw [hext]; exact hp.ext,(MemOK.ren hinj' ha2 s5 s6).2 hp.mem,(RV.ren ha2 s4).2 hp.val,hp.chg,fun x o ho=>?_,fun m x hx=>?_,fun m hml hnew=>?_⟩
   ·rw [hex x]; exact hp.sup x o ho
   ·rw [hex x]
    obtain ⟨n,hn,rfl⟩:=Zcr s5 s6 hx
    exact hp.own n x ((Zde hinj' ha2 s5 s6 hn).1 hx)
   ·by_cases hh:∃ n∈sup,ρ n=m
    ·obtain ⟨n,hn,rfl⟩:=hh
     have h3:=hp.loc n (hlv0 n hn) (fun hnn=>hnew ⟨by rw [Zd8 hinj' s2 hn,hnn.1]; rfl,by rw [ZcO hinj' s3 hn,hnn.2.1],by rw [Zd8 hinj' s5 hn,ZcO hinj' s6 hn,Option.isSome_map]; exact hnn.2.2⟩)
     obtain ⟨h4,h5⟩:=h3
     refine ⟨⟨by rw [ha2.i n hn]; exact h4.i,by rw [ha2.z n hn]; exact h4.z,by rw [ha2.h n hn]; exact h4.le,by rw [ha2.h n hn]; exact h4.eq⟩,fun e1 e2=>?_⟩
     rw [Zd8 hinj' s2 hn,Option.map_eq_none_iff] at e1
     rw [ZcO hinj' s3 hn] at e2
     rw [ha2.i n hn,ha2.z n hn,ha2.h n hn]
     exact h5 e1 e2
    ·have hno:=hnone m (fun n hn e=>hh ⟨n,hn,e⟩)
     refine ⟨.of_eq ⟨by simp only [ℓ2,hno],by simp only [ℓ2,hno],by simp only [ℓ2,hno]⟩,fun _ _=>⟨by simp only [ℓ2,hno],by simp only [ℓ2,hno],by simp only [ℓ2,hno]⟩⟩
  rcases h.2 w ok ℓ0 us hm0 hus0 with ⟨h1,h2⟩ | ⟨v,w',h1,h2⟩
  ·exact .inl ⟨h1,h2.mono hmono⟩
  ·exact .inr ⟨v,w',h1,hmono _ _ h2⟩

def Za9 (sup:List Name) (args:List V) (b:Zf) (k:Zr) (r:V) (b':Zf) (k':Zr):Prop :=
 (args.flatMap V.names++ZJ b++ZK k++r.names++ZJ b'++ZK k').all (fun n=>decide (n∈sup))=true

theorem Spec.ren1 {P:Program} {f:FuncId} {args:List V} {b b':Zf} {k k':Zr} {r:V} {lv:Nat} (h:Spec P 0 f args b k r b' k') (i:Nat) {n:Name}
  (hs:Za9 [⟨0,i⟩] args b k r b' k') (hn:n.lv≤lv) :
  Spec P lv f (args.map (V.ren fun _=>n)) (Zih (fun _=>n) b) (Zii (fun _=>n) k) (r.ren fun _=>n) (Zih (fun _=>n) b') (Zii (fun _=>n) k') :=
 h.ren lv _ [⟨0,i⟩] hs (by simp) (by simp) (by simpa using hn)

def ren2 (i:Nat) (n m:Name) (x:Name):Name:=bif Nat.beq x.s i then n else m
theorem Spec.ren2 {P:Program} {f:FuncId} {args:List V} {b b':Zf} {k k':Zr} {r:V} {lv:Nat} (h:Spec P 0 f args b k r b' k') (i j:Nat) {n m:Name}
  (hs:Za9 [⟨0,i⟩,⟨0,j⟩] args b k r b' k') (hn:n.lv≤lv) (hm:m.lv≤lv) (hd:m≠n) (hij:Nat.beq j i=false:=by rfl) :
  Spec P lv f (args.map (V.ren (ren2 i n m))) (Zih (ren2 i n m) b) (Zii (ren2 i n m) k) (r.ren (ren2 i n m)) (Zih (ren2 i n m) b') (Zii (ren2 i n m) k'):=by
 have e1:Go.Vam.ren2 i n m ⟨0,i⟩=n:=by simp [Go.Vam.ren2]
 have e2:Go.Vam.ren2 i n m ⟨0,j⟩=m:=by simp [Go.Vam.ren2,hij]
 refine h.ren lv _ [⟨0,i⟩,⟨0,j⟩] hs (by simp) ?_ ?_
 ·simp only [List.map_cons,List.map_nil,e1,e2,List.nodup_cons,List.mem_cons,List.not_mem_nil,or_false,not_false_eq_true,List.nodup_nil,and_true]
  exact hd.symm
 ·intro x hx
  simp only [List.mem_cons,List.not_mem_nil,or_false] at hx
  rcases hx with rfl | rfl
  ·rw [e1]; exact hn
  ·rw [e2]; exact hm

def ZkN (s F:Name) (x:Name):Name:=if x=s then F else x

theorem Post.out {lv:Nat} {ok:Zas} {ℓ:Loc} {b b':Zf} {k k':Zr} {w:World} {r:V} {ok':Zas} {ℓ':Loc} {w':World} {u:Value}
  {sup:List Name} {s F:Name} (hsl:¬ s.lv≤lv) (hFs:F∉sup) (hs:∀ n∈r.names++ZJ b'++ZK k',n∈sup) (hsn:s∈sup)
  (hFb:lk b F=none) (hFk:lk k F=none) (hn:(lk b' s).isSome=true∨(lk k' s).isSome=true)
  (ext:Ext (fun x=>∃ n,Owns ℓ b k n x) w w') (mem:MemOK ok' ℓ' b' k' w') (val:RV ok' ℓ' w' u r) (chg:Chg ok ok' w w')
  (sup':∀ x o,ok' x o→ok x o∨w.heap.size≤x∨∃ n,Owns ℓ b k n x)
  (own:∀ n x,Owns ℓ' b' k' n x→w.heap.size≤x∨∃ m,Owns ℓ b k m x)
  (loc:∀ n,n.lv≤lv→LocAt ℓ ℓ' n∧(lk b n=none→lk k n=none→ℓ'.i n=ℓ.i n∧ℓ'.z n=ℓ.z n∧ℓ'.h n=ℓ.h n)) :
  ∃ ℓ2,Post lv ok ℓ b k w (r.ren (ZkN s F)) (Zih (ZkN s F) b') (Zii (ZkN s F) k') ok' ℓ2 w' u:=by
 have hinj:∀ x∈sup,∀ y∈sup,ZkN s F x=ZkN s F y→x=y:=by
  intro x hx y hy e
  unfold ZkN at e
  split at e <;> split at e
  ·simp_all
  ·exact absurd (e ▸ hy) hFs
  ·exact absurd (e ▸ hx) hFs
  ·exact e
 simp only [List.mem_append] at hs
 have s4:∀ n∈r.names,n∈sup:=fun n hn=>hs n (.inl (.inl hn))
 have s5:∀ n∈ZJ b',n∈sup:=fun n hn=>hs n (.inl (.inr hn))
 have s6:∀ n∈ZK k',n∈sup:=fun n hn=>hs n (.inr hn)
 let ℓ2:Loc:=⟨fun m=>if m=F then ℓ'.i s else ℓ'.i m,fun m=>if m=F then ℓ'.h s else ℓ'.h m,fun m=>if m=F then ℓ'.z s else ℓ'.z m⟩
 have hsplit:∀ n∈sup,(n=s∧ZkN s F n=F)∨(ZkN s F n=n∧n≠F):=fun n hn=>by
  by_cases e:n=s
  ·exact .inl ⟨e,by simp [ZkN,e]⟩
  ·exact .inr ⟨by simp [ZkN,e],fun e'=>hFs (e' ▸ hn)⟩
 have ha:Agree (ZkN s F) sup ℓ' ℓ2:=by
  refine ⟨fun n hn=>?_,fun n hn=>?_,fun n hn=>?_⟩ <;> rcases hsplit n hn with ⟨h1,h2⟩ | ⟨h1,h2⟩ <;> simp only [ℓ2,h1,h2,if_true,if_false]
  all_goals simp [ZkN]
 refine ⟨ℓ2,ext,(MemOK.ren hinj ha s5 s6).2 mem,(RV.ren ha s4).2 val,chg,sup',fun m x hx=>?_,fun n hnl hnn=>?_⟩
 ·obtain ⟨n,hn',rfl⟩:=Zcr s5 s6 hx
  exact own n x ((Zde hinj ha s5 s6 hn').1 hx)
 ·have hnF:n≠F:=by
   rintro rfl
   refine hnn ⟨hFb,hFk,?_⟩
   have e:ZkN s n s=n:=by simp [ZkN]
   have h1:=Zd8 hinj s5 hsn
   have h2:=ZcO hinj s6 hsn
   rw [e] at h1 h2
   rw [h1,h2,Option.isSome_map]
   exact hn
  obtain ⟨h1,h2⟩:=loc n hnl
  refine ⟨⟨by simp only [ℓ2,if_neg hnF]; exact h1.i,by simp only [ℓ2,if_neg hnF]; exact h1.z,by simp only [ℓ2,if_neg hnF]; exact h1.le,by simp only [ℓ2,if_neg hnF]; exact h1.eq⟩,?_⟩
  simp only [ℓ2,if_neg hnF]
  exact h2

theorem Zk0 {X:Ctx} {lv:Nat} {f:FuncId} {fn:Func} {c:Code} {args:List V} {b b0 b':Zf} {k k0 k':Zr} {r0 r:V} (s F:Name) (hL:X.L=lv+1) (hn:X.n=fn.ntmps) (hT:TOk X) (hm:X.P.follows .mixedOrders=true)
  (hf:X.P.funcs[f]?=some fn) (hb:fn.body=some c) (hname:(fn.name == "runtime.NumGoroutine")=false) (ha:args.length≤fn.ntmps)
  (hr:r=r0.ren (ZkN s F)) (hb':b'=Zih (ZkN s F) b0) (hk':k'=Zii (ZkN s F) k0) (hlv:ZC2 lv r b' k') (hsl:¬ s.lv≤lv)
  (hF:(s::r0.names++ZJ b0++ZK k0).all (fun n=>decide (n≠F))=true) (hFb:lk b F=none) (hFk:lk k F=none) (hsn:(lk b0 s).isSome=true∨(lk k0 s).isSome=true)
  {QW:Exit→St→Prop} (hQ:∀ e st,QW e st→ZLW X fn.results.toList r0 b0 k0 e st) (h:∀ S a w,Sim X S ⟨Zuf 0 args,b,k⟩ a w→c.wp X.P (fun e a' w'=>∃ st',QW e st'∧Sim X S st' a' w') a w):Spec X.P lv f args b k r b' k':=by
 subst hr hb' hk'
 refine ⟨hlv,fun w ok ℓ us hmem hus=>.inl ⟨?_,?_⟩⟩
 ·simp only [beq_eq_false_iff_ne,ne_eq] at hname
  simp [callFunc,hf,hname,hb]
 refine calls_of_wp hf hb ?_
 let S:Start:=⟨w,ok,ℓ,fun x=>∃ n,Owns ℓ b k n x,fun n=>(lk b n).isSome=true∨(lk k n).isSome=true⟩
 have hs:Sim X S ⟨Zuf 0 args,b,k⟩ { tmps:=us++Array.replicate (fn.ntmps - us.size) undef,defers:=[]} w:=by
  refine ⟨ok,ℓ,rfl,?_,fun t v hv=>?_,hmem,.refl _ _,.refl _ _,fun _ _ h=>.inl h,fun n x h=>.inr ⟨n,h⟩,fun n _=>⟨.refl ℓ n,fun _=>⟨rfl,rfl,rfl⟩⟩,fun n _ h=>h⟩
  ·simp only [Array.size_append,Array.size_replicate,hn]
   have:=hus.1
   omega
  ·obtain ⟨_,h2⟩:=ZmR args 0 t v hv
   simp only [Nat.sub_zero] at h2
   have hlt:t < us.size:=by rw [hus.1]; exact (List.getElem?_eq_some_iff.1 h2).1
   refine ⟨us[t],?_,hus.2 t _ v (Array.getElem?_eq_getElem hlt) h2⟩
   rw [Array.getElem?_append_left hlt]
   exact Array.getElem?_eq_getElem hlt
 have hend:∀ (st:St) (a':Act) (w':World),(∃ st',Sub X st' st∧ZEI X fn.results.toList r0 b0 k0 st')→Sim X S st a' w'→
   a'.defers=[]∧∃ v,(results fn a'.tmps).run X.P w'=.ok v w'∧∃ u ok' ℓ',(Ending.returned v)=.returned u∧Post lv ok ℓ b k w (r0.ren (ZkN s F)) (Zih (ZkN s F) b0) (Zii (ZkN s F) k0) ok' ℓ' w' u:=by
  rintro st a' w' ⟨st',hsub,hv,hbs,hks⟩ hsim
  obtain ⟨ok',ℓ',hs'⟩:=hsub S a' w' hsim
  split at hv
  case h_2=>exact hv.elim
  rename_i v hv0
  obtain ⟨u,hu,hr⟩:=Zvn hT hs' hv0
  obtain ⟨hm',ho'⟩:=hs'.mem.le (Zg3 _ _ hbs) (Zg4 _ _ hks)
  simp only [List.all_eq_true,decide_eq_true_eq] at hF
  obtain ⟨ℓ2,hp⟩:=Post.out (sup:=s::r0.names++ZJ b0++ZK k0) (F:=F) hsl (fun hh=>hF F hh rfl) (fun n hn=>by
    simp only [List.mem_append,List.mem_cons] at hn ⊢
    rcases hn with (hn | hn) | hn
    ·exact .inl (.inl (.inr hn))
    ·exact .inl (.inr hn)
    ·exact .inr hn) (by simp) hFb hFk hsn hs'.ext hm' (hr.le hv) hs'.sub hs'.sup (fun n x hx=>hs'.own n x (ho' n x hx)) (fun n hn=>by
   obtain ⟨h1,h2⟩:=hs'.names n (by omega)
   refine ⟨h1,fun e1 e2=>h2 ?_⟩
   simp [S,e1,e2])
  exact ⟨hs'.defers,u,hu,u,ok',ℓ2,rfl,hp⟩
 refine wp_mono (h S _ w hs) ?_
 rintro e a' w' ⟨st,hq0,hsim⟩
 have hq:=hQ e st hq0
 cases e with
 | normal=>exact hend st a' w' hq hsim
 | ret=>exact hend st a' w' hq hsim
 | _=>exact hq.elim

abbrev ZmN:=List V→Zf→Zr→Name→Option Ent
def tab:List (FuncId×ZmN)→FuncId→List V→Zf→Zr→Name→Option Ent
 | [],_,_,_,_,_=>none
 | p::l,f,vs,b,k,n=>if f=p.1 then p.2 vs b k n else tab l f vs b k n
theorem ZGG {f:FuncId} {vs:List V} {b:Zf} {k:Zr} {n:Name}:tab [] f vs b k n=none:=Eq.trans rfl rfl
theorem ZEo {m:FuncId} {E:ZmN} {l:List (FuncId×ZmN)} {f:FuncId} {vs:List V} {b:Zf} {k:Zr} {n:Name}:tab ((m,E)::l) f vs b k n=if f=m then E vs b k n else tab l f vs b k n:=Eq.trans rfl rfl
def Snd (P:Program) (f:FuncId) (E:ZmN):Prop:=∀ vs b k n e,E vs b k n=some e→n.lv=1→e.pre→Spec P 1 f vs b k e.r e.b e.k
def ZHg (P:Program) (l:List (FuncId×ZmN)):Prop:=∀ p∈l,Snd P p.1 p.2
theorem Zb {P:Program}:ZHg P []:=fun _ h=>by cases h
theorem Za {P:Program} {f:FuncId} {E:ZmN} {l:List (FuncId×ZmN)} (h:Snd P f E) (hs:ZHg P l):ZHg P ((f,E)::l):=fun p hp=>by
 rcases List.mem_cons.1 hp with rfl | hp
 ·exact h
 ·exact hs p hp
theorem ZI {P:Program} {l:List (FuncId×ZmN)} (h:ZHg P l) (X:Ctx) (hP:X.P=P) (hL:X.L=1):∀ f vs b k n e,tab l f vs b k n=some e→n.lv=X.L→e.pre→Spec X.P X.L f vs b k e.r e.b e.k:=by
 rw [hP,hL]
 intro f vs b k n e he hn hp
 induction l with
 | nil=>cases he
 | cons p l ih =>
  simp only [tab] at he
  split at he
  ·rename_i hf
   subst hf
   exact h p (by simp) vs b k n e he hn hp
  ·exact ih (fun q hq=>h q (by simp [hq])) he

end Go.Vam
end
section
set_option linter.unusedVariables false
set_option linter.unusedSimpArgs false
namespace Go.Vam

def Zc (l:List D):List Int:=l.map D.toI
def LI (k:IntKind) (l:List Int):List D:=l.map (D.int k)

section
variable {k:IntKind} {l m:List Int} {n:Nat} {x z:Int}
theorem Zi:Zc (LI k l)=l:=by
 simp only [Zc,LI,List.map_map]
 rw [show (D.toI ∘ D.int k)=id from rfl,List.map_id]
theorem Zq {q:List D} (e:q=LI k (Zc q)):∃ l,q=LI k l:=⟨_,e⟩
theorem Zw:LI k []=[]:=rfl
theorem ZgM:(LI k l).length=l.length:=List.length_map ..
theorem ZFv:((LI k l)[n]?).getD (D.int k z)=D.int k (l[n]?.getD z):=by
 simp only [LI,List.getElem?_map]
 cases l[n]? <;> rfl
theorem ZFx:(LI k l).take n=LI k (l.take n):=(List.map_take ..).symm
theorem ZFu:(LI k l).drop n=LI k (l.drop n):=(List.map_drop ..).symm
theorem Zzn:LI k l++LI k m=LI k (l++m):=(List.map_append ..).symm
theorem ZFw:LI k l++[D.int k x]=LI k (l++[x]):=by simp [LI]
theorem ZmO:(∀ y∈LI k l,y.cells.length=1)=True:=by
 refine eq_true fun y hy=>?_
 obtain ⟨x,_,rfl⟩:=List.mem_map.1 hy
 rfl
theorem ZG8:(LI k l=LI k m)=(l=m):=by
 refine propext ⟨fun h=>?_,fun h=>by rw [h]⟩
 have:=congrArg Zc h
 rwa [Zi,Zi] at this
theorem Zzo:(LI k l=[])=(l=[]):=by
 cases l <;> simp [LI]
theorem ZG9 {i:Nat}:(LI k l).set i (D.int k x)=LI k (l.set i x):=(List.map_set ..).symm
theorem Zpe:List.replicate n (D.int k x)=LI k (List.replicate n x):=by simp [LI]
theorem ZwJ:(LI k l=LI k (Zc (LI k l)))=True:=by rw [Zi]; exact eq_self _
theorem Zsn:(([]:List D)=LI k (Zc []))=True:=by simp [LI,Zc]
end

def LB (l:List UInt8):List D:=l.map fun b=>D.int .u8 b.toNat
def bys (q:List D):List UInt8:=q.map fun d=>UInt8.ofNat d.toI.toNat
section
variable {l m:List UInt8} {n:Nat} {x:Int}
theorem Zo:bys (LB l)=l:=by
 simp only [bys,LB,List.map_map]
 rw [show ((fun d:D=>UInt8.ofNat d.toI.toNat) ∘ fun b:UInt8=>D.int .u8 b.toNat)=id from ?_,List.map_id]
 funext b
 simp [D.toI]
theorem Zpc {q:List D} (e:q=LB (bys q)):∃ l,q=LB l:=⟨_,e⟩
theorem ZG6:LB []=[]:=rfl
theorem Zzl:(LB l).length=l.length:=List.length_map ..
theorem ZFq:((LB l)[n]?).getD (D.int .u8 0)=D.int .u8 ((l[n]?.getD 0).toNat):=by
 simp only [LB,List.getElem?_map]
 cases l[n]? <;> rfl
theorem ZFs:(LB l).take n=LB (l.take n):=(List.map_take ..).symm
theorem ZFp:(LB l).drop n=LB (l.drop n):=(List.map_drop ..).symm
theorem Zzj:LB l++LB m=LB (l++m):=(List.map_append ..).symm
theorem ZCZ:(∀ y∈LB l,y.cells.length=1)=True:=by
 refine eq_true fun y hy=>?_
 obtain ⟨x,_,rfl⟩:=List.mem_map.1 hy
 rfl
theorem ZG5:(LB l=LB m)=(l=m):=by
 refine propext ⟨fun h=>?_,fun h=>by rw [h]⟩
 have:=congrArg bys h
 rwa [Zo,Zo] at this
theorem Zzm:(LB l=[])=(l=[]):=by
 cases l <;> simp [LB]
theorem Zzk:(LB l=LB (bys (LB l)))=True:=by rw [Zo]; exact eq_self _
def ZEf (l:List UInt8):ByteArray:=⟨l.toArray⟩
theorem ZGC:ZEh (LB l)=ZEf l:=by
 simp only [ZEh,strOfNums,ZEf,LB,List.map_map]
 congr 2
 conv=>rhs; rw [← List.map_id l]
 apply List.map_congr_left
 intro b _
 simp [D.toI]
theorem ZEi:ZEh []=ZEf []:=Eq.trans rfl rfl
theorem ZtW:(ZEf l).toList=l:=by rw [ByteArray.toList_eq]; rfl
theorem ZEg:ZEf l++ZEf m=ZEf (l++m):=by
 apply ByteArray.ext
 simp [ZEf]
theorem ZCu:(ZEf l).size=l.length:=Eq.trans rfl rfl
theorem ZzI {a:List UInt8}:(ByteArray.mk a.toArray).toList=a:=by rw [ByteArray.toList_eq]
theorem ZLG:(∀ y∈LB l,y.isU8=true)=True:=by
 refine eq_true fun y hy=>?_
 obtain ⟨x,_,rfl⟩:=List.mem_map.1 hy
 rfl
theorem ZFr {b:UInt8}:LB l++[D.int .u8 b.toNat]=LB (l++[b]):=by simp [LB]
theorem Zpd:List.replicate n (D.int .u8 0)=LB (List.replicate n 0):=by simp [LB]
theorem ZG7 {i:Nat} {b:UInt8}:(LB l).set i (D.int .u8 b.toNat)=LB (l.set i b):=(List.map_set ..).symm
theorem LI_LB (l:List Int) (h:∀ x∈l,0≤x∧x≤255):∃ m:List UInt8,LI .u8 l=LB m:=by
 refine ⟨l.map fun x=>UInt8.ofNat x.toNat,?_⟩
 simp only [LI,LB,List.map_map]
 apply List.map_congr_left
 intro x hx
 have:=h x hx
 simp only [Function.comp_apply]
 congr 1
 have e:(UInt8.ofNat x.toNat).toNat=x.toNat:=by
  rw [UInt8.toNat_ofNat']
  omega
 rw [e]; omega
theorem ZNp (b:UInt8):((b.toNat:Nat):Int)≤255:=by have:=b.toNat_lt; omega
end

def dN (l:List UInt8) (n:Int):Int:=if n≤1 then 0 else ((l.headD 0).toNat:Int) % n
def dT (l:List UInt8) (n:Int):List UInt8:=if n≤1 then l else l.tail
theorem Zm0 (l:List UInt8) (n:Int):0≤dN l n:=by
 unfold dN; split
 ·exact Int.le_refl _
 ·exact Int.emod_nonneg _ (by omega)
theorem Zm1 (l:List UInt8) (n:Int) (h:0 < n):dN l n < n:=by
 unfold dN; split
 ·exact h
 ·exact Int.emod_lt_of_pos _ h

end Go.Vam
end
