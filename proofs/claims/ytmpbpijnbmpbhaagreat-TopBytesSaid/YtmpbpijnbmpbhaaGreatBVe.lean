/- A part of the proof. Conditions: none. -/
import Derived.Test.YtmpbpijnbmpbhaaGreatBVd
section
set_option linter.unusedVariables false
set_option linter.unusedSimpArgs false
namespace Go.Vam

section
variable {ok:Zas} {ℓ:Loc} {w:World}

theorem Zm3 (sz:Nat):∀ (us:List Value) (i0:Nat) (cs:Array Value),(∀ u∈us,u.cells.size=sz)→(i0+us.length)*sz≤cs.size→
  ∃ cs',Instr.fill (fun i=>some (i*sz,sz)) cs ((List.range' i0 us.length).zip us)=some cs'∧cs'.size=cs.size∧(∀ x,x < i0*sz→cs'[x]?=cs[x]?)∧
   ∀ (p:Nat) u (j:Nat) v,us[p]?=some u→u.cells[j]?=some v→cs'[(i0+p)*sz+j]?=some v
 | [],i0,cs,_,_=>⟨cs,by simp [Instr.fill],rfl,fun _ _=>rfl,by simp⟩
 | u::us,i0,cs,h,hs=>by
  have hu:=h u (by simp)
  simp only [List.length_cons] at hs
  have hmul:(i0+(us.length+1))*sz=i0*sz+sz+us.length*sz:=by rw [Nat.add_mul,Nat.add_mul,Nat.one_mul]; omega
  obtain ⟨cs',h1,h2,h3,h4⟩:=Zm3 sz us (i0+1) (ZP cs (i0*sz) u.cells.toList) (fun u hu=>h u (by simp [hu])) (by rw [ZbH]; rw [show i0+1+us.length=i0+(us.length+1) by omega]; exact hs)
  refine ⟨cs',?_,by rw [h2,ZbH],fun x hx=>?_,fun p u' j v hp hv=>?_⟩
  ·simp only [List.length_cons,List.range'_succ,List.zip_cons_cons,Instr.fill]
   have e1:¬ (u.cells.size≠sz∨i0*sz+u.cells.size > cs.size):=by omega
   rw [if_neg (by simpa using e1),Zkr]
   exact h1
  ·rw [h3 x (by rw [Nat.add_mul,Nat.one_mul]; omega),Za7 _ _ _ _ (.inl hx)]
  ·cases p with
   | zero =>
    simp only [List.getElem?_cons_zero,Option.some.injEq] at hp
    subst hp
    have hj:j < sz:=by rw [← hu]; exact (Array.getElem?_eq_some_iff.1 hv).1
    rw [Nat.add_zero,h3 _ (by rw [Nat.add_mul,Nat.one_mul]; omega)]
    rw [ZdN _ _ _ _ (by simp only [Array.length_toList,hu]; omega) (by simp only [Array.length_toList,hu]; exact hj)]
    simpa using hv
   | succ p =>
    simp only [List.getElem?_cons_succ] at hp
    rw [show i0+(p+1)=i0+1+p by omega]
    exact h4 p u' j v hp hv

theorem ZnM:∀ (vs:List V) (l:List D),toDs vs=some l→l.length=vs.length∧∀ (i:Nat) x,l[i]?=some x→∃ v,vs[i]?=some v∧v.toD=some x
 | [],l,h=>by simp only [toDs,Option.some.injEq] at h; subst h; simp
 | v::vs,l,h=>by
  simp only [toDs] at h
  split at h
  case h_2=>cases h
  rename_i x xs hx hxs
  simp only [Option.some.injEq] at h
  subst h
  obtain ⟨h1,h2⟩:=ZnM vs xs hxs
  refine ⟨by simp [h1],fun i y hy=>?_⟩
  cases i with
  | zero=>simp at hy; subst hy; exact ⟨v,by simp,hx⟩
  | succ i=>simp at hy; simpa using h2 i y hy

theorem Zmr {P:Program} {e:TypeId} {ei:TI} {i:TypeInfo} {d:TypeDesc} {z:Value} (h:TI.Ok P e ei i d z) {x:D} (hx:Zft ei=some x) (hxl:x.cells.length=ei.size) (n c:Nat) (hn:n≤c) :
  Holds ok w ei.size (List.replicate n x) (fun k=>(madeCells z.cells (c*i.size))[k]?):=by
 have hzc:RCs ok ⟨fun _=>0,fun _=>.bool false,fun _=>0⟩ w z.cells ei.zero:=by simpa using (Zdi ok ⟨fun _=>0,fun _=>.bool false,fun _=>0⟩ w z.cells.toList ei.zero h.zcells).1
 unfold Zft at hx
 split at hx
 case h_2=>cases hx
 rename_i ds hds
 obtain ⟨h1,h2⟩:=hzc.toDs hds
 have hxc:x.cells=ds:=by
  split at hx
  ·simp only [Option.some.injEq] at hx; subst hx; rfl
  ·split at hx
   ·simp only [Option.some.injEq] at hx
    subst hx
    rename_i y
    have:=(h2 0 y (by simp)).1
    cases y <;> first | rfl | simp [D.sc] at this
   ·cases hx
 have hzs:z.cells.size=ei.size:=by rw [← h1,← hxc,hxl]
 refine ⟨fun y hy=>by rw [List.eq_of_mem_replicate hy]; exact hxl,fun p y j q hy hq=>?_⟩
 have hp:p < n:=by have:=(List.getElem?_eq_some_iff.1 hy).1; simpa using this
 rw [List.getElem?_replicate,if_pos hp] at hy
 cases hy
 rw [hxc] at hq
 obtain ⟨hsc,u,hu,hrep⟩:=h2 j q hq
 have hj:j < ei.size:=by rw [← hzs]; exact (Array.getElem?_eq_some_iff.1 hu).1
 refine ⟨hsc,u,?_,hrep⟩
 have hlt:p*ei.size+j < c*i.size:=by
  rw [h.size]
  have:(p+1)*ei.size≤c*ei.size:=Nat.mul_le_mul_right _ (by omega)
  rw [Nat.add_mul,Nat.one_mul] at this; omega
 simp only [madeCells,Array.getElem?_map]
 rw [Array.getElem?_range,if_pos hlt]
 have hmod:(p*ei.size+j) % z.cells.size=j:=by rw [hzs,Nat.mul_comm,Nat.mul_add_mod]; exact Nat.mod_eq_of_lt hj
 simp only [Option.map_some,hmod]
 rw [getElem!_def,hu]
end

section
variable {X:Ctx} {gd:Option Bool} {o:Oper}

theorem Zna {z:Array Value} {n i:Nat} {u:Value} (hz:z.size=1) (h:(madeCells z n)[i]?=some u):z[0]?=some u:=by
 unfold madeCells at h
 rw [Array.getElem?_map] at h
 obtain ⟨k,_,rfl⟩:=Option.map_eq_some_iff.1 h
 rw [hz,Nat.mod_one,Array.getElem?_eq_getElem (by omega),getElem!_pos z 0 (by omega)]
theorem ZmW {u:Value} (h:u.oneCell'=true):u.cells.size=1:=by
 cases u <;> first | rfl | cases h
theorem ZwR {u:Value} (h:u.oneCell'=true):u.cells[0]?=some u:=by
 cases u <;> first | rfl | cases h
theorem ZvH:∀ (vs:List V) (cs:List C),ZEu vs=some cs→cs.length=vs.length∧∀ (i:Nat) v,vs[i]?=some v→∃ x,cs[i]?=some x∧v=.c x
 | [],cs,h=>by simp only [ZEu,Option.some.injEq] at h; subst h; simp
 | .c x::vs,cs,h=>by
  simp only [ZEu,Option.map_eq_some_iff] at h
  obtain ⟨cs',h1,rfl⟩:=h
  obtain ⟨h2,h3⟩:=ZvH vs cs' h1
  refine ⟨by simp [h2],fun i v hv=>?_⟩
  cases i with
  | zero=>simp at hv; subst hv; exact ⟨x,by simp,rfl⟩
  | succ i=>simp at hv; simpa using h3 i v hv
 | .agg _::_,_,h=>by cases h
 | .tup _::_,_,h=>by cases h
 | .ts _ _::_,_,h=>by cases h
 | .g _ _::_,_,h=>by cases h

theorem Zlj (hT:TOk X) (hd:∀ d,o.dst=some d→d < X.n) (hg:gd.getD true=true) {t:TypeId} {len:Nat} {ps:Array (Nat×Operand)} (ho:o.op=.buildSlice t len ps):ZcU X gd o:=by
 rintro S st a w R r hr hfr ⟨ok,ℓ,hs⟩ K Q hK
 simp only [Z6,ho] at hr
 obtain ⟨vs,R1,h1,h2,hf1⟩:=ZcP hs hg _ hr
 obtain ⟨ti,hti,h3⟩:=Zg h2
 obtain ⟨e,he,h4⟩:=Zg h3
 obtain ⟨ei,hei,h5⟩:=Zg h4
 obtain ⟨i,dsc,z,hto⟩:=TI.ok (hT t ti hti)
 obtain ⟨i',dsc',z',heo⟩:=TI.ok (hT e ei hei)
 have hu:=hto.und
 rw [hto.elem e he] at hu
 split at h5
 case isFalse=>exact (Zv h5).elim
 rename_i hc
 have hlen0:ps.toList.length=len:=by have:=congrArg List.length hc.1; simpa using this
 split at h5
 ·obtain ⟨rfl,h6⟩:=Zb8 h5
  obtain ⟨hone,h7⟩:=ZC h6
  obtain ⟨cs,hcs,h8⟩:=Zg h7
  obtain ⟨d,hdd,h9⟩:=Zg h8
  have hrr:=Zt h9
  subst hrr
  obtain ⟨hc1,hc2⟩:=ZvH vs cs hcs
  have hus:((ps.toList.map (·.2)).map a.eval).length=len:=by simp [hlen0]
  have hvl:vs.length=len:=by have:=h1.1; simp only [List.size_toArray] at this; omega
  have hcell:∀ (p:Nat) u,((ps.toList.map (·.2)).map a.eval)[p]?=some u→∃ x,cs[p]?=some x∧RC ok ℓ w u x∧∀ n,x.has n→∃ v,v∈vs∧v.has n:=by
   intro p u hp
   have hlt:p < vs.length:=by rw [hvl,← hus]; exact (List.getElem?_eq_some_iff.1 hp).1
   obtain ⟨x,hx1,hx2⟩:=hc2 p vs[p] (List.getElem?_eq_getElem hlt)
   have hrv:=h1.2 p u vs[p] (by simpa using hp) (List.getElem?_eq_getElem hlt)
   rw [hx2] at hrv
   exact ⟨x,hx1,hrv,fun n hn=>⟨vs[p],List.getElem_mem hlt,by rw [hx2]; exact hn⟩⟩
  have husz:∀ u∈(ps.toList.map (·.2)).map a.eval,u.cells.size=ei.size:=by
   intro u hu
   obtain ⟨p,hp⟩:=List.mem_iff_getElem?.1 hu
   obtain ⟨x,_,hx,_⟩:=hcell p u hp
   rw [ZmW hx.oneCell,hone]
  have hrun:∃ cs':Array Value,(Instr.buildSlice t len (ps.map fun p=>(p.1,a.eval p.2))).run X.P w=.ok (.slice (some ⟨w.heap.size,0,none⟩) len len) (w.alloc (.cells cs' e))∧cs'.size=len∧∀ (p:Nat) (u:Value),((ps.toList.map (·.2)).map a.eval)[p]?=some u→cs'[p]?=some u:=by
   let base:Array Value:=(Array.range (len*ei.size)).map fun k=>(if len*ei.size=0 then #[] else z'.cells)[k % (if len*ei.size=0 then #[] else z'.cells).size]!
   obtain ⟨cs',h9,h10,_,h11⟩:=Zm3 ei.size ((ps.toList.map (·.2)).map a.eval) 0 base husz (by rw [hus]; simp [base])
   have hzip:(ps.map fun p=>(p.1,a.eval p.2)).toList=(List.range' 0 ((ps.toList.map (·.2)).map a.eval).length).zip ((ps.toList.map (·.2)).map a.eval):=by
    rw [hus,← List.range_eq_range',← hc.1]
    simp only [Array.toList_map,List.map_map]
    rw [List.zip_map']
    rfl
   refine ⟨cs',?_,by rw [h10]; simp [base,hone],fun p u hp=>?_⟩
   ·have hz:(zeroValue e).run X.P w=.ok z' w:=by simp [zeroValue,typeInfo,heo.info,heo.zero]
    have hnb:¬ (len*ei.size > 2 ^ 24):=by have:=hc.2; omega
    rw [← hzip] at h9
    simp only [Instr.buildSlice,Sem.run_bind,run_underlying hu,Result.andThen_ok,ZO heo,hnb,if_false,Sem.run_pure]
    by_cases h0:len*ei.size=0
    ·simp only [h0,if_true,Sem.run_bind,Sem.run_pure,Result.andThen_ok]
     simp only [base,h0,if_true] at h9
     rw [h9]
     simp [newRow]
    ·simp only [h0,if_false,Sem.run_bind,hz,Result.andThen_ok,Sem.run_pure]
     simp only [base,h0,if_false] at h9
     rw [h9]
     simp [newRow]
   ·obtain ⟨x,_,hx,_⟩:=hcell p u hp
    have:=h11 p u 0 u hp (by rw [ZwR hx.oneCell])
    rwa [Nat.zero_add,hone,Nat.mul_one,Nat.add_zero] at this
  obtain ⟨cs',hrun,hcs1,hcs2⟩:=hrun
  have hex:(execOp a.eval o).run X.P w=.ok (.value (.slice (some ⟨w.heap.size,0,none⟩) len len)) (w.alloc (.cells cs' e)):=by
   simp [execOp,ho,hrun]
  have hrow:RCs ok ℓ w cs' cs:=by
   refine ⟨by rw [hcs1,hc1,hvl],fun i u c hu' hc'=>?_⟩
   have hi:i < ((ps.toList.map (·.2)).map a.eval).length:=by rw [hus,← hcs1]; exact (Array.getElem?_eq_some_iff.1 hu').1
   obtain ⟨x,hx1,hx2,_⟩:=hcell i _ (List.getElem?_eq_getElem hi)
   rw [hc'] at hx1
   cases hx1
   have:=hcs2 i _ (List.getElem?_eq_getElem hi)
   rw [hu'] at this
   cases this
   exact hx2
  have hfree:=hfr ⟨X.L,d⟩ (by simp)
  have hnew:=hs.newBox hfree e hrow (fun c hc' hh=>by
   obtain ⟨i,hi⟩:=List.getElem?_of_mem hc'
   have hil:i < ((ps.toList.map (·.2)).map a.eval).length:=by rw [hus,← hvl,← hc1]; exact (List.getElem?_eq_some_iff.1 hi).1
   obtain ⟨x,hx1,_,hx3⟩:=hcell i _ (List.getElem?_eq_getElem hil)
   rw [hi] at hx1
   cases hx1
   obtain ⟨v,hv,hvn⟩:=hx3 _ hh
   exact hf1 _ hfree v hv hvn)
  refine Zu hex (hK _ _ (Sim.fin hnew hd hg (fun _=>?_)))
  simp only [RV,RC,Loc.setI,if_true]
 obtain ⟨l,h6,h7⟩:=Zg h5
 obtain ⟨huni,h8⟩:=ZC h7
 obtain ⟨hl1,hl2⟩:=ZnM vs l h6
 have hlen:ps.toList.length=len:=by have:=congrArg List.length hc.1; simpa using this
 have hus:((ps.toList.map (·.2)).map a.eval).length=len:=by simp [hlen]
 have hvl:vs.length=len:=by have:=h1.1; simp only [List.size_toArray] at this; omega
 have hll:l.length=len:=by omega
 have hcell:∀ (p:Nat) u,((ps.toList.map (·.2)).map a.eval)[p]?=some u→∃ x,l[p]?=some x∧x.cells.length=u.cells.size∧∀ (j:Nat) y,x.cells[j]?=some y→y.sc=true∧∃ z,u.cells[j]?=some z∧Rep ok w z y:=by
  intro p u hp
  have hlt:p < l.length:=by rw [hll,← hus]; exact (List.getElem?_eq_some_iff.1 hp).1
  obtain ⟨v,hv,hvd⟩:=hl2 p l[p] (List.getElem?_eq_getElem hlt)
  obtain ⟨h9,h10⟩:=ZCG (h1.2 p u v (by simpa using hp) hv) hvd
  exact ⟨l[p],List.getElem?_eq_getElem hlt,h9,h10⟩
 have husz:∀ u∈(ps.toList.map (·.2)).map a.eval,u.cells.size=ei.size:=by
  intro u hu
  obtain ⟨p,hp⟩:=List.mem_iff_getElem?.1 hu
  obtain ⟨x,hx,h9,_⟩:=hcell p u hp
  rw [← h9]; exact huni x (List.mem_of_getElem? hx)
 have hzero:∀ f:Nat→Value,((Array.range (len*ei.size)).map f).size=len*ei.size:=by intro f; simp
 have hrun:∃ cs',(Instr.buildSlice t len (ps.map fun p=>(p.1,a.eval p.2))).run X.P w=.ok (.slice (some ⟨w.heap.size,0,none⟩) len len) (w.alloc (.cells cs' e))∧cs'.size=len*ei.size∧Holds ok w ei.size l (fun k=>cs'[k]?):=by
  let base:Array Value:=(Array.range (len*ei.size)).map fun k=>(if len*ei.size=0 then #[] else z'.cells)[k % (if len*ei.size=0 then #[] else z'.cells).size]!
  obtain ⟨cs',h9,h10,_,h11⟩:=Zm3 ei.size ((ps.toList.map (·.2)).map a.eval) 0 base husz (by rw [hus]; simp [base])
  have hzip:(ps.map fun p=>(p.1,a.eval p.2)).toList=(List.range' 0 ((ps.toList.map (·.2)).map a.eval).length).zip ((ps.toList.map (·.2)).map a.eval):=by
   rw [hus,← List.range_eq_range',← hc.1]
   simp only [Array.toList_map,List.map_map]
   rw [List.zip_map']
   rfl
  refine ⟨cs',?_,by rw [h10]; simp [base],huni,fun p x j y hx hy=>?_⟩
  ·have hz:(zeroValue e).run X.P w=.ok z' w:=by simp [zeroValue,typeInfo,heo.info,heo.zero]
   have hnb:¬ (len*ei.size > 2 ^ 24):=by have:=hc.2; omega
   rw [← hzip] at h9
   simp only [Instr.buildSlice,Sem.run_bind,run_underlying hu,Result.andThen_ok,ZO heo,hnb,if_false,Sem.run_pure]
   by_cases h0:len*ei.size=0
   ·simp only [h0,if_true,Sem.run_bind,Sem.run_pure,Result.andThen_ok]
    simp only [base,h0,if_true] at h9
    rw [h9]
    simp [newRow]
   ·simp only [h0,if_false,Sem.run_bind,hz,Result.andThen_ok,Sem.run_pure]
    simp only [base,h0,if_false] at h9
    rw [h9]
    simp [newRow]
  ·have hlt:p < len:=by rw [← hll]; exact (List.getElem?_eq_some_iff.1 hx).1
   have hp:((ps.toList.map (·.2)).map a.eval)[p]?=some ((ps.toList.map (·.2)).map a.eval)[p]:=List.getElem?_eq_getElem (by omega)
   obtain ⟨x',hx',_,h12⟩:=hcell p _ hp
   rw [hx] at hx'
   cases hx'
   obtain ⟨hsc,u,hu',hrep⟩:=h12 j y hy
   refine ⟨hsc,u,?_,hrep⟩
   have:=h11 p _ j u hp hu'
   rwa [Nat.zero_add] at this
 obtain ⟨cs',hrun,hcs,hh⟩:=hrun
 have hex:(execOp a.eval o).run X.P w=.ok (.value (.slice (some ⟨w.heap.size,0,none⟩) len len)) (w.alloc (.cells cs' e)):=by
  simp [execOp,ho,hrun]
 rw [show len=l.length from hll.symm] at hex
 split at h8
 ·obtain ⟨rfl,h9⟩:=Zb8 h8
  obtain ⟨d,hdd,h10⟩:=Zg h9
  have hrr:=Zt h10
  subst hrr
  obtain ⟨ℓ',hs',hrv⟩:=hs.newBuf (hfr ⟨X.L,d⟩ (by simp)) (T:=e) (cap:=l.length) (Nat.le_refl _) (by rw [hcs,hll]) hh
  exact Zu hex (hK _ _ (Sim.fin hs' hd hg (fun _=>hrv)))
 ·rw [Zt h8] at hK
  have hs':=hs.newRow (.cells cs' e) (l.length*ei.size)
  have hrep:=Rep.newRow hs.mem.alive e (cap:=l.length) (Nat.le_refl _) hh
  exact Zu hex (hK _ _ (Sim.fin hs' hd hg (fun _=>⟨hrep,rfl⟩)))

theorem Zns (hT:TOk X) (hd:∀ d,o.dst=some d→d < X.n) (hg:gd.getD true=true) {t:TypeId} {x y:Operand} (ho:o.op=.makeSlice t x y):ZcU X gd o:=by
 rintro S st a w R r hr hfr ⟨ok,ℓ,hs⟩ K Q hK
 simp only [Z6,ho] at hr
 obtain ⟨xv,R1,h1,h2,hf1⟩:=ZX hs hg hr
 obtain ⟨yv,R2,h3,h4,hf2⟩:=ZX hs hg h2
 obtain ⟨k,n,rfl,h5⟩:=Zb4 h4
 obtain ⟨k',m,rfl,h6⟩:=Zb4 h5
 obtain ⟨ti,hti,h7⟩:=Zg h6
 obtain ⟨e,he,h8⟩:=Zg h7
 obtain ⟨ei,hei,h9⟩:=Zg h8
 obtain ⟨zd,hzd,h10⟩:=Zg h9
 obtain ⟨⟨g0,g1,g2,g3⟩,h11⟩:=Z1 hg h10
 obtain ⟨i,dsc,z,hto⟩:=TI.ok (hT t ti hti)
 obtain ⟨i',dsc',z',heo⟩:=TI.ok (hT e ei hei)
 have hu:=hto.und
 rw [hto.elem e he] at hu
 have hx:a.eval x=.int k n:=h1.1.int_inv
 have hy:a.eval y=.int k' m:=h3.1.int_inv
 split at h11
 case isFalse=>exact (Zv h11).elim
 rename_i hc
 have hh:=Zmr (ok:=ok) (w:=w) heo hzd hc.1 n.toNat m.toNat (by omega)
 have hcs:(madeCells z'.cells (m.toNat*i'.size)).size=m.toNat*ei.size:=by rw [size_madeCells,heo.size]
 have hex:(execOp a.eval o).run X.P w=.ok (.value (.slice (some ⟨w.heap.size,0,none⟩) n.toNat m.toNat)) (w.alloc (.cells (madeCells z'.cells (m.toNat*i'.size)) e)):=by
  have hb:(i'.bytes:Int)*m≤281474976710656:=by rw [heo.bytes,Int.mul_comm]; omega
  simp [execOp,ho,hx,hy,run_make w t e i' z' hu heo.info heo.zero k k' n m g0 g1 hb g3]
 split at h11
 ·obtain ⟨rfl,h12⟩:=Zb8 h11
  obtain ⟨d,hdd,h13⟩:=Zg h12
  have hrr:=Zt h13
  subst hrr
  obtain ⟨ℓ',hs',hrv⟩:=hs.newBuf (hfr ⟨X.L,d⟩ (by simp)) (T:=e) (cap:=m.toNat) (by simp; omega) hcs hh
  rw [show (List.replicate n.toNat zd).length=n.toNat by simp] at hrv hs'
  exact Zu hex (hK _ _ (Sim.fin hs' hd hg (fun _=>hrv)))
 ·split at h11
  ·obtain ⟨rfl,h12⟩:=Zb8 h11
   obtain ⟨rfl,h13⟩:=ZC h12
   obtain ⟨d,hdd,h14⟩:=Zg h13
   have hrr:=Zt h14
   subst hrr
   obtain ⟨ℓ',hs',hrv⟩:=hs.newArr (hfr ⟨X.L,d⟩ (by simp)) (T:=e) (Nat.le_of_eq (by simpa using hcs.symm)) hh (Nat.le_refl _)
   rw [show (List.replicate n.toNat zd).length=n.toNat by simp] at hrv
   exact Zu hex (hK _ _ (Sim.fin hs' hd hg (fun _=>hrv)))
  ·split at h11
   ·obtain ⟨rfl,h12⟩:=Zb8 h11
    obtain ⟨⟨rfl,hone⟩,h13⟩:=ZC h12
    obtain ⟨c0,hc0,h14⟩:=Zg h13
    obtain ⟨d,hdd,h15⟩:=Zg h14
    have hrr:=Zt h15
    subst hrr
    have hzc:RCs ok ℓ w z'.cells ei.zero∧∀ c∈ei.zero,∀ n,¬ c.has n:=by simpa using Zdi ok ℓ w z'.cells.toList ei.zero heo.zcells
    have hsz1:i'.size=1:=by rw [heo.size,hone]
    have hrow:RCs ok ℓ w (madeCells z'.cells (n.toNat*i'.size)) (List.replicate n.toNat c0):=by
     refine ⟨by rw [size_madeCells,hsz1]; simp,fun i u c hu hc=>?_⟩
     obtain ⟨hin,rfl⟩:i < n.toNat∧c=c0:=by
      rw [List.getElem?_replicate] at hc
      split at hc
      ·rename_i hlt; exact ⟨hlt,by cases hc; rfl⟩
      ·cases hc
     refine hzc.1.2 0 u c ?_ hc0
     have hzs:z'.cells.size=1:=by rw [hzc.1.1,heo.zlen,hone]
     exact Zna hzs hu
    have hnew:=hs.newBox (hfr ⟨X.L,d⟩ (by simp)) e hrow (fun c hc=>hzc.2 c (by rw [List.mem_replicate] at hc; rw [hc.2]; exact List.mem_of_getElem? hc0) _)
    refine Zu hex (hK _ _ (Sim.fin hnew hd hg (fun _=>?_)))
    simp only [RV,RC,Loc.setI,if_true]
   rw [Zt h11] at hK
   have hs':=hs.newRow (.cells (madeCells z'.cells (m.toNat*i'.size)) e) ((List.replicate n.toNat zd).length*ei.size)
   have hrep:=Rep.newRow hs.mem.alive e (cap:=m.toNat) (by simp; omega) hh
   simp only [List.length_replicate] at hrep hs'
   exact Zu hex (hK _ _ (Sim.fin hs' hd hg (fun _=>⟨hrep,rfl⟩)))

theorem ZuE {ok ℓ w}:∀ (us:List Value) (vs:List V) (l:List (Name×Nat)),RVs ok ℓ w us.toArray vs→
  vs.foldr (fun v acc=>match v,acc with
   | .c (.lp n off),some l=>some ((n,off)::l)
   | _,_=>none) (some [])=some l→us=l.map fun p=>Value.pointer (some ⟨ℓ.i p.1,p.2,none⟩)
 | [],[],l,h,hl=>by simp at hl; subst hl; rfl
 | [],_::_,_,h,_=>by have:=h.1; simp at this
 | _::_,[],_,h,_=>by have:=h.1; simp at this
 | u::us,v::vs,l,h,hl=>by
  simp only [List.foldr_cons] at hl
  split at hl
  ·rename_i n off l' hl'
   simp only [Option.some.injEq] at hl
   subst hl
   have hu:RV ok ℓ w u (.c (.lp n off)):=h.2 0 u _ (by simp) (by simp)
   simp only [RV,RC] at hu
   have:=ZuE us vs l' ⟨by have:=h.1; simpa using this,fun j a b ha hb=>h.2 (j+1) a b (by simpa using ha) (by simpa using hb)⟩ hl'
   simp [hu,this]
  ·cases hl

theorem Zqt (hd:∀ d,o.dst=some d→d < X.n) (hg:gd.getD true=true) {f:FuncId} {fi ca:Array Operand} (ho:o.op=.makeFunc (.func f) fi ca):ZcU X gd o:=by
 rintro S st a w R r hr hfr ⟨ok,ℓ,hs⟩ K Q hK
 simp only [Z6,ho] at hr
 split at hr
 case isFalse =>
  split at hr
  case isFalse=>exact (Zv hr).elim
  rename_i h0
  obtain ⟨vs,R1,h1,h2,hf1⟩:=ZcP hs hg _ hr
  split at h2
  case h_2=>exact (Zv h2).elim
  rename_i n off
  rw [Zt h2] at hK
  have hca:ca=#[]:=by cases ca; simpa using h0
  have hl:=h1.1
  simp only [List.size_toArray,List.length_map,List.length_singleton] at hl
  obtain ⟨x,hx⟩:∃ x,fi.toList=[x]:=by
   match h:fi.toList with
   | [x]=>exact ⟨x,rfl⟩
   | []=>rw [h] at hl; cases hl
   | _::_::_=>rw [h] at hl; simp at hl
  have hu:RV ok ℓ w (a.eval x) (.c (.lp n off)):=h1.2 0 _ _ (by simp [hx]) (by simp)
  simp only [RV,RC] at hu
  have e1:fi.map a.eval=#[Value.pointer (some ⟨ℓ.i n,off,none⟩)]:=by
   apply Array.ext'
   simp [hx,hu]
  refine Zu (u:=.func (.func f) #[Value.pointer (some ⟨ℓ.i n,off,none⟩)] #[]) (w':=w) ?_ (hK _ _ (Sim.plain hs hd hg (by simp [RV,RC,fnV,rcv,fnP])))
  simp [execOp,ho,hca,Instr.makeFunc,e1]
 rename_i h0
 obtain ⟨vs,R1,h1,h2,hf1⟩:=ZcP hs hg _ hr
 obtain ⟨l,h3,h4⟩:=Zg h2
 obtain ⟨hrc,h4⟩:=ZC h4
 rw [Zt h4] at hK
 have hc:=ZuE _ vs l h1 h3
 have hfi:fi=#[]:=by cases fi; simpa using h0
 refine Zu (u:=.func (.func f) #[] (l.map fun p=>Value.pointer (some ⟨ℓ.i p.1,p.2,none⟩)).toArray) (w':=w) ?_ (hK _ _ (Sim.plain hs hd hg (by simp [RV,RC,fnV,hrc,fnP])))
 have e1:ca.map a.eval=(l.map fun p=>Value.pointer (some ⟨ℓ.i p.1,p.2,none⟩)).toArray:=by rw [← hc]; apply Array.ext'; simp
 simp [execOp,ho,hfi,Instr.makeFunc,e1]

theorem Zj7 (a:Act) (xs:Array Operand):xs.map a.eval=(xs.toList.map a.eval).toArray:=by apply Array.ext'; simp
end

end Go.Vam
end
section
set_option linter.unusedVariables false
set_option linter.unusedSimpArgs false
namespace Go.Vam

section
variable {ok:Zas} {ℓ:Loc} {w:World}

theorem Zfx {P:Program} {u:Value} {m:List D} {sz:Nat} (h:Rep ok w u (.list m)) (huni:∀ y∈m,y.cells.length=sz) :
  ∃ us:List Value,us.length=m.length*sz∧Holds ok w sz m (fun i=>us[i]?)∧(∀ v∈us,v.oneCell'=true)∧(Builtin.lenOf u).run P w=.ok m.length w∧(∀ w',(Builtin.lenOf u).run P w'=.ok m.length w')∧
   ∀ w':World,w'.heap=w.heap→(Builtin.firstCells sz m.length u).run P w'=.ok us.toArray w':=by
 obtain ⟨a,cap,rfl,hl⟩:=h.holds
 have hlen:∀ w',(Builtin.lenOf (.slice a m.length cap)).run P w'=.ok m.length w':=fun w'=>by simp [Builtin.lenOf]
 rcases hl with rfl | ⟨blk,o,sz',rfl,_,hh,hok⟩
 ·refine ⟨[],by simp,Holds.nil _ _ _ _,by simp,hlen w,hlen,fun w' _=>?_⟩
  cases a with
  | none=>simp [Builtin.firstCells]
  | some a=>simp [Builtin.firstCells,loadCells,loadCellsFrom]
 ·rcases m with _ | ⟨y,ys⟩
  ·refine ⟨[],by simp,Holds.nil _ _ _ _,by simp,hlen w,hlen,fun w' _=>?_⟩
   simp [Builtin.firstCells,loadCells,loadCellsFrom]
  ·have hsz:sz'=sz:=hh.sz_eq (List.mem_cons_self) (huni y (List.mem_cons_self))
   subst hsz
   generalize hm:y::ys=m at *
   have hall:∀ i,i < m.length*sz'→∃ u x q,w.cell? ⟨blk,o+i,none⟩=some u∧m[i / sz']?=some x∧x.cells[i % sz']?=some q∧Rep ok w u q∧q.sc=true:=by
    intro i hi
    have hpos:0 < sz':=by
     rcases Nat.eq_zero_or_pos sz' with e | e
     ·rw [e,Nat.mul_zero] at hi; omega
     ·exact e
    have hq:i / sz' < m.length:=Nat.div_lt_of_lt_mul (by rw [Nat.mul_comm]; exact hi)
    have hx:m[i / sz']?=some m[i / sz']:=List.getElem?_eq_getElem hq
    have hmod:i % sz' < (m[i / sz']).cells.length:=by rw [hh.1 _ (List.getElem_mem hq)]; exact Nat.mod_lt _ hpos
    obtain ⟨hsc,u,hu,hrep⟩:=hh.2 (i / sz') _ (i % sz') _ hx (List.getElem?_eq_getElem hmod)
    refine ⟨u,_,_,?_,hx,List.getElem?_eq_getElem hmod,hrep,hsc⟩
    have e:i / sz'*sz'+i % sz'=i:=by have:=Nat.div_add_mod i sz'; rw [Nat.mul_comm] at this; exact this
    simp only [e] at hu
    exact hu
   let us:List Value:=(List.range (m.length*sz')).map fun i=>(w.cell? ⟨blk,o+i,none⟩).getD default
   have hul:us.length=m.length*sz':=by simp [us]
   have hus:∀ i,i < m.length*sz'→us[i]?=w.cell? ⟨blk,o+i,none⟩:=by
    intro i hi
    obtain ⟨u,_,_,hu,_⟩:=hall i hi
    simp [us,hi,hu]
   refine ⟨us,hul,hh.at_eq hus,fun v hv=>?_,hlen w,hlen,fun w' hw=>?_⟩
   ·obtain ⟨i,hi⟩:=List.mem_iff_getElem?.1 hv
    have hlt:i < m.length*sz':=by rw [← hul]; exact (List.getElem?_eq_some_iff.1 hi).1
    obtain ⟨u,_,_,hu,_,_,hrep,hsc⟩:=hall i hlt
    rw [hus i hlt,hu] at hi
    cases hi
    exact hrep.oneCell hsc
   ·simp only [Builtin.firstCells]
    refine ZdM P w' blk o (m.length*sz') us hul (fun j u hu=>?_)
    have hlt:j < m.length*sz':=by rw [← hul]; exact (List.getElem?_eq_some_iff.1 hu).1
    rw [hus j hlt] at hu
    rw [← hu]
    simp [World.cell?,hw]
end

section
variable {X:Ctx} {S:Start} {ok:Zas} {ℓ:Loc} {st:St} {a:Act} {w:World}

theorem SimW.moveBuf (hs:SimW X S ok ℓ st a w) {n:Name} {tk:Tok} (hn:lk st.k n=some tk) (ha:tk.isArr=false) {l:List D} (hlt:tk.l.length < l.length) {cs:Array Value} (T:TypeId) {cap:Nat}
  (hcap:l.length≤cap) (hcs:cs.size=cap*tk.sz) (hh:Holds ok w tk.sz l (fun i=>cs[i]?)) :
  ∃ ℓ',SimW X S (ZkE ok w.heap.size 0 (l.length*tk.sz)) ℓ' ⟨st.t,st.b,(n,⟨false,tk.sz,l⟩)::st.k⟩ a (w.alloc (.cells cs T))∧
   RV (ZkE ok w.heap.size 0 (l.length*tk.sz)) ℓ' (w.alloc (.cells cs T)) (.slice (some ⟨w.heap.size,0,none⟩) l.length cap) (.c (.own n l)):=by
 have hnb:lk st.b n=none:=by
  cases hb:lk st.b n with
  | none=>rfl
  | some c=>have:=hs.mem.apart n (by simp [hb]); rw [hn] at this; cases this
 obtain ⟨_,_,a0,cap0,hh0,_⟩:=hs.mem.buf n tk hn ha
 have hat:∀ m,LocAt ℓ (ℓ.setH n (.slice (some ⟨w.heap.size,0,none⟩) l.length cap)) m:=by
  intro m
  by_cases e:m=n
  ·subst e
   refine ⟨rfl,rfl,by rw [hh0]; simp [Loc.setH,hlen]; omega,fun e=>?_⟩
   rw [hh0] at e
   simp [Loc.setH,hlen] at e
   omega
  ·exact .setH _ e
 obtain ⟨h1,h2⟩:=hs.mem.newBuf (n:=n) T hcap hcs hh hnb (fun t h=>by rw [hn] at h; cases h; exact ha) (fun m cs hm c hc hh=>hat n)
 refine ⟨_,hs.move (Chg.row hs.mem.alive _ _ _ _) (fun t v hv m hh=>hat m) h1 ⟨rfl,rfl,rfl,by simp⟩
  (fun i hi _=>Z2 w _ (Nat.lt_of_lt_of_le hi hs.ext.size)) (fun x o hx=>hx.elim .inl (fun h=>.inr (.inl (by rw [h.1]; exact hs.ext.size)))) (fun m x hx=>?_) (fun m hlt=>?_) (fun m hlt hh=>?_),
  Rep.newRow hs.mem.alive T hcap hh,?_,?_⟩
 ·rcases h2 m x hx with rfl | h
  ·exact .inl hs.ext.size
  ·exact hs.own m x h
 ·refine ⟨hat m,fun hH=>⟨rfl,rfl,?_⟩⟩
  by_cases e:m=n
  ·exact absurd (hs.inH m hlt (.inr (by rw [e,hn]; rfl))) hH
  ·simp [Loc.setH,e]
 ·by_cases e:m=n
  ·exact hs.inH m hlt (.inr (by rw [e,hn]; rfl))
  ·rw [Zh _ _ (Ne.symm e)] at hh
   exact hs.inH m hlt hh
 ·simp [Loc.setH,hlen]
 ·simp [Loc.setH,hlen]

theorem SimW.growBuf (hs:SimW X S ok ℓ st a w) {n:Name} {tk:Tok} (hn:lk st.k n=some tk) (ha:tk.isArr=false)
  {blk cap:Nat} {cs:Array Value} {T:TypeId} (hhan:ℓ.h n=.slice (some ⟨blk,0,none⟩) tk.l.length cap) (hc0:cap≠0) (hrow:w.heap[blk]?=some (.cells cs T (0,0)))
  (hcs:cs.size=cap*tk.sz) {m:List D} {us:List Value} (hus:us.length=m.length*tk.sz) (hm:Holds ok w tk.sz m (fun i=>us[i]?)) (hfit:tk.l.length+m.length≤cap) :
  ∃ ok' ℓ',SimW X S ok' ℓ' ⟨st.t,st.b,(n,⟨false,tk.sz,tk.l++m⟩)::st.k⟩ a (setBlk w blk (.cells (ZP cs (tk.l.length*tk.sz) us) T (0,0)))∧
   RV ok' ℓ' (setBlk w blk (.cells (ZP cs (tk.l.length*tk.sz) us) T (0,0))) (.slice (some ⟨blk,0,none⟩) (tk.l.length+m.length) cap) (.c (.own n (tk.l++m))):=by
 obtain ⟨h1,h2,h3,h4⟩:=hs.mem.grow hn ha hhan hc0 hrow hcs hus hm hfit
 have hblkn:Zl2 (ℓ.h n)=some blk:=by rw [hhan]; simp [Zl2,hc0]
 have hat:∀ m',LocAt ℓ (ℓ.setH n (.slice (some ⟨blk,0,none⟩) (tk.l.length+m.length) cap)) m':=fun m'=>by
  by_cases e:m'=n
  ·rw [e]; exact h4
  ·exact .setH _ e
 have howner:=hs.own n blk (.buf hn ha hblkn)
 refine ⟨_,_,hs.move h2 (fun t v hv m hh=>hat m) h1 ⟨rfl,rfl,rfl,by simp [Za8]⟩ (fun j hj hm'=>ZG w _ (fun e=>?_)) (fun x o hx=>?_) (fun m x hx=>hs.own m x (h3 m x hx)) (fun m' hlt=>?_) (fun m' hlt hh=>?_),?_,?_,?_⟩
 ·rcases howner with h | h
  ·omega
  ·exact hm' (e ▸ h)
 ·rcases hx with hx | ⟨rfl,_⟩
  ·exact .inl hx
  ·exact .inr howner
 ·refine ⟨hat m',fun hH=>⟨rfl,rfl,?_⟩⟩
  by_cases e:m'=n
  ·exact absurd (hs.inH m' hlt (.inr (by rw [e,hn]; rfl))) hH
  ·simp [Loc.setH,e]
 ·by_cases e:m'=n
  ·exact hs.inH m' hlt (.inr (by rw [e,hn]; rfl))
  ·rw [Zh _ _ (Ne.symm e)] at hh
   exact hs.inH m' hlt hh
 ·have:=(h1.buf n _ (Zl _ _ _) rfl).1
  simpa [Loc.setH] using this
 ·simp [Loc.setH,hlen]
 ·simp [Loc.setH,hlen]

theorem SimW.sameTok (hs:SimW X S ok ℓ st a w) {n:Name} {tk tk':Tok} (hn:lk st.k n=some tk) (e:tk'=tk):SimW X S ok ℓ ⟨st.t,st.b,(n,tk')::st.k⟩ a w:=by
 subst e
 have hk:∀ m t,lk ((n,tk')::st.k) m=some t↔lk st.k m=some t:=by
  intro m t
  by_cases e:m=n
  ·subst e; rw [Zl,hn]
  ·rw [Zh _ _ (Ne.symm e)]
 have hk':∀ m,lk ((n,tk')::st.k) m=lk st.k m:=by
  intro m
  by_cases e:m=n
  ·subst e; rw [Zl,hn]
  ·rw [Zh _ _ (Ne.symm e)]
 have hown:∀ m x,Owns ℓ st.b ((n,tk')::st.k) m x→Owns ℓ st.b st.k m x:=by
  intro m x h; unfold Owns at h ⊢; rw [hk' m] at h; exact h
 exact ⟨hs.defers,hs.size,hs.tmps,⟨hs.mem.box,fun m t h=>hs.mem.buf m t ((hk m t).1 h),fun m t h=>hs.mem.arr m t ((hk m t).1 h),fun m h=>by rw [hk']; exact hs.mem.apart m h,fun m m' x h h'=>hs.mem.distinct m m' x (hown _ _ h) (hown _ _ h'),hs.mem.alive⟩,
  hs.ext,hs.sub,hs.sup,fun m x h=>hs.own m x (hown m x h),hs.names,fun m hlt h=>hs.inH m hlt (by rw [← hk' m]; exact h)⟩

theorem SimW.nilBuf (hs:SimW X S ok ℓ st a w) {n:Name} (hnL:¬ n.lv < X.L) (hf:st.Free n) {u:Option Addr} (sz:Nat) :
  SimW X S ok (ℓ.setH n (.slice u 0 0)) ⟨st.t,st.b,(n,⟨false,sz,[]⟩)::st.k⟩ a w∧RV ok (ℓ.setH n (.slice u 0 0)) w (.slice u 0 0) (.c (.own n [])):=by
 have hat:∀ m,m≠n→LocAt ℓ (ℓ.setH n (.slice u 0 0)) m:=fun m hm=>.setH _ hm
 obtain ⟨h1,h2⟩:=hs.mem.loc (ℓ':=ℓ.setH n (.slice u 0 0)) hf.m (fun m hm=>⟨rfl,rfl,by simp [Loc.setH,hm]⟩)
 have hown:∀ m x,Owns (ℓ.setH n (.slice u 0 0)) st.b ((n,⟨false,sz,[]⟩)::st.k) m x→Owns (ℓ.setH n (.slice u 0 0)) st.b st.k m x:=by
  intro m x h
  rcases h with ⟨h1,rfl⟩ | ⟨t,h1,h2,rfl⟩ | ⟨t,h1,h2,h3⟩
  ·exact .inl ⟨h1,rfl⟩
  ·by_cases e:m=n
   ·subst e; rw [Zl] at h1; cases h1; cases h2
   ·rw [Zh _ _ (Ne.symm e)] at h1; exact .arr h1 h2
  ·by_cases e:m=n
   ·subst e; simp [Loc.setH,Zl2] at h3; cases u <;> simp [Zl2] at h3
   ·rw [Zh _ _ (Ne.symm e)] at h1; exact .buf h1 h2 h3
 have hm:MemOK ok (ℓ.setH n (.slice u 0 0)) st.b ((n,⟨false,sz,[]⟩)::st.k) w:=by
  refine ⟨h1.box,fun m t hm ha=>?_,fun m t hm ha=>?_,fun m hm=>?_,fun m m' x hm hm'=>h1.distinct m m' x (hown _ _ hm) (hown _ _ hm'),h1.alive⟩
  ·by_cases e:m=n
   ·subst e; rw [Zl] at hm; cases hm
    have:(ℓ.setH m (.slice u 0 0)).h m=.slice u 0 0:=by simp [Loc.setH]
    exact ⟨by rw [this]; exact .nil _ _,by simp,u,0,this,.inl rfl⟩
   ·rw [Zh _ _ (Ne.symm e)] at hm; exact h1.buf m t hm ha
  ·have e:m≠n:=fun e=>by subst e; rw [Zl] at hm; cases hm; cases ha
   rw [Zh _ _ (Ne.symm e)] at hm; exact h1.arr m t hm ha
  ·have e:m≠n:=fun e=>by rw [e,hf.m.nb] at hm; cases hm
   rw [Zh _ _ (Ne.symm e)]; exact h1.apart m hm
 refine ⟨hs.move (.refl ok w) (fun t v hv m hh=>hat m (hf.ne hv hh)) hm ⟨rfl,rfl,rfl,Nat.le_refl _⟩ (fun _ _ _=>rfl) (fun x o hx=>.inl hx) (fun m x hx=>hs.own m x (h2 m x (hown m x hx))) (fun m hlt=>?_) (fun m hlt hh=>?_),.nil _ _,?_,?_⟩
 ·have hne:m≠n:=fun e=>hnL (e ▸ hlt)
  exact ⟨hat m hne,fun _=>⟨rfl,rfl,by simp [Loc.setH,hne]⟩⟩
 ·have hne:m≠n:=fun e=>hnL (e ▸ hlt)
  rw [Zh _ _ hne.symm] at hh
  exact hs.inH m hlt hh
 ·simp [Loc.setH,hlen]
 ·simp [Loc.setH,hlen]
end


section
variable {P:Program} {t e:TypeId} {ti ei:TI} {i i':TypeInfo} {d d':TypeDesc} {z z':Value} {w:World}

theorem Zli (hu:P.underlying t=some (.slice e)) (heo:TI.Ok P e ei i' d' z') (ty:TypeId) (base:Option Addr) (n cap m:Nat) (x:Value) (us:List Value)
  (hlen:(Builtin.lenOf x).run P w=.ok m w) (hf:(Builtin.firstCells ei.size m x).run P w=.ok us.toArray w) (hfit:n+m≤cap) :
  (Builtin.append_ #[t,t] ty #[.slice base n cap,x]).run P w=((match base with | some a=>storeCells (a.add (n*ei.size)) us | none=>pure ():Sem Unit).run P w).andThen fun _ w'=>.ok (.slice base (n+m) cap) w':=by
 cases base with
 | none=>simp [Builtin.append_,run_underlying hu,ZO heo,hlen,hfit,hf]
 | some a=>simp [Builtin.append_,run_underlying hu,ZO heo,hlen,hfit,hf]

theorem ZiB (hu:P.underlying t=some (.slice e)) (heo:TI.Ok P e ei i' d' z') (ty:TypeId) (base:Option Addr) (n cap m:Nat) (x:Value) (us olds:List Value)
  (hlen:(Builtin.lenOf x).run P w=.ok m w) (hf:∀ w':World,w'.heap=w.heap→(Builtin.firstCells ei.size m x).run P w'=.ok us.toArray w')
  (hfo:∀ w':World,w'.heap=w.heap→(Builtin.firstCells ei.size n (.slice base n cap)).run P w'=.ok olds.toArray w') (hg:cap < n+m) (hroom:Zab (n+m) ei.bytes) :
  (Builtin.append_ #[t,t] ty #[.slice base n cap,x]).run P w =
   .ok (.slice (some ⟨w.heap.size,0,none⟩) (n+m) (grownCap w (n+m) cap e))
    (w.drew.alloc (.cells (olds.toArray++us.toArray++Builtin.zeroCells z'.cells (grownCap w (n+m) cap e - (n+m))) e)):=by
 have hn:¬ (n+m≤cap):=by omega
 obtain ⟨hr1,hr2⟩:=hroom
 have h48:=growslice_fits (old:=cap) (bytes:=ei.bytes) hg hr1
 have h48':¬ (281474976710656 < Builtin.nextslicecap (n+m) cap*ei.bytes):=by omega
 have h63':¬ (9223372036854775807 < ((n:Int)+(m:Int))):=by omega
 have hf1:=hf w.drew rfl
 have hf2:=hfo w.drew rfl
 simp [Builtin.append_,run_underlying hu,sizeOf,typeInfo,heo.info,heo.size,heo.bytes,zeroValue,heo.zero,hlen,hn,h63',h48',Question.forced,hf1,hf2,newRow,grownCap]
 congr 2
 rw [← Array.append_assoc]
 congr 1
 simp
end

section
variable {X:Ctx} {gd:Option Bool} {o:Oper}

theorem Holds.list {ok:Zas} {w:World} {sz:Nat} {l m:List D} {us vs rest:List Value} (h:Holds ok w sz l (fun i=>us[i]?)) (h':Holds ok w sz m (fun i=>vs[i]?)) (hu:us.length=l.length*sz) (hv:vs.length=m.length*sz) :
  Holds ok w sz (l++m) (fun i=>(us++vs++rest)[i]?):=by
 refine h.append h' (fun i hi=>?_) (fun i hi=>?_)
 ·simp only [List.append_assoc]; rw [List.getElem?_append_left (by omega)]
 ·simp only [List.append_assoc]; rw [List.getElem?_append_right (by omega),List.getElem?_append_left (by omega)]; congr 1; omega

theorem Zj6 (hT:TOk X) (hd:∀ d,o.dst=some d→d < X.n) {ty:TypeId} {t t2:TypeId} {S:Start} {ok ℓ st a w} (hs:SimW X S ok ℓ st a w) {su xu:Value} {sv:V} (h1:RV ok ℓ w su sv)
  {d:Nat} (hdd:o.dst=some d) {e:TypeId} {ei:TI} {i':TypeInfo} {dsc':TypeDesc} {z':Value} (heo:TI.Ok X.P e ei i' dsc' z') {m:List D} {us:List Value}
  (hus:us.length=m.length*ei.size) (hh:Holds ok w ei.size m (fun i=>us[i]?)) (hone:∀ u∈us,u.oneCell'=true)
  (hfits:∀ (base:Option Addr) (n cap:Nat),n+m.length≤cap→(Builtin.append_ #[t,t2] ty #[.slice base n cap,xu]).run X.P w=((match base with | some a=>storeCells (a.add (n*ei.size)) us | none=>pure ():Sem Unit).run X.P w).andThen fun _ w'=>.ok (.slice base (n+m.length) cap) w')
  (hgrows:∀ (base:Option Addr) (n cap:Nat) (olds:List Value),(∀ w':World,w'.heap=w.heap→(Builtin.firstCells ei.size n (.slice base n cap)).run X.P w'=.ok olds.toArray w')→cap < n+m.length→Zab (n+m.length) ei.bytes→
   (Builtin.append_ #[t,t2] ty #[.slice base n cap,xu]).run X.P w =
   .ok (.slice (some ⟨w.heap.size,0,none⟩) (n+m.length) (grownCap w (n+m.length) cap e))
    (w.drew.alloc (.cells (olds.toArray++us.toArray++Builtin.zeroCells z'.cells (grownCap w (n+m.length) cap e - (n+m.length))) e)))
  {R:List Key} {r:Out} (h9:Runs (Zd2 X d ei sv m) st R r) (hfr:∀ n∈r.new,st.Free n) {K:Act→World→Prop} (hK:∀ a' w',Sim X S (st.apply o.dst none r) a' w'→K a' w') :
  ∃ u w',(Builtin.append_ #[t,t2] ty #[su,xu]).run X.P w=.ok u w'∧K (a.put o.dst u) w':=by
 unfold Zd2 at h9
 split at h9
 ·
  by_cases hmo:X.mode d=2
  ·rw [if_pos hmo] at h9
   obtain ⟨⟨hm,hroom⟩,h10⟩:=ZC h9
   have hrr:=Zt h10
   subst hrr
   obtain ⟨ad,rfl⟩:=h1
   have hf0:=hfr ⟨X.L,d⟩ (by simp)
   have hlt:0 < m.length:=List.length_pos_iff.2 hm
   have hfo:∀ w':World,w'.heap=w.heap→(Builtin.firstCells ei.size 0 (.slice ad 0 0)).run X.P w'=.ok (([]:List Value).toArray) w':=by
    intro w' _
    cases ad <;> simp [Builtin.firstCells,loadCells,loadCellsFrom]
   have hrun:=hgrows ad 0 0 [] hfo (by omega) (by simpa using hroom)
   have hcap:=grownCap_ge w (0+m.length) 0 e
   generalize grownCap w (0+m.length) 0 e=gc at *
   have hzs:z'.cells.size=ei.size:=by
    have:=(Zdi ok ℓ w z'.cells.toList ei.zero heo.zcells).1.1
    simp at this; rw [this,heo.zlen]
   obtain ⟨ℓ',hs',hrv⟩:=hs.drew.newArr hf0 (sz:=ei.size) (l:=m) (cs:=([]:List Value).toArray++us.toArray++Builtin.zeroCells z'.cells (gc - (0+m.length))) e
    (by
     simp only [Array.size_append,size_zeroCells,hzs,List.size_toArray,hus,List.length_nil]
     omega)
    ((hh.chg (⟨fun _ _ h=>h,fun _ _ _=>rfl⟩:Chg ok ok w w.drew)).at_eq (fun i hi=>by
     rw [Array.getElem?_append_left (by simp; omega)]; simp)) (cap:=gc) (by omega)
   refine ⟨_,_,hrun,hK _ _ (Sim.fin hs' hd rfl (fun _=>?_))⟩
   simpa using hrv
  rw [if_neg hmo] at h9
  obtain ⟨hroom,h10⟩:=ZC h9
  have hrr:=Zt h10
  subst hrr
  obtain ⟨ad,rfl⟩:=h1
  have hf0:=hfr ⟨X.L,d⟩ (by simp)
  by_cases hm:m=[]
  ·subst hm
   have hus0:us=[]:=by simpa using hus
   subst hus0
   obtain ⟨hs',hrv⟩:=hs.nilBuf (Nat.lt_irrefl _) hf0 (u:=ad) ei.size
   have hrun:=hfits ad 0 0 (by simp)
   refine ⟨_,_,?_,hK _ _ (Sim.fin hs' hd rfl (fun _=>hrv))⟩
   rw [hrun]
   cases ad <;> simp [storeCells]
  ·have hlt:0 < m.length:=List.length_pos_iff.2 hm
   have hfo:∀ w':World,w'.heap=w.heap→(Builtin.firstCells ei.size 0 (.slice ad 0 0)).run X.P w'=.ok (([]:List Value).toArray) w':=by
    intro w' _
    cases ad <;> simp [Builtin.firstCells,loadCells,loadCellsFrom]
   have hrun:=hgrows ad 0 0 [] hfo (by omega) (by simpa using hroom)
   have hcap:=grownCap_ge w (0+m.length) 0 e
   generalize grownCap w (0+m.length) 0 e=gc at *
   have hzs:z'.cells.size=ei.size:=by
    have:=(Zdi ok ℓ w z'.cells.toList ei.zero heo.zcells).1.1
    simp at this; rw [this,heo.zlen]
   obtain ⟨ℓ',hs',hrv⟩:=hs.drew.newBuf hf0 (sz:=ei.size) (l:=m) (cs:=([]:List Value).toArray++us.toArray++Builtin.zeroCells z'.cells (gc - (0+m.length))) e (cap:=gc) (by omega)
    (by
     simp only [Array.size_append,size_zeroCells,hzs,List.size_toArray,hus,List.length_nil]
     rw [Nat.zero_add,Nat.zero_add,← Nat.add_mul]; congr 1; omega)
    ((hh.chg (⟨fun _ _ h=>h,fun _ _ _=>rfl⟩:Chg ok ok w w.drew)).at_eq (fun i hi=>by
     rw [Array.getElem?_append_left (by simp; omega)]; simp))
   refine ⟨_,_,hrun,hK _ _ (Sim.fin hs' hd rfl (fun _=>?_))⟩
   simpa using hrv
 ·
  rename_i n l
  obtain ⟨tk,R2,h10,h11⟩:=Zda h9
  obtain ⟨⟨h12,h13,h14⟩,h15⟩:=ZC h11
  obtain ⟨hroom,h16⟩:=ZC h15
  have hrr:=Zt h16
  subst hrr
  obtain ⟨g1,g2,g3⟩:=h1
  obtain ⟨hrep,_,ad,cap,hhan,hrest⟩:=hs.mem.buf n tk h10 h13
  have hsu:su=ℓ.h n:=g3 (by rw [hhan,h12]; rfl)
  rw [hsu,hhan]
  subst h12
  by_cases hfit:tk.l.length+m.length≤cap
  ·have hrun:=hfits ad tk.l.length cap hfit
   rcases hrest with hc0 | ⟨blk,cs,T,rfl,hrow,hcs,hspare⟩
   ·have hl0:tk.l=[]:=List.eq_nil_of_length_eq_zero (by omega)
    have hm0:m=[]:=List.eq_nil_of_length_eq_zero (by omega)
    subst hm0
    have hus0:us=[]:=by simpa using hus
    subst hus0
    have hs':=hs.sameTok (tk':=⟨false,ei.size,tk.l++[]⟩) h10 (by rw [List.append_nil,← h14,← h13])
    refine ⟨.slice ad (tk.l.length+0) cap,w,?_,hK _ _ (Sim.fin hs' hd rfl (fun _=>?_))⟩
    ·rw [hrun]
     cases ad <;> simp [storeCells]
    ·refine ⟨by simpa [hhan] using hrep,?_,fun _=>?_⟩
     ·simp [hhan,Vam.hlen]
     ·simp [hhan]
   ·by_cases hc0:cap=0
    ·have hl0:tk.l=[]:=List.eq_nil_of_length_eq_zero (by omega)
     have hm0:m=[]:=List.eq_nil_of_length_eq_zero (by omega)
     subst hm0
     have hus0:us=[]:=by simpa using hus
     subst hus0
     have hs':=hs.sameTok (tk':=⟨false,ei.size,tk.l++[]⟩) h10 (by rw [List.append_nil,← h14,← h13])
     refine ⟨.slice (some ⟨blk,0,none⟩) (tk.l.length+0) cap,w,?_,hK _ _ (Sim.fin hs' hd rfl (fun _=>?_))⟩
     ·rw [hrun]
      simp [storeCells]
     ·refine ⟨by simpa [hhan] using hrep,?_,fun _=>?_⟩
      ·simp [hhan,Vam.hlen]
      ·simp [hhan]
    ·obtain ⟨ok',ℓ',hs',hrv⟩:=hs.growBuf h10 h13 hhan hc0 hrow hcs (m:=m) (us:=us) (by rw [h14]; exact hus) (by rw [h14]; exact hh) hfit
     rw [h14] at hs' hrv
     refine ⟨_,_,?_,hK _ _ (Sim.fin hs' hd rfl (fun _=>hrv))⟩
     rw [hrun]
     have hst:=Zdh X.P us w blk (tk.l.length*ei.size) 0 cs T hrow (by
      rw [hcs,hus,h14,Nat.add_zero,← Nat.add_mul]; exact Nat.mul_le_mul_right _ hfit) hone
     simp only [Nat.add_zero] at hst
     simp [Zb7,hst]
  ·have hmpos:0 < m.length:=by
    rcases Nat.eq_zero_or_pos m.length with h | h
    ·exfalso
     obtain ⟨a2,cap2,hv2,h2'⟩:=hrep.holds
     rw [hhan] at hv2
     simp only [Value.slice.injEq] at hv2
     rcases h2' with h2' | ⟨_,_,_,_,hle,_⟩
     ·rw [h2'] at hfit; simp at hfit; omega
     ·omega
    ·exact h
   obtain ⟨olds,ho1,ho2,_,_,_,ho3⟩:=Zfx (P:=X.P) (sz:=tk.sz) hrep (hs.mem.buf n tk h10 h13).2.1
   rw [hhan] at ho3
   have hrun:=hgrows ad tk.l.length cap olds (by rw [← h14]; exact ho3) (by omega) hroom
   have hcap:=grownCap_ge w (tk.l.length+m.length) cap e
   generalize grownCap w (tk.l.length+m.length) cap e=gc at *
   have hzs:z'.cells.size=ei.size:=by
    have:=(Zdi ok ℓ w z'.cells.toList ei.zero heo.zcells).1.1
    simp at this; rw [this,heo.zlen]
   have hhl:Holds ok w.drew tk.sz (tk.l++m) (fun i=>(olds.toArray++us.toArray++Builtin.zeroCells z'.cells (gc - (tk.l.length+m.length)))[i]?):=by
    have h1':Holds ok w.drew tk.sz tk.l (fun i=>olds[i]?):=ho2.chg (⟨fun _ _ h=>h,fun _ _ _=>rfl⟩:Chg ok ok w w.drew)
    have h2':Holds ok w.drew tk.sz m (fun i=>us[i]?):=by rw [h14]; exact hh.chg (⟨fun _ _ h=>h,fun _ _ _=>rfl⟩:Chg ok ok w w.drew)
    have:=h1'.list (rest:=(Builtin.zeroCells z'.cells (gc - (tk.l.length+m.length))).toList) h2' ho1 (by rw [h14]; exact hus)
    refine this.at_eq (fun i hi=>?_)
    rw [← Array.getElem?_toList]
    simp
   obtain ⟨ℓ',hs',hrv⟩:=hs.drew.moveBuf h10 h13 (l:=tk.l++m) (by simp; omega) e (cap:=gc) (by simp; omega)
    (by
     simp only [Array.size_append,size_zeroCells,hzs,List.size_toArray,hus,ho1]
     rw [← h14,← Nat.add_mul,← Nat.add_mul]; congr 1; omega) hhl
   rw [h14] at hs' hrv
   refine ⟨_,_,hrun,hK _ _ (Sim.fin hs' hd rfl (fun _=>?_))⟩
   simpa using hrv
 ·exact (Zv h9).elim

theorem Zpi (hT:TOk X) (hd:∀ d,o.dst=some d→d < X.n) {c:Call} {ty:TypeId} {t:TypeId} {S:Start} {ok ℓ st a w} (hs:SimW X S ok ℓ st a w) {su xu:Value} {sv xv:V} (h1:RV ok ℓ w su sv) (h2:RV ok ℓ w xu xv)
  {R:List Key} {r:Out} (hr:Runs (ZgO X o.dst t sv xv) st R r) (hfr:∀ n∈r.new,st.Free n) {K:Act→World→Prop} (hK:∀ a' w',Sim X S (st.apply o.dst none r) a' w'→K a' w') :
  ∃ u w',(Builtin.append_ #[t,t] ty #[su,xu]).run X.P w=.ok u w'∧K (a.put o.dst u) w':=by
 obtain ⟨d,hdd,h3⟩:=Zg hr
 obtain ⟨ti,hti,h4⟩:=Zg h3
 obtain ⟨e,he,h5⟩:=Zg h4
 obtain ⟨ei,hei,h6⟩:=Zg h5
 obtain ⟨m,h7,h8,_⟩:=Zhx h6
 obtain ⟨huni,h9⟩:=ZC h7
 obtain ⟨i,dsc,z,hto⟩:=TI.ok (hT t ti hti)
 obtain ⟨i',dsc',z',heo⟩:=TI.ok (hT e ei hei)
 have hu:=hto.und
 rw [hto.elem e he] at hu
 obtain ⟨us,hus,hh,hone,hlen,_,hf⟩:=Zfx (P:=X.P) (h8 ok ℓ w xu h2) huni
 exact Zj6 (t2:=t) hT hd hs h1 hdd heo hus hh hone (fun base n cap hfit=>Zli hu heo ty base n cap m.length xu us hlen (hf w rfl) hfit) (fun base n cap olds hfo hg hroom=>ZiB hu heo ty base n cap m.length xu us olds hlen hf hfo hg hroom) h9 hfr hK

theorem Zhw (hT:TOk X) (hd:∀ d,o.dst=some d→d < X.n) {ty:TypeId} {t t2:TypeId} {S:Start} {ok ℓ st a w} (hs:SimW X S ok ℓ st a w) {su xu:Value} {sv xv:V} (h1:RV ok ℓ w su sv) (h2:RV ok ℓ w xu xv)
  {R:List Key} {r:Out} (hr:Runs (ZmQ X o.dst t t2 sv xv) st R r) (hfr:∀ n∈r.new,st.Free n) {K:Act→World→Prop} (hK:∀ a' w',Sim X S (st.apply o.dst none r) a' w'→K a' w') :
  ∃ u w',(Builtin.append_ #[t,t2] ty #[su,xu]).run X.P w=.ok u w'∧K (a.put o.dst u) w':=by
 obtain ⟨d,hdd,h3⟩:=Zg hr
 obtain ⟨ti,hti,h4⟩:=Zg h3
 obtain ⟨e,he,h5⟩:=Zg h4
 obtain ⟨ei,hei,h6⟩:=Zg h5
 obtain ⟨ni,hni,h7⟩:=Zg h6
 obtain ⟨kk,hkk,h8⟩:=Zg h7
 obtain ⟨z,hz,h9⟩:=Zg h8
 obtain ⟨k,n,rfl,h10⟩:=Zb4 h9
 obtain ⟨⟨hz1,hz2,hn0,hnb,hn1⟩,h11⟩:=ZC h10
 obtain ⟨i,dsc,zz,hto⟩:=TI.ok (hT t ti hti)
 obtain ⟨i',dsc',z',heo⟩:=TI.ok (hT e ei hei)
 obtain ⟨i2,dsc2,z2,hno⟩:=TI.ok (hT t2 ni hni)
 have hu:=hto.und
 rw [hto.elem e he] at hu
 have hu2:=hno.und
 rw [hno.kind kk hkk] at hu2
 have hx:=h2.1.int_inv
 subst hx
 have hzh:=Zmr (ok:=ok) (w:=w) heo hz hz1 n.toNat n.toNat (Nat.le_refl _)
 have hzs:z'.cells.size=ei.size:=by
  have:=(Zdi ok ℓ w z'.cells.toList ei.zero heo.zcells).1.1
  simp at this; rw [this,heo.zlen]
 have hml:(List.replicate n.toNat z).length=n.toNat:=List.length_replicate
 have hzc:Builtin.zeroCells z'.cells n.toNat=madeCells z'.cells (n.toNat*i'.size):=by
  unfold Builtin.zeroCells madeCells
  rw [hzs,heo.size]
 have hw:IntKind.i64.wrap n=n:=by rw [IntKind.wrap_i64]; omega
 refine Zj6 (t2:=t2) (us:=(Builtin.zeroCells z'.cells n.toNat).toList) hT hd hs h1 hdd heo ?_ ?_ ?_ ?_ ?_ h11 hfr hK
 ·rw [hml,Array.length_toList,size_zeroCells,hzs]
 ·exact hzh.at_eq (fun j hj=>by rw [hzc]; simp)
 ·intro u hu'
  rw [hzc,Array.mem_toList_iff] at hu'
  unfold madeCells at hu'
  rw [Array.mem_map] at hu'
  obtain ⟨j,_,rfl⟩:=hu'
  have hlt:j % z'.cells.size < z'.cells.size:=Nat.mod_lt _ (by omega)
  have hzc2:=(Zdi ok ℓ w z'.cells.toList ei.zero heo.zcells).1
  refine RCs.oneCell hzc2 _ ?_
  rw [getElem!_pos z'.cells _ hlt]
  simp
 ·intro base m cap hfit
  rw [hml] at hfit ⊢
  rcases Nat.eq_zero_or_pos n.toNat with h0 | h0
  ·have hn00:n=0:=by omega
   subst hn00
   have hfit2:m≤cap:=by simpa using hfit
   have hz0:Builtin.zeroCells z'.cells 0=#[]:=by simp [Builtin.zeroCells]
   cases base with
   | none=>simp [Builtin.append_,run_underlying hu,run_underlying hu2,sizeOf,typeInfo,heo.info,heo.size,heo.bytes,zeroValue,heo.zero,asInt,asIntOf,hw,hfit2,hz0]
   | some a=>simp [Builtin.append_,run_underlying hu,run_underlying hu2,sizeOf,typeInfo,heo.info,heo.size,heo.bytes,zeroValue,heo.zero,asInt,asIntOf,hw,hfit2,hz0]
  ·obtain ⟨N,rfl⟩:∃ N:Nat,n=(N:Int):=⟨n.toNat,by omega⟩
   rw [Int.toNat_natCast] at *
   have hne:¬ ((N:Int) < 0):=by omega
   have hnb2:¬ (281474976710656 < (N:Int)*(ei.bytes:Int)):=by omega
   have hmul:(N*ei.size=0)=False:=by
    have:=Nat.mul_pos h0 hz2
    exact eq_false (by omega)
   cases base with
   | none=>simp [Builtin.append_,run_underlying hu,run_underlying hu2,sizeOf,typeInfo,heo.info,heo.size,heo.bytes,zeroValue,heo.zero,asInt,asIntOf,hw,hne,hnb2,hfit,hmul]
   | some a=>simp [Builtin.append_,run_underlying hu,run_underlying hu2,sizeOf,typeInfo,heo.info,heo.size,heo.bytes,zeroValue,heo.zero,asInt,asIntOf,hw,hne,hnb2,hfit,hmul]
 ·intro base m cap olds hfo hg hroom
  rw [hml] at hg hroom ⊢
  have hf2:=hfo w.drew rfl
  obtain ⟨hr1,hr2⟩:=hroom
  rcases Nat.eq_zero_or_pos n.toNat with h0 | h0
  ·have hn00:n=0:=by omega
   subst hn00
   simp only [Int.toNat_zero,Nat.add_zero] at hg hr1 hr2 ⊢
   have hz0:Builtin.zeroCells z'.cells 0=#[]:=by simp [Builtin.zeroCells]
   have hn:¬ (m≤cap):=by omega
   have h48:=growslice_fits (old:=cap) (bytes:=ei.bytes) hg hr1
   have h48':¬ (281474976710656 < Builtin.nextslicecap m cap*ei.bytes):=by omega
   have h63':¬ (9223372036854775807 < (m:Int)):=by omega
   simp [Builtin.append_,run_underlying hu,run_underlying hu2,sizeOf,typeInfo,heo.info,heo.size,heo.bytes,zeroValue,heo.zero,asInt,asIntOf,hw,hn,h63',h48',Question.forced,hf2,newRow,grownCap,hz0]
  ·obtain ⟨N,rfl⟩:∃ N:Nat,n=(N:Int):=⟨n.toNat,by omega⟩
   rw [Int.toNat_natCast] at *
   have hne:¬ ((N:Int) < 0):=by omega
   have hnb2:¬ (281474976710656 < (N:Int)*(ei.bytes:Int)):=by omega
   have hmul:(N*ei.size=0)=False:=by
    have:=Nat.mul_pos h0 hz2
    exact eq_false (by omega)
   have hn:¬ (m+N≤cap):=by omega
   have h48:=growslice_fits (old:=cap) (bytes:=ei.bytes) hg hr1
   have h48':¬ (281474976710656 < Builtin.nextslicecap (m+N) cap*ei.bytes):=by omega
   have h63':¬ (9223372036854775807 < ((m:Int)+(N:Int))):=by omega
   simp [Builtin.append_,run_underlying hu,run_underlying hu2,sizeOf,typeInfo,heo.info,heo.size,heo.bytes,zeroValue,heo.zero,asInt,asIntOf,hw,hne,hnb2,hn,h63',h48',Question.forced,hf2,newRow,grownCap,hmul]

end

end Go.Vam
end
