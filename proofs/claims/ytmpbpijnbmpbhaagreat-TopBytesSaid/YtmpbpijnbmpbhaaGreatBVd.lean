/- A part of the proof. Conditions: none. -/
import Derived.Test.YtmpbpijnbmpbhaaGreatBVc
section
set_option linter.unusedVariables false
set_option linter.unusedSimpArgs false
namespace Go.Vam

section
variable {X:Ctx} {gd:Option Bool} {o:Oper}

theorem Holds.sz_eq {ok w sz l f} (h:Holds ok w sz l f) {y:D} (hy:y∈l) {n:Nat} (hn:y.cells.length=n):sz=n:=by rw [← h.1 y hy,hn]

theorem Holds.cut {ok:Zas} {w:World} {sz:Nat} {l:List D} {f:Nat→Option Value} (h:Holds ok w sz l f) (n k:Nat):Holds ok w sz (cut l n k) (fun i=>f (n*sz+i)):=by
 refine ⟨fun x hx=>h.1 x (List.drop_subset _ _ (List.take_subset _ _ hx)),fun i x j y hx hy=>?_⟩
 rw [ZaJ] at hx
 split at hx
 ·obtain ⟨a,u,b,c⟩:=h.2 (n+i) x j y hx hy
  refine ⟨a,u,?_,c⟩
  show f (n*sz+(i*sz+j))=some u
  rw [← b]; congr 1; rw [Nat.add_mul]; omega
 ·cases hx

theorem Znr (hT:TOk X) (hd:∀ d,o.dst=some d→d < X.n) (hg:gd.getD true=true) {t:TypeId} {x y:Operand} (ho:o.op=.indexAddr t x y):ZcU X gd o:=by
 rintro S st a w R r hr _ ⟨ok,ℓ,hs⟩ K Q hK
 simp only [Z6,ho] at hr
 obtain ⟨xv,R1,h1,h2,hf1⟩:=ZX hs hg hr
 obtain ⟨yv,R2,h3,h4,hf2⟩:=ZX hs hg h2
 obtain ⟨k,n,rfl,h5⟩:=Zb4 h4
 obtain ⟨ti,hti,h6⟩:=Zg h5
 obtain ⟨i,dsc,z,hto⟩:=TI.ok (hT t ti hti)
 have hy0:a.eval y=.int k n:=h3.1.int_inv
 split at h6
 ·rename_i e he
  obtain ⟨ei,hei,h7⟩:=Zg h6
  obtain ⟨i',dsc',z',heo⟩:=TI.ok (hT e ei hei)
  obtain ⟨len,ie,hd1,hd2,hd3⟩:=hto.arr e he
  rw [heo.info] at hd2
  cases hd2
  have hu:=hto.und
  rw [hd1] at hu
  split at h7
  ·rename_i m off
   obtain ⟨⟨g1,g2,g3⟩,h8⟩:=Z1 hg h7
   rw [Zt h8] at hK
   simp only [RV,RC] at h1
   have hlt:n < len:=by
    rw [hd3,heo.size] at g2
    have:(n.toNat+1)*ei.size≤len*ei.size:=by rw [Nat.add_mul,Nat.one_mul]; exact g2
    have:=Nat.le_of_mul_le_mul_right this g3
    omega
   refine Zu (u:=.pointer (some ⟨ℓ.i m,off+n.toNat*ei.size,none⟩)) (w':=w) ?_ (hK _ _ (Sim.plain hs hd hg rfl))
   simp [execOp,ho,h1,hy0,Instr.indexAt,Instr.sureAddr,run_underlying hu,asIntOf,g1,hlt,ZO heo,Zb7]
  ·exact (Zv h7).elim
 obtain ⟨e,he,h7⟩:=Zg h6
 obtain ⟨ei,hei,h8⟩:=Zg h7
 obtain ⟨i',dsc',z',heo⟩:=TI.ok (hT e ei hei)
 have hu:=hto.und
 rw [hto.elem e he] at hu
 have hy:a.eval y=.int k n:=h3.1.int_inv
 split at h8
 ·rename_i kk len
  obtain ⟨tk,R3,h9,h10⟩:=Zda h8
  obtain ⟨⟨h11,h12⟩,h13⟩:=Z1 hg h10
  obtain ⟨⟨h14,h14'⟩,h15⟩:=ZC h13
  rw [Zt h15] at hK
  simp only [RV,RC] at h1
  obtain ⟨cap,_,h1⟩:=h1
  have hz:=(hs.mem.arr kk tk h9 h14').1
  refine Zu (u:=.pointer (some ⟨ℓ.i kk,n.toNat*tk.sz+0,none⟩)) (w':=w) ?_ (hK _ _ (Sim.plain hs hd hg (by simp only [RV,RC]; rw [hz])))
  simp [execOp,ho,h1,hy,Instr.indexAt,run_underlying hu,asIntOf,h11,h12,ZO heo,Zb7,h14]
 ·rename_i mm len
  obtain ⟨⟨h11,h12⟩,h13⟩:=Z1 hg h8
  obtain ⟨h14,h15⟩:=ZC h13
  rw [Zt h15] at hK
  simp only [RV,RC] at h1
  refine Zu (u:=.pointer (some ⟨ℓ.i mm,n.toNat,none⟩)) (w':=w) ?_ (hK _ _ (Sim.plain hs hd hg rfl))
  simp [execOp,ho,h1,hy,Instr.indexAt,run_underlying hu,asIntOf,h11,h12,ZO heo,Zb7,h14]
 ·rename_i kk off len
  obtain ⟨tk,R3,h9,h10⟩:=Zda h8
  obtain ⟨⟨h11,h12⟩,h13⟩:=Z1 hg h10
  obtain ⟨⟨h14,h14a,h14'⟩,h15⟩:=ZC h13
  rw [Zt h15] at hK
  simp only [RV,RC] at h1
  have hz:=(hs.mem.arr kk tk h9 h14').1
  refine Zu (u:=.pointer (some ⟨ℓ.i kk,off+n.toNat,none⟩)) (w':=w) ?_ (hK _ _ (Sim.plain hs hd hg (by simp only [RV,RC]; rw [hz,h14]; simp)))
  simp [execOp,ho,h1,hy,Instr.indexAt,run_underlying hu,asIntOf,h11,h12,ZO heo,Zb7,h14a]
 ·rename_i kk wd len
  obtain ⟨⟨h11,h12⟩,h13⟩:=Z1 hg h8
  obtain ⟨h14,h15⟩:=ZC h13
  rw [Zt h15] at hK
  obtain ⟨b,o',h1a,h1b⟩:=h1
  have hn:=h1b n.toNat (by omega)
  refine Zu (u:=.pointer (some ⟨b,o'+n.toNat,none⟩)) (w':=w) ?_ (hK _ _ (Sim.plain hs hd hg ⟨b,o'+n.toNat,rfl,hn.1,hn.2⟩))
  simp [execOp,ho,h1a,hy,Instr.indexAt,run_underlying hu,asIntOf,h11,h12,ZO heo,Zb7,h14]
 ·obtain ⟨l,h9,h10,_⟩:=Zhx h8
  obtain ⟨z0,_,h11⟩:=Zg h9
  obtain ⟨⟨h12,h13⟩,h15⟩:=Z1 hg h11
  obtain ⟨⟨h16,h16'⟩,h17⟩:=ZC h15
  rw [h16'] at h17
  obtain ⟨x',h14⟩:∃ x',l[n.toNat]?=some x':=⟨_,List.getElem?_eq_getElem (by omega)⟩
  rw [h14,Option.getD_some] at h16 h17
  rw [Zt h17] at hK
  obtain ⟨ad,cap,hv,hl⟩:=(h10 ok ℓ w _ h1).holds
  rcases hl with hl | ⟨blk,o',sz,ha,hcap,hh,hok⟩
  ·rw [hl] at h13; simp at h13; omega
  ·have hsz:=hh.sz_eq (List.mem_of_getElem? h14) h16
   refine Zu (u:=.pointer (some ⟨blk,o'+n.toNat*ei.size,none⟩)) (w':=w) ?_ (hK _ _ (Sim.plain hs hd hg ⟨blk,o'+n.toNat*ei.size,rfl,fun j z hz=>?_⟩))
   ·simp [execOp,ho,hv,ha,hy,Instr.indexAt,run_underlying hu,asIntOf,h12,h13,ZO heo,Zb7]
   ·obtain ⟨hsc,u,hu',hrep⟩:=hh.2 n.toNat x' j z h14 hz
    subst hsz
    have hlt:n.toNat*ei.size+j < l.length*ei.size:=by
     have hi:n.toNat < l.length:=(List.getElem?_eq_some_iff.1 h14).1
     have hj:j < ei.size:=by rw [← h16]; exact (List.getElem?_eq_some_iff.1 hz).1
     calc n.toNat*ei.size+j < n.toNat*ei.size+ei.size:=by omega
      _=(n.toNat+1)*ei.size:=by rw [Nat.add_mul,Nat.one_mul]
      _≤l.length*ei.size:=Nat.mul_le_mul_right _ hi
    refine ⟨hsc,by rw [Nat.add_assoc]; exact hok _ hlt,u,by rw [Nat.add_assoc]; exact hu',hrep⟩

theorem Zfs {α:Type} {S:Start} {ok ℓ st a w} {R:List Key} {r:α} (hs:SimW X S ok ℓ st a w) (hg:gd.getD true=true) {x:Option Operand} {n:Int} {f:Int→Rd α} (h:Runs (ZiJ gd x n f) st R r) :
  ∃ m R',Runs (f m) st R' r∧((x=none∧m=n)∨∃ y k,x=some y∧a.eval y=.int k m):=by
 cases x with
 | none=>exact ⟨n,R,h,.inl ⟨rfl,rfl⟩⟩
 | some y =>
  obtain ⟨v,R1,h1,h2,_⟩:=ZX hs hg h
  obtain ⟨k,m,rfl,h3⟩:=Zb4 h2
  exact ⟨m,R1,h3,.inr ⟨y,k,rfl,h1.1.int_inv⟩⟩

theorem Zei {P:Program} {w:World} (len cap:Nat) {lo hi mx:Option Value} {n h m:Int} (h0:0≤n) (h1:n≤h) (h2:h≤m) (h3:m≤cap) (h4:len≤cap)
  (hlo:(lo=none∧n=0)∨∃ k,lo=some (.int k n)) (hhi:(hi=none∧h=len)∨∃ k,hi=some (.int k h)) (hmx:(mx=none∧m=h)∨∃ k,mx=some (.int k m)) (hne:mx.isSome=true→hi.isSome=true) :
  (Instr.sliceBounds true len cap lo hi mx).run P w=.ok (n.toNat,h.toNat,if mx.isSome=true then m.toNat else cap) w:=by
 have b:∀ (k:IntKind) (i:Int) (y:Nat) (c:BoundsCode),0≤i→i≤y→(Instr.sliceBound (.int k i) y c).run P w=.ok i.toNat w:=fun k i y c a b=>run_sliceBound w k i y c a b
 rcases hmx with ⟨rfl,rfl⟩ | ⟨km,rfl⟩
 ·rcases hhi with ⟨rfl,rfl⟩ | ⟨kh,rfl⟩
  ·rcases hlo with ⟨rfl,rfl⟩ | ⟨kl,rfl⟩
   ·simp [Instr.sliceBounds]
   ·simp [Instr.sliceBounds,b kl n _ _ h0 h1]
  ·have e1:=b kh m cap .sliceAcap (by omega) (by omega)
   have e2:(m.toNat:Int)=m:=Int.toNat_of_nonneg (by omega)
   rcases hlo with ⟨rfl,rfl⟩ | ⟨kl,rfl⟩
   ·simp [Instr.sliceBounds,e1]
   ·simp [Instr.sliceBounds,e1,b kl n m.toNat _ h0 (by omega)]
 ·rcases hhi with ⟨rfl,_⟩ | ⟨kh,rfl⟩
  ·simp at hne
  ·have e1:=b km m cap .slice3Acap (by omega) (by omega)
   have e2:=b kh h m.toNat .slice3B (by omega) (by omega)
   rcases hlo with ⟨rfl,rfl⟩ | ⟨kl,rfl⟩
   ·simp [Instr.sliceBounds,e1,e2]
   ·simp [Instr.sliceBounds,e1,e2,b kl n h.toNat _ h0 (by omega)]

theorem ZBD (hT:TOk X) (hd:∀ d,o.dst=some d→d < X.n) (hg:gd.getD true=true) {t:TypeId} {x:Operand} {lo hi mx:Option Operand} (ho:o.op=.slice t x lo hi mx):ZcU X gd o:=by
 rintro S st a w R r hr _ ⟨ok,ℓ,hs⟩ K Q hK
 simp only [Z6,ho] at hr
 obtain ⟨xv,R1,h1,h2,hf1⟩:=ZX hs hg hr
 obtain ⟨ti,hti,h6⟩:=Zg h2
 obtain ⟨e,he,h7⟩:=Zg h6
 obtain ⟨ei,hei,h8⟩:=Zg h7
 obtain ⟨i,dsc,z,hto⟩:=TI.ok (hT t ti hti)
 obtain ⟨i',dsc',z',heo⟩:=TI.ok (hT e ei hei)
 have hu:=hto.und
 rw [hto.elem e he] at hu
 split at h8
 ·rename_i kk len
  obtain ⟨tk,R2',h9',h8'⟩:=Zda h8
  obtain ⟨n,R2,h11,hlo⟩:=Zfs hs hg h8'
  obtain ⟨h,R3,h12,hhi⟩:=Zfs hs hg h11
  obtain ⟨m,R4,h13,hmx⟩:=Zfs hs hg h12
  obtain ⟨⟨hne1,hne2⟩,h14⟩:=ZC h13
  obtain ⟨⟨g0,g1,g2,g3⟩,h15⟩:=Z1 hg h14
  obtain ⟨⟨k1,k2,k3⟩,h16⟩:=ZC h15
  rw [Zt h16] at hK
  simp only [RV,RC] at h1
  obtain ⟨cap,hcap,h1⟩:=h1
  have hlo':(lo.map a.eval=none∧n=0)∨∃ k,lo.map a.eval=some (.int k n):=by
   rcases hlo with ⟨rfl,rfl⟩ | ⟨y,k,rfl,hy⟩
   ·exact .inl ⟨rfl,rfl⟩
   ·exact .inr ⟨k,by simp [hy]⟩
  have hhi':(hi.map a.eval=none∧h=(len:Int))∨∃ k,hi.map a.eval=some (.int k h):=by
   rcases hhi with ⟨rfl,rfl⟩ | ⟨y,k,rfl,hy⟩
   ·exact .inl ⟨rfl,rfl⟩
   ·exact .inr ⟨k,by simp [hy]⟩
  have hmx':(mx.map a.eval=none∧m=h)∨∃ k,mx.map a.eval=some (.int k m):=by
   rcases hmx with ⟨rfl,rfl⟩ | ⟨y,k,rfl,hy⟩
   ·exact .inl ⟨rfl,rfl⟩
   ·exact .inr ⟨k,by simp [hy]⟩
  have hbd:=Zei (P:=X.P) (w:=w) len cap g0 (by omega) (by omega) (by omega) hcap hlo' hhi' hmx' (by simpa using fun _=>hne2)
  have e1:(mx.map a.eval).isSome=true:=by simpa using hne1
  have e2:¬ (m.toNat=n.toNat):=by omega
  have e3:m.toNat - n.toNat=h.toNat - n.toNat:=by omega
  have hrun:(execOp a.eval o).run X.P w=.ok (.value (.slice (some ⟨ℓ.i kk,n.toNat,none⟩) (h - n).toNat (h - n).toNat)) w:=by
   have e4:(h - n).toNat=h.toNat - n.toNat:=by omega
   simp [execOp,ho,h1,Instr.sliceAt,run_underlying hu,Instr.slice,hbd,ZO heo,e1,e2,e3,e4,k2,Zb7]
  exact Zu hrun (hK _ _ (Sim.plain hs hd hg rfl))
 obtain ⟨l,h9,h10,_⟩:=Zhx h8
 obtain ⟨n,R2,h11,hlo⟩:=Zfs hs hg h9
 obtain ⟨h,R3,h12,hhi⟩:=Zfs hs hg h11
 obtain ⟨m,R4,h13,hmx⟩:=Zfs hs hg h12
 obtain ⟨hne,h14⟩:=ZC h13
 obtain ⟨⟨g0,g1,g2,g3⟩,h15⟩:=Z1 hg h14
 obtain ⟨huni,h16⟩:=ZC h15
 obtain ⟨ad,cap,hv,hl⟩:=(h10 ok ℓ w _ h1).holds
 have hcap:l.length≤cap:=by
  rcases hl with rfl | ⟨_,_,_,_,h,_⟩
  ·simp
  ·exact h
 have hlo':(lo.map a.eval=none∧n=0)∨∃ k,lo.map a.eval=some (.int k n):=by
  rcases hlo with ⟨rfl,rfl⟩ | ⟨y,k,rfl,hy⟩
  ·exact .inl ⟨rfl,rfl⟩
  ·exact .inr ⟨k,by simp [hy]⟩
 have hhi':(hi.map a.eval=none∧h=(l.length:Int))∨∃ k,hi.map a.eval=some (.int k h):=by
  rcases hhi with ⟨rfl,rfl⟩ | ⟨y,k,rfl,hy⟩
  ·exact .inl ⟨rfl,rfl⟩
  ·exact .inr ⟨k,by simp [hy]⟩
 have hmx':(mx.map a.eval=none∧m=h)∨∃ k,mx.map a.eval=some (.int k m):=by
  rcases hmx with ⟨rfl,rfl⟩ | ⟨y,k,rfl,hy⟩
  ·exact .inl ⟨rfl,rfl⟩
  ·exact .inr ⟨k,by simp [hy]⟩
 have hbd:=Zei (P:=X.P) (w:=w) l.length cap g0 g1 g2 (by omega) hcap hlo' hhi' hmx' (by simpa using hne)
 have hrun:(execOp a.eval o).run X.P w=.ok (.value (.slice (if (if (mx.map a.eval).isSome=true then m.toNat else cap)=n.toNat then ad else ad.map (·.add (n.toNat*ei.size))) (h.toNat - n.toNat) ((if (mx.map a.eval).isSome=true then m.toNat else cap) - n.toNat))) w:=by
  simp [execOp,ho,hv,Instr.sliceAt,run_underlying hu,Instr.slice,hbd,ZO heo]
 refine Zu hrun (hK _ _ ?_)
 split at h16
 ·rename_i hz
  rw [Zt h16]
  refine Sim.plain hs hd hg ⟨if (if (mx.map a.eval).isSome=true then m.toNat else cap)=n.toNat then ad else ad.map (·.add (n.toNat*ei.size)),?_⟩
  ·have hm0:m=0∧mx.isSome=true:=by
    unfold Zk7 at hz
    split at hz
    ·rcases hmx with ⟨e,_⟩ | ⟨y,k,e,hy⟩
     ·cases e
     ·cases e; simp [Act.eval] at hy; exact ⟨hy.2.symm,rfl⟩
    ·cases hz
   have e1:(mx.map a.eval).isSome=true:=by simpa using hm0.2
   have e2:h.toNat - n.toNat=0:=by omega
   have e3:m.toNat - n.toNat=0:=by omega
   simp only [e1,if_true,e2,e3]
 ·rw [Zt h16]
  refine Sim.plain hs hd hg ⟨?_,rfl⟩
  have hlen:(cut l n.toNat (h.toNat - n.toNat)).length=h.toNat - n.toNat:=ZaP _ _ _ (by omega)
  by_cases hempty:h.toNat - n.toNat=0
  ·have:cut l n.toNat (h.toNat - n.toNat)=[]:=by rw [hempty]; simp [cut]
   rw [this,hempty]
   exact .nil _ _
  ·rcases hl with rfl | ⟨blk,o',sz,rfl,_,hh,hok⟩
   ·simp at g3; omega
   ·have hsz:sz=ei.size:=by
     rcases l with _ | ⟨y,ys⟩
     ·simp at g3; omega
     ·exact Holds.sz_eq hh (List.mem_cons_self) (huni y (List.mem_cons_self))
    subst hsz
    have hm:¬ (if (mx.map a.eval).isSome=true then m.toNat else cap)=n.toNat:=by split <;> omega
    rw [if_neg hm]
    simp only [Option.map_some,Zb7]
    have:=Rep.of_holds (ok:=ok) (w:=w) (blk:=blk) (o:=o'+n.toNat*ei.size) (cap:=(if (mx.map a.eval).isSome=true then m.toNat else cap) - n.toNat)
     (l:=cut l n.toNat (h.toNat - n.toNat)) (by rw [hlen]; split <;> omega) ((hh.cut n.toNat (h.toNat - n.toNat)).at_eq (fun i hi=>by simp only [Nat.add_assoc])) (fun i hi=>?_)
    ·rw [hlen] at this; exact this
    ·rw [hlen] at hi
     rw [Nat.add_assoc]
     refine hok _ ?_
     calc n.toNat*ei.size+i < n.toNat*ei.size+(h.toNat - n.toNat)*ei.size:=by omega
      _=h.toNat*ei.size:=by rw [← Nat.add_mul]; congr 1; omega
      _≤l.length*ei.size:=Nat.mul_le_mul_right _ (by omega)

theorem Zib (off:Nat):∀ (us:List Value) (k:Nat) (cs:Array Value),(us.zipIdx k).foldl (fun (cs:Array Value) (p:Value×Nat)=>cs.setIfInBounds (off+p.2) p.1) cs=ZP cs (off+k) us
 | [],k,cs=>rfl
 | u::us,k,cs=>by
  simp only [List.zipIdx_cons,List.foldl_cons,ZP]
  exact Zib off us (k+1) _

theorem Zkr (cs vs:Array Value) (off:Nat):vs.zipIdx.foldl (fun (cs:Array Value) (x:Value×Nat)=>match x with | (c,j)=>cs.setIfInBounds (off+j) c) cs=ZP cs off vs.toList:=by
 rw [← Array.foldl_toList,Array.toList_zipIdx]
 have:=Zib off vs.toList 0 cs
 simpa using this

theorem ZfS {β:Type}:∀ (l:List β) (off:Nat) (ys:List β) (i:Nat),off+ys.length≤l.length→(lay l off ys)[i]?=if off≤i∧i < off+ys.length then ys[i - off]? else l[i]?
 | l,0,ys,i,h=>by
  simp only [lay]
  by_cases hi:i < ys.length
  ·rw [List.getElem?_append_left hi,if_pos (by omega)]; rfl
  ·rw [List.getElem?_append_right (by omega),if_neg (by omega),List.getElem?_drop]
   congr 1; omega
 | [],off+1,ys,i,h=>by simp at h
 | x::l,off+1,ys,i,h=>by
  simp only [lay]
  simp only [List.length_cons] at h
  cases i with
  | zero=>simp
  | succ i =>
   simp only [List.getElem?_cons_succ]
   rw [ZfS l off ys i (by omega)]
   by_cases hi:off≤i∧i < off+ys.length
   ·rw [if_pos hi,if_pos (by omega)]; congr 1; omega
   ·rw [if_neg hi,if_neg (by omega)]

theorem ZhF {β:Type}:∀ (l:List β) (off:Nat) (ys:List β),off+ys.length≤l.length→(lay l off ys).length=l.length
 | l,0,ys,h=>by simp only [lay,List.length_append,List.length_drop]; omega
 | [],off+1,ys,h=>by simp at h
 | x::l,off+1,ys,h=>by
  simp only [lay,List.length_cons] at h ⊢
  rw [ZhF l off ys (by omega)]

theorem RCs.lay {ok ℓ w} {cs vs:Array Value} {l ys:List C} {off:Nat} (h:RCs ok ℓ w cs l) (h':RCs ok ℓ w vs ys) (hle:off+ys.length≤l.length):RCs ok ℓ w (ZP cs off vs.toList) (lay l off ys):=by
 refine ⟨by rw [ZbH,ZhF _ _ _ hle,h.1],fun i u c hu hc=>?_⟩
 rw [ZfS _ _ _ _ hle] at hc
 have hvl:vs.toList.length=ys.length:=by simpa using h'.1
 split at hc
 ·rename_i hi
  have:=ZdN vs.toList cs off (i - off) (by rw [hvl,h.1]; exact hle) (by omega)
  rw [show off+(i - off)=i by omega,hu] at this
  exact h'.2 (i - off) u c (by simpa using this.symm) hc
 ·rename_i hi
  rw [Za7 _ _ _ _ (by omega)] at hu
  exact h.2 i u c hu hc

theorem ZeS {ok ℓ w u} {v:V} {cs:List C} (h:RV ok ℓ w u v) (hc:v.cells=some cs):RCs ok ℓ w u.cells cs:=by
 cases v with
 | c x =>
  simp only [V.cells,Option.some.injEq] at hc
  subst hc
  have h1:=RC.oneCell h
  have:u.cells=#[u]:=by cases u <;> first | rfl | simp [Value.oneCell'] at h1
  rw [this]
  refine ⟨rfl,fun i z c hz hc=>?_⟩
  cases i with
  | zero=>simp at hz hc; subst hz; subst hc; exact h
  | succ i=>simp at hz
 | agg cs' =>
  simp only [V.cells,Option.some.injEq] at hc
  subst hc
  obtain ⟨vs,rfl,h⟩:=h
  exact h
 | tup ds=>cases hc
 | ts sh cs=>cases hc
 | g γ v=>cases hc

theorem ZzS {v:V} {cs:List C} (hc:v.cells=some cs) {n:Name} {c:C} (h:c∈cs) (hn:c.has n):v.has n:=by
 cases v with
 | c x=>simp only [V.cells,Option.some.injEq] at hc; subst hc; simp at h; subst h; exact hn
 | agg cs'=>simp only [V.cells,Option.some.injEq] at hc; subst hc; exact ⟨c,h,hn⟩
 | tup ds=>cases hc
 | ts sh cs=>cases hc
 | g γ v=>cases hc

theorem Zfv (hT:TOk X) {P:Program} (hP:P=X.P) {ok ℓ w} {fields:List (Nat×Nat)} {places:List (Nat×Nat)} (hpl:∀ (i:Nat) p fi,fields[i]?=some p→X.tt p.2=some fi→places[i]?=some (p.1,fi.size)) :
  ∀ (is:List Nat) (us:List Value) (vs:List V) (cs:Array Value) (l l':List C),is.length=us.length→RVs ok ℓ w us.toArray vs→RCs ok ℓ w cs l→Zbc X fields l (is.zip vs)=some l'→
   ∃ cs',Instr.fill (fun x=>places.toArray[x]?) cs (is.zip us)=some cs'∧RCs ok ℓ w cs' l'
 | [],us,vs,cs,l,l',hl,hr,hc,hb=>by
  simp only [List.zip_nil_left,Zbc,Option.some.injEq] at hb
  subst hb
  exact ⟨cs,by simp [Instr.fill],hc⟩
 | i::is,[],vs,cs,l,l',hl,hr,hc,hb=>by simp at hl
 | i::is,u::us,[],cs,l,l',hl,hr,hc,hb=>by have:=hr.1; simp at this
 | i::is,u::us,v::vs,cs,l,l',hl,hr,hc,hb=>by
  simp only [List.zip_cons_cons,Zbc] at hb
  split at hb
  case h_2=>cases hb
  rename_i off ft hf
  split at hb
  case h_2=>cases hb
  rename_i fi ys hfi hys
  split at hb
  case isFalse=>cases hb
  rename_i hsz
  have hru:RV ok ℓ w u v:=hr.2 0 u v (by simp) (by simp)
  have hrs:RVs ok ℓ w us.toArray vs:=⟨by have:=hr.1; simpa using this,fun j a b ha hb=>hr.2 (j+1) a b (by simpa using ha) (by simpa using hb)⟩
  have hcu:=ZeS hru hys
  have hpi:=hpl i (off,ft) fi hf hfi
  obtain ⟨cs',h1,h2⟩:=Zfv hT hP hpl is us vs (ZP cs off u.cells.toList) _ l' (by simpa using hl) hrs (hc.lay hcu (by omega)) hb
  refine ⟨cs',?_,h2⟩
  simp only [List.zip_cons_cons,Instr.fill,List.getElem?_toArray,hpi]
  have e1:¬ (u.cells.size≠fi.size∨off+u.cells.size > cs.size):=by
   have:=hcu.1; have:=hc.1; omega
  rw [if_neg (by simpa using e1),Zkr]
  simpa using h1

theorem Zh9 {ok ℓ w} (sz:Nat):∀ (is:List Nat) (us:List Value) (vs:List V) (cs:Array Value) (l l':List C),is.length=us.length→RVs ok ℓ w us.toArray vs→RCs ok ℓ w cs l→Zcy sz l (is.zip vs)=some l'→
   ∃ cs',Instr.fill (fun i=>some (i*sz,sz)) cs (is.zip us)=some cs'∧RCs ok ℓ w cs' l'
 | [],us,vs,cs,l,l',hl,hr,hc,hb=>by
  simp only [List.zip_nil_left,Zcy,Option.some.injEq] at hb
  subst hb
  exact ⟨cs,by simp [Instr.fill],hc⟩
 | i::is,[],vs,cs,l,l',hl,hr,hc,hb=>by simp at hl
 | i::is,u::us,[],cs,l,l',hl,hr,hc,hb=>by have:=hr.1; simp at this
 | i::is,u::us,v::vs,cs,l,l',hl,hr,hc,hb=>by
  simp only [List.zip_cons_cons,Zcy] at hb
  split at hb
  case h_2=>cases hb
  rename_i ys hys
  split at hb
  case isFalse=>cases hb
  rename_i hsz
  have hru:RV ok ℓ w u v:=hr.2 0 u v (by simp) (by simp)
  have hrs:RVs ok ℓ w us.toArray vs:=⟨by have:=hr.1; simpa using this,fun j a b ha hb=>hr.2 (j+1) a b (by simpa using ha) (by simpa using hb)⟩
  have hcu:=ZeS hru hys
  obtain ⟨cs',h1,h2⟩:=Zh9 sz is us vs (ZP cs (i*sz) u.cells.toList) _ l' (by simpa using hl) hrs (hc.lay hcu (by omega)) hb
  refine ⟨cs',?_,h2⟩
  simp only [List.zip_cons_cons,Instr.fill]
  have e1:¬ (u.cells.size≠sz∨i*sz+u.cells.size > cs.size):=by
   have:=hcu.1; have:=hc.1; omega
  rw [if_neg (by simpa using e1),Zkr]
  simpa using h1

theorem ZkA {P:Program}:∀ (fs:List Field),(∀ f∈fs,(P.info? f.type).isSome=true)→∃ pl:List (Nat×Nat),fs.mapM (fun f=>(P.info? f.type).map fun i=>(f.offset,i.size))=some pl∧
  ∀ (j:Nat) f i,fs[j]?=some f→P.info? f.type=some i→pl[j]?=some (f.offset,i.size)
 | [],_=>⟨[],rfl,by simp⟩
 | f::fs,h=>by
  obtain ⟨i,hi⟩:=Option.isSome_iff_exists.1 (h f (by simp))
  obtain ⟨pl,h1,h2⟩:=ZkA fs (fun f hf=>h f (by simp [hf]))
  refine ⟨(f.offset,i.size)::pl,by simp [List.mapM_cons,hi,h1],fun j f' i' hf' hi'=>?_⟩
  cases j with
  | zero=>simp at hf'; subst hf'; rw [hi] at hi'; cases hi'; rfl
  | succ j=>simp at hf'; simpa using h2 j f' i' hf' hi'

theorem ZBA (hT:TOk X) (hd:∀ d,o.dst=some d→d < X.n) (hg:gd.getD true=true) {t:TypeId} {ps:Array (Nat×Operand)} (ho:o.op=.build t ps):ZcU X gd o:=by
 rintro S st a w R r hr _ ⟨ok,ℓ,hs⟩ K Q hK
 simp only [Z6,ho] at hr
 obtain ⟨vs,R1,h1,h2,hf1⟩:=ZcP hs hg _ hr
 obtain ⟨ti,hti,h3⟩:=Zg h2
 obtain ⟨i,dsc,z,hto⟩:=TI.ok (hT t ti hti)
 have hzs:=hto.zshape
 have hzc:RCs ok ℓ w z.cells ti.zero:=by simpa using (Zdi ok ℓ w z.cells.toList ti.zero hto.zcells).1
 have hzip0:(ps.map fun p=>(p.1,a.eval p.2)).toList=(ps.toList.map (·.1)).zip ((ps.toList.map (·.2)).map a.eval):=by
  simp only [Array.toList_map,List.map_map]
  rw [List.zip_map']
  rfl
 split at h3
 ·rename_i e he
  obtain ⟨ei,hei,h4⟩:=Zg h3
  split at h4
  case isFalse=>exact (Zv h4).elim
  obtain ⟨cs,h5,h6⟩:=Zg h4
  rw [Zt h6] at hK
  obtain ⟨i',dsc',z',heo⟩:=TI.ok (hT e ei hei)
  obtain ⟨len,ie,hd1,hd2,hd3⟩:=hto.arr e he
  obtain ⟨cs',h7,h8⟩:=Zh9 (ok:=ok) (ℓ:=ℓ) (w:=w) ei.size (ps.toList.map (·.1)) ((ps.toList.map (·.2)).map a.eval) vs z.cells ti.zero cs (by simp) h1 hzc h5
  have hbuilt:X.P.built t (ps.map fun p=>(p.1,a.eval p.2)).toList=some cs':=by
   unfold Program.built
   have hu:=hto.und
   rw [hd1] at hu
   simp only [hto.info,hu,hto.zero,heo.info]
   rw [hzip0,heo.size]; exact h7
  refine Zu (u:=.agg cs') (w':=w) ?_ (hK _ _ (Sim.plain hs hd hg ⟨_,rfl,h8⟩))
  simp [execOp,ho,run_build w t _ _ hbuilt]
 split at h3
 case isFalse=>exact (Zv h3).elim
 rename_i hag
 obtain ⟨cs,h4,h5⟩:=Zg h3
 rw [Zt h5] at hK
 have hzip:(ps.map fun p=>(p.1,a.eval p.2)).toList=(ps.toList.map (·.1)).zip ((ps.toList.map (·.2)).map a.eval):=by
  simp only [Array.toList_map,List.map_map]
  rw [List.zip_map']
  rfl
 ·have hfe:=hag.2
  obtain ⟨fs,hdsc,hfs,hall⟩:=hto.fields hfe
  obtain ⟨pl,hpl,hpl2⟩:=ZkA (P:=X.P) fs.toList hall
  have hpl3:∀ (i:Nat) p fi,ti.fields[i]?=some p→X.tt p.2=some fi→pl[i]?=some (p.1,fi.size):=by
   intro j p fi hp hfi
   rw [← hfs,List.getElem?_map,Option.map_eq_some_iff] at hp
   obtain ⟨f,hf,rfl⟩:=hp
   obtain ⟨i',d',z',hfo⟩:=TI.ok (hT f.type fi hfi)
   rw [hpl2 j f i' hf hfo.info,hfo.size]
  obtain ⟨cs',h6,h7⟩:=Zfv hT rfl hpl3 (ps.toList.map (·.1)) ((ps.toList.map (·.2)).map a.eval) vs z.cells ti.zero cs (by simp) h1 hzc h4
  have hbuilt:X.P.built t (ps.map fun p=>(p.1,a.eval p.2)).toList=some cs':=by
   unfold Program.built
   have hu:=hto.und
   rw [hdsc] at hu
   simp only [hto.info,hu,hto.zero,hpl]
   rw [hzip]; exact h6
  refine Zu (u:=.agg cs') (w':=w) ?_ (hK _ _ (Sim.plain hs hd hg ⟨_,rfl,h7⟩))
  simp [execOp,ho,run_build w t _ _ hbuilt]
end

end Go.Vam
end
section
set_option linter.unusedVariables false
set_option linter.unusedSimpArgs false
namespace Go.Vam

section
variable {X:Ctx} {S:Start} {ok:Zas} {ℓ:Loc} {st:St} {a:Act} {w:World}

theorem RC.toD {u:Value} {c:C} {x:D} (h:RC ok ℓ w u c) (hx:c.toD=some x):Rep ok w u x∧x.sc=true:=by
 cases c with
 | d y=>simp only [C.toD,Option.some.injEq] at hx; subst hx; exact h
 | nil=>simp only [C.toD,Option.some.injEq] at hx; subst hx; obtain ⟨b,rfl⟩:=h; exact ⟨.nil _ _,rfl⟩
 | own k l=>simp only [C.toD,Option.some.injEq] at hx; subst hx; exact ⟨h.1,rfl⟩
 | arr k n=>cases hx
 | lp n off=>cases hx
 | pd x=>cases hx
 | _=>cases hx

theorem Zin:∀ (cs:List C) (ds:List D),C.toDs cs=some ds→ds.length=cs.length∧∀ (j:Nat) c,cs[j]?=some c→∃ y,ds[j]?=some y∧c.toD=some y
 | [],ds,h=>by simp only [C.toDs,Option.some.injEq] at h; subst h; simp
 | c::cs,ds,h=>by
  simp only [C.toDs] at h
  split at h
  case h_2=>cases h
  rename_i x xs hx hxs
  simp only [Option.some.injEq] at h
  subst h
  obtain ⟨h1,h2⟩:=Zin cs xs hxs
  refine ⟨by simp [h1],fun j c' hc=>?_⟩
  cases j with
  | zero=>simp at hc; subst hc; exact ⟨x,by simp,hx⟩
  | succ j=>simp at hc; simpa using h2 j c' hc

theorem RCs.toDs {vs:Array Value} {cs:List C} {ds:List D} (h:RCs ok ℓ w vs cs) (hd:C.toDs cs=some ds) :
  ds.length=vs.size∧∀ (j:Nat) y,ds[j]?=some y→y.sc=true∧∃ u,vs[j]?=some u∧Rep ok w u y:=by
 obtain ⟨h1,h2⟩:=Zin cs ds hd
 refine ⟨by rw [h1,h.1],fun j y hy=>?_⟩
 have hj:j < cs.length:=by rw [← h1]; exact (List.getElem?_eq_some_iff.1 hy).1
 obtain ⟨y',hy',hc⟩:=h2 j cs[j] (List.getElem?_eq_getElem hj)
 rw [hy] at hy'
 cases hy'
 have hv:j < vs.size:=by rw [h.1]; exact hj
 have:=(h.2 j vs[j] cs[j] (Array.getElem?_eq_getElem hv) (List.getElem?_eq_getElem hj)).toD hc
 exact ⟨this.2,vs[j],Array.getElem?_eq_getElem hv,this.1⟩

theorem ZCG {u:Value} {v:V} {x:D} (h:RV ok ℓ w u v) (hx:v.toD=some x) :
  x.cells.length=u.cells.size∧∀ (j:Nat) y,x.cells[j]?=some y→y.sc=true∧∃ z,u.cells[j]?=some z∧Rep ok w z y:=by
 cases v with
 | c c =>
  have h1:=RC.oneCell h
  have h2:u.cells=#[u]:=by cases u <;> first | rfl | simp [Value.oneCell'] at h1
  obtain ⟨h3,h4⟩:=RC.toD h hx
  have h5:x.cells=[x]:=by cases x <;> first | rfl | simp [D.sc] at h4
  rw [h2,h5]
  refine ⟨rfl,fun j y hy=>?_⟩
  cases j with
  | zero=>simp at hy; subst hy; exact ⟨h4,u,by simp,h3⟩
  | succ j=>simp at hy
 | agg cs =>
  simp only [V.toD,Option.map_eq_some_iff] at hx
  obtain ⟨ds,hds,rfl⟩:=hx
  obtain ⟨vs,rfl,hr⟩:=h
  exact hr.toDs hds
 | tup ds=>cases hx
 | ts sh cs=>cases hx
 | g γ v=>cases hx

theorem SimW.newRow (hs:SimW X S ok ℓ st a w) (ob:Obj) (hi:Nat):SimW X S (ZkE ok w.heap.size 0 hi) ℓ st a (w.alloc ob) :=
 hs.move (Chg.row hs.mem.alive _ _ _ ob) (fun _ _ _ n _=>.refl ℓ n) (hs.mem.newRow ob hi) ⟨rfl,rfl,rfl,by simp⟩
  (fun i hi _=>Z2 w ob (Nat.lt_of_lt_of_le hi hs.ext.size))
  (fun x o hx=>hx.elim .inl (fun h=>.inr (.inl (by rw [h.1]; exact hs.ext.size)))) hs.own (fun n _=>⟨.refl ℓ n,fun _=>⟨rfl,rfl,rfl⟩⟩) hs.inH

theorem SimW.drew (hs:SimW X S ok ℓ st a w):SimW X S ok ℓ st a w.drew :=
 hs.move ⟨fun _ _ h=>h,fun _ _ _=>rfl⟩ (fun _ _ _ n _=>.refl ℓ n) (hs.mem.frame ⟨fun _ _ h=>h,fun _ _ _=>rfl⟩ (fun _ _ _=>rfl) (fun _ _ h=>.inl h) hs.mem.alive) ⟨rfl,rfl,rfl,Nat.le_refl _⟩
  (fun _ _ _=>rfl) (fun x o hx=>.inl hx) hs.own (fun n _=>⟨.refl ℓ n,fun _=>⟨rfl,rfl,rfl⟩⟩) hs.inH

theorem St.Free.ne {n m:Name} (hf:st.Free n) {t:Nat} {v:V} (hv:lk st.t t=some v) (hm:v.has m):m≠n:=fun e=>hf.t t v hv (e ▸ hm)

theorem SimW.newBox (hs:SimW X S ok ℓ st a w) {d:Nat} (hf:st.Free ⟨X.L,d⟩) {vs:Array Value} {cs:List C} (T:TypeId) (hr:RCs ok ℓ w vs cs) (hn:∀ c∈cs,¬ c.has ⟨X.L,d⟩) :
  SimW X S ok (ℓ.setI ⟨X.L,d⟩ w.heap.size) ⟨st.t,(⟨X.L,d⟩,cs)::st.b,st.k⟩ a (w.alloc (.cells vs T)):=by
 obtain ⟨h1,h2⟩:=hs.mem.newBox hf.m T hr hn
 refine hs.move (Chg.alloc hs.mem.alive _) (fun t v hv n hh=>.setI _ (hf.ne hv hh)) h1 ⟨rfl,rfl,rfl,by simp⟩
  (fun i hi _=>Z2 w _ (Nat.lt_of_lt_of_le hi hs.ext.size)) (fun x o hx=>.inl hx) (fun n x hx=>?_) (fun n hlt=>?_) (fun n hlt hh=>?_)
 ·rcases h2 n x hx with rfl | h
  ·exact .inl hs.ext.size
  ·exact hs.own n x h
 ·have hne:n≠⟨X.L,d⟩:=fun e=>by rw [e] at hlt; exact Nat.lt_irrefl _ hlt
  exact ⟨.setI _ hne,fun _=>⟨by simp [Loc.setI,hne],rfl,rfl⟩⟩
 ·have hne:n≠⟨X.L,d⟩:=fun e=>by rw [e] at hlt; exact Nat.lt_irrefl _ hlt
  rw [Zh _ _ hne.symm] at hh
  exact hs.inH n hlt hh

theorem SimW.newBuf (hs:SimW X S ok ℓ st a w) {d:Nat} (hf:st.Free ⟨X.L,d⟩) {sz:Nat} {l:List D} {cs:Array Value} (T:TypeId) {cap:Nat} (hcap:l.length≤cap) (hcs:cs.size=cap*sz)
  (hh:Holds ok w sz l (fun i=>cs[i]?)) :
  ∃ ℓ',SimW X S (ZkE ok w.heap.size 0 (l.length*sz)) ℓ' ⟨st.t,st.b,(⟨X.L,d⟩,⟨false,sz,l⟩)::st.k⟩ a (w.alloc (.cells cs T))∧
   RV (ZkE ok w.heap.size 0 (l.length*sz)) ℓ' (w.alloc (.cells cs T)) (.slice (some ⟨w.heap.size,0,none⟩) l.length cap) (.c (.own ⟨X.L,d⟩ l)):=by
 obtain ⟨h1,h2⟩:=hs.mem.newBuf (n:=⟨X.L,d⟩) T hcap hcs hh hf.m.nb (fun tk h=>by rw [hf.m.nk] at h; cases h) (fun m cs hm c hc hh=>absurd hh (hf.m.nc m cs hm c hc))
 refine ⟨_,hs.move (Chg.row hs.mem.alive _ _ _ _) (fun t v hv n hh=>.setH _ (hf.ne hv hh)) h1 ⟨rfl,rfl,rfl,by simp⟩
  (fun i hi _=>Z2 w _ (Nat.lt_of_lt_of_le hi hs.ext.size)) (fun x o hx=>hx.elim .inl (fun h=>.inr (.inl (by rw [h.1]; exact hs.ext.size)))) (fun n x hx=>?_) (fun n hlt=>?_) (fun n hlt hh=>?_),
  Rep.newRow hs.mem.alive T hcap hh,?_,?_⟩
 ·rcases h2 n x hx with rfl | h
  ·exact .inl hs.ext.size
  ·exact hs.own n x h
 ·have hne:n≠⟨X.L,d⟩:=fun e=>by rw [e] at hlt; exact Nat.lt_irrefl _ hlt
  exact ⟨.setH _ hne,fun _=>⟨rfl,rfl,by simp [Loc.setH,hne]⟩⟩
 ·have hne:n≠⟨X.L,d⟩:=fun e=>by rw [e] at hlt; exact Nat.lt_irrefl _ hlt
  rw [Zh _ _ hne.symm] at hh
  exact hs.inH n hlt hh
 ·simp [Loc.setH,hlen]
 ·simp [Loc.setH,hlen]

theorem SimW.newArr (hs:SimW X S ok ℓ st a w) {d:Nat} (hf:st.Free ⟨X.L,d⟩) {sz:Nat} {l:List D} {cs:Array Value} (T:TypeId) (hcs:l.length*sz≤cs.size) (hh:Holds ok w sz l (fun i=>cs[i]?)) {cap:Nat} (hcap:l.length≤cap) :
  ∃ ℓ',SimW X S ok ℓ' ⟨st.t,st.b,(⟨X.L,d⟩,⟨true,sz,l⟩)::st.k⟩ a (w.alloc (.cells cs T))∧
   RV ok ℓ' (w.alloc (.cells cs T)) (.slice (some ⟨w.heap.size,0,none⟩) l.length cap) (.c (.arr ⟨X.L,d⟩ l.length)):=by
 obtain ⟨h1,h2⟩:=hs.mem.newArr hf.m T hcs hh
 refine ⟨_,hs.move (Chg.alloc hs.mem.alive _) (fun t v hv n hh=>?_) h1 ⟨rfl,rfl,rfl,by simp⟩
  (fun i hi _=>Z2 w _ (Nat.lt_of_lt_of_le hi hs.ext.size)) (fun x o hx=>.inl hx) (fun n x hx=>?_) (fun n hlt=>?_) (fun n hlt hh=>?_),?_⟩
 ·have hne:=hf.ne hv hh
  exact ⟨by simp [Loc.setI,Loc.setZ,hne],by simp [Loc.setI,Loc.setZ,hne],Nat.le_refl _,fun _=>rfl⟩
 ·rcases h2 n x hx with rfl | h
  ·exact .inl hs.ext.size
  ·exact hs.own n x h
 ·have hne:n≠⟨X.L,d⟩:=fun e=>by rw [e] at hlt; exact Nat.lt_irrefl _ hlt
  exact ⟨⟨by simp [Loc.setI,Loc.setZ,hne],by simp [Loc.setI,Loc.setZ,hne],Nat.le_refl _,fun _=>rfl⟩,fun _=>⟨by simp [Loc.setI,Loc.setZ,hne],by simp [Loc.setI,Loc.setZ,hne],rfl⟩⟩
 ·have hne:n≠⟨X.L,d⟩:=fun e=>by rw [e] at hlt; exact Nat.lt_irrefl _ hlt
  rw [Zh _ _ hne.symm] at hh
  exact hs.inH n hlt hh
 ·simpa [RV,RC,Loc.setI,Loc.setZ] using hcap
end

section
variable {X:Ctx} {gd:Option Bool} {o:Oper}

theorem ZBy (hT:TOk X) (hd:∀ d,o.dst=some d→d < X.n) {e:TypeId} (ho:o.op=.alloc e):ZcU X gd o:=by
 rintro S st a w R r hr hfr ⟨ok,ℓ,hs⟩ K Q hK
 simp only [Z6,ho] at hr
 obtain ⟨rfl,hr⟩:=Zb8 hr
 obtain ⟨d,hdd,h2⟩:=Zg hr
 obtain ⟨ti,hti,h3⟩:=Zg h2
 have hrr:=Zt h3
 subst hrr
 obtain ⟨i,dsc,z,hto⟩:=TI.ok (hT e ti hti)
 have hf:=hfr ⟨X.L,d⟩ (by simp)
 obtain ⟨h4,h5⟩:=Zdi ok ℓ w z.cells.toList ti.zero hto.zcells
 have hs':=hs.newBox hf e (vs:=z.cells) (cs:=ti.zero) (by simpa using h4) (fun c hc=>h5 c hc _)
 refine Zu (u:=.pointer (some ⟨w.heap.size,0,none⟩)) (w':=w.alloc (.cells z.cells e)) ?_ (hK _ _ (Sim.fin hs' hd rfl (fun _=>?_)))
 ·have hz:(zeroValue e).run X.P w=.ok z w:=by simp [zeroValue,typeInfo,hto.info,hto.zero]
  simp [execOp,ho,Instr.alloc,hz,newVar,newRow]
 ·simp [RV,RC,Loc.setI]

theorem ZGB (hd:∀ d,o.dst=some d→d < X.n) {e:TypeId} {x:Operand} (ho:o.op=.box e x):ZcU X gd o:=by
 rintro S st a w R r hr hfr ⟨ok,ℓ,hs⟩ K Q hK
 simp only [Z6,ho] at hr
 obtain ⟨rfl,hr⟩:=Zb8 hr
 obtain ⟨d,hdd,h2⟩:=Zg hr
 obtain ⟨v,R1,h3,h4,hf1⟩:=ZX hs rfl h2
 obtain ⟨cs,h5,h6⟩:=Zg h4
 have hrr:=Zt h6
 subst hrr
 have hf:=hfr ⟨X.L,d⟩ (by simp)
 have hs':=hs.newBox hf e (ZeS h3 h5) (fun c hc hh=>hf1 _ hf (ZzS h5 hc hh))
 refine Zu (u:=.pointer (some ⟨w.heap.size,0,none⟩)) (w':=w.alloc (.cells (a.eval x).cells e)) ?_ (hK _ _ (Sim.fin hs' hd rfl (fun _=>?_)))
 ·simp [execOp,ho,Instr.box,newVar,newRow]
 ·simp [RV,RC,Loc.setI]

theorem Zil {P:Program} {t:TypeId} {ti:TI} {i:TypeInfo} {d:TypeDesc} {z:Value} {w:World} (h:TI.Ok P t ti i d z) {x o:Nat} {vs:Array Value} {T:TypeId} (hrow:w.heap[x]?=some (.cells vs T (0,0)))
  {u:Value} (hu:u.cells.size=ti.size) (hone:∀ v∈u.cells.toList,v.oneCell'=true) (hle:o+ti.size≤vs.size) :
  (storeVar t ⟨x,o,none⟩ u).run P w=.ok () (setBlk w x (.cells (ZP vs o u.cells.toList) T (0,0))):=by
 have:=Zdh P u.cells.toList w x o 0 vs T hrow (by simp; omega) hone
 simp only [Nat.add_zero] at this
 simp [storeVar,ZO h,hu,this]

theorem RCs.oneCell {ok ℓ w} {vs:Array Value} {cs:List C} (h:RCs ok ℓ w vs cs):∀ v∈vs.toList,v.oneCell'=true:=by
 intro v hv
 obtain ⟨j,hj,rfl⟩:=List.mem_iff_getElem.1 hv
 have hj':j < vs.size:=by simpa using hj
 have hc:j < cs.length:=by rw [← h.1]; exact hj'
 exact (h.2 j _ _ (by simp) (List.getElem?_eq_getElem hc)).oneCell

theorem ZBE (hT:TOk X) (hd:∀ d,o.dst=some d→d < X.n) {t:TypeId} {p x:Operand} (ho:o.op=.store t p x):ZcU X gd o:=by
 rintro S st a w R r hr hfr ⟨ok,ℓ,hs⟩ K Q hK
 simp only [Z6,ho] at hr
 obtain ⟨rfl,hr⟩:=Zb8 hr
 split at hr
 case isFalse=>exact (Zv hr).elim
 rename_i hdst
 obtain ⟨pv,R1,h1,h2,hf1⟩:=ZX hs rfl hr
 obtain ⟨xv,R2,h3,h4,hf2⟩:=ZX hs rfl h2
 obtain ⟨ti,hti,h5⟩:=Zg h4
 obtain ⟨i,dsc,z,hto⟩:=TI.ok (hT t ti hti)
 split at h5
 ·rename_i n off
  obtain ⟨cs,R3,h6,h7⟩:=Zm5 h5
  obtain ⟨ys,h8,h9⟩:=Zg h7
  split at h9
  case isFalse=>exact (Zv h9).elim
  rename_i hc
  have hrr:=Zt h9
  subst hrr
  obtain ⟨vs,T,h10,h11,_⟩:=hs.mem.box n cs h6
  have hxc:=ZeS h3 h8
  have hl:=h11.lay (off:=off) hxc (by omega)
  obtain ⟨h12,h13,h14⟩:=hs.mem.setBox h6 T hl
  simp only [RV,RC] at h1
  have hlt:=hs.mem.owned_lt (.box h6)
  have hs':SimW X S ok ℓ ⟨st.t,(n,lay cs off ys)::st.b,st.k⟩ a (setBlk w (ℓ.i n) (.cells (ZP vs off (a.eval x).cells.toList) T (0,0))):=by
   refine hs.move h13 (fun _ _ _ n _=>.refl ℓ n) h12 ⟨rfl,rfl,rfl,by simp [Za8]⟩ (fun j hj hm=>ZG w _ (fun e=>?_)) (fun x o hx=>.inl hx) (fun m x hx=>hs.own m x (h14 m x hx))
    (fun n _=>⟨.refl ℓ n,fun _=>⟨rfl,rfl,rfl⟩⟩) (fun m hlt' hh=>hs.inH m hlt' ?_)
   ·rcases hs.own n _ (.box h6) with h | h
    ·omega
    ·exact hm (e ▸ h)
   ·by_cases e:m=n
    ·rw [e]; exact .inl (by simp [h6])
    ·rwa [Zh _ _ (Ne.symm e)] at hh
  refine ZvL (w':=setBlk w (ℓ.i n) (.cells (ZP vs off (a.eval x).cells.toList) T (0,0))) ?_ (hK _ _ ?_)
  ·have:=Zil (P:=X.P) (w:=w) hto h10 (u:=a.eval x) (o:=off) (by rw [hxc.1]; exact hc.1) hxc.oneCell (by rw [h11.1]; exact hc.2)
   simp [execOp,ho,h1,Instr.storeAt,Instr.sureAddr,this]
  ·rw [hdst]
   exact ⟨ok,ℓ,hs'⟩
 ·rename_i k j off
  obtain ⟨tk,R3,h6,h7⟩:=Zda h5
  have hold:∃ y xs ds,(tk.isArr=true∧tk.l[j]?=some y)∧xv.cells=some xs∧C.toDs xs=some ds∧(ds.length=ti.size∧off+ti.size≤y.cells.length)∧
    Runs (match y with
     | .agg ys=>(.ret { v:=.tup [],k:=[(k,⟨true,tk.sz,tk.l.set j (.agg (lay ys off ds))⟩)]}:Rd Out)
     | _=>match ds with
      | [d]=>.need (d.cells.length=1) (.ret { v:=.tup [],k:=[(k,⟨true,tk.sz,tk.l.set j d⟩)]})
      | _=>.fail) st [] r:=by
   split at h7
   ·rename_i hc
    obtain ⟨zz,_,h8⟩:=Zg h7
    obtain ⟨d,h9,h10⟩:=Zg h8
    obtain ⟨⟨g1,g2,g3⟩,h11⟩:=ZC h10
    rw [g3] at h11
    obtain ⟨h12,n1,n2⟩:=ZsX h11
    obtain ⟨h13,n3,n4⟩:=ZsX h12
    have hx:tk.l[j]?=some (tk.l[j]?.getD zz):=by rw [List.getElem?_eq_getElem g2]; rfl
    have hxv:∃ x,xv=.c x∧x.toD=some d:=by
     cases xv with
     | c x=>exact ⟨x,rfl,h9⟩
     | agg cs =>
      simp only [V.toD,Option.map_eq_some_iff] at h9
      obtain ⟨ds,_,rfl⟩:=h9
      exact absurd rfl (n3 ds)
     | _=>cases h9
    obtain ⟨x,rfl,hxd⟩:=hxv
    refine ⟨tk.l[j]?.getD zz,[x],[d],⟨g1,hx⟩,rfl,?_,⟨hc.2.2.symm,?_⟩,?_⟩
    ·simp only [C.toDs,hxd]
    ·rw [hc.2.1,hc.2.2]
     generalize tk.l[j]?.getD zz=q at *
     cases q with
     | agg l=>exact absurd rfl (n1 l)
     | _=>exact Nat.le_refl _
    ·have hd1:d.cells.length=1:=by
      cases d with
      | agg l=>exact absurd rfl (n3 l)
      | _=>rfl
     rw [Zt h13]
     generalize tk.l[j]?.getD zz=q at *
     cases q with
     | agg l=>exact absurd rfl (n1 l)
     | _=>exact .need hd1 (.ret _ _)
   ·obtain ⟨y,h8⟩:=ZAl h7
    obtain ⟨h9,h11⟩:=ZC h8
    obtain ⟨xs,h12,h13⟩:=Zg h11
    obtain ⟨ds,h14,h15⟩:=Zg h13
    split at h15
    case isFalse=>exact (Zv h15).elim
    rename_i hc
    refine ⟨y,xs,ds,h9,h12,h14,hc,?_⟩
    cases y with
    | agg ys=>rw [Zt h15]; exact .ret _ _
    | _ =>
     match ds,h15 with
     | [d],h15 =>
      obtain ⟨h16,h17⟩:=ZC h15
      rw [Zt h17]
      exact .need h16 (.ret _ _)
     | [],h15=>exact (Zv h15).elim
     | _::_::_,h15=>exact (Zv h15).elim
  obtain ⟨y,xs,ds,⟨h9,h10⟩,h12,h14,hc,h15⟩:=hold
  have hxc:=ZeS h3 h12
  obtain ⟨hz,huni,cs0,T0,hr0,hs0,hold0,hnok⟩:=hs.mem.arr k tk h6 h9
  simp only [RV,RC] at h1
  rw [hz] at h1
  have hjl:j < tk.l.length:=(List.getElem?_eq_some_iff.1 h10).1
  have hyl:y.cells.length=tk.sz:=huni y (List.mem_of_getElem? h10)
  obtain ⟨hdl,hdc⟩:=hxc.toDs h14
  have hfit:j*tk.sz+off+ds.length≤cs0.size:=by
   have:(j+1)*tk.sz≤tk.l.length*tk.sz:=Nat.mul_le_mul_right _ hjl
   rw [Nat.add_mul,Nat.one_mul] at this
   omega
  -- the new element
  have key:∀ y':D,y'.cells=lay y.cells off ds→y'.cells.length=tk.sz→Holds ok w tk.sz (tk.l.set j y') (fun i=>(ZP cs0 (j*tk.sz+off) (a.eval x).cells.toList)[i]?):=by
   intro y' hy' hyl'
   refine ⟨fun z hz=>?_,fun i z m q hz hq=>?_⟩
   ·rcases List.mem_or_eq_of_mem_set hz with h | rfl
    ·exact huni z h
    ·exact hyl'
   ·have hul:(a.eval x).cells.toList.length=ds.length:=by simp [hdl]
    by_cases e:i=j
    ·subst e
     rw [List.getElem?_set_self hjl] at hz
     cases hz
     rw [hy',ZfS _ _ _ _ (by omega)] at hq
     split at hq
     ·rename_i hm
      obtain ⟨hsc,u,hu,hrep⟩:=hdc (m - off) q hq
      refine ⟨hsc,u,?_,hrep⟩
      have:=ZdN (a.eval x).cells.toList cs0 (i*tk.sz+off) (m - off) (by rw [hul]; exact hfit) (by omega)
      rw [show i*tk.sz+off+(m - off)=i*tk.sz+m by omega] at this
      show (ZP cs0 (i*tk.sz+off) (a.eval x).cells.toList)[i*tk.sz+m]?=some u
      rw [this]; simpa using hu
     ·rename_i hm
      obtain ⟨hsc,u,hu,hrep⟩:=hold0 i y m q h10 hq
      refine ⟨hsc,u,?_,hrep⟩
      show (ZP cs0 (i*tk.sz+off) (a.eval x).cells.toList)[i*tk.sz+m]?=some u
      rw [Za7 _ _ _ _ (by rw [hul]; omega)]; exact hu
    ·rw [List.getElem?_set_ne (Ne.symm e)] at hz
     obtain ⟨hsc,u,hu,hrep⟩:=hold0 i z m q hz hq
     refine ⟨hsc,u,?_,hrep⟩
     have hm:m < tk.sz:=by rw [← huni z (List.mem_of_getElem? hz)]; exact (List.getElem?_eq_some_iff.1 hq).1
     show (ZP cs0 (j*tk.sz+off) (a.eval x).cells.toList)[i*tk.sz+m]?=some u
     rw [Za7 _ _ _ _ ?_]
     ·exact hu
     ·rw [hul]
      rcases Nat.lt_or_gt_of_ne e with h | h
      ·left
       have:(i+1)*tk.sz≤j*tk.sz:=Nat.mul_le_mul_right _ h
       rw [Nat.add_mul,Nat.one_mul] at this; omega
      ·right
       have:(j+1)*tk.sz≤i*tk.sz:=Nat.mul_le_mul_right _ h
       rw [Nat.add_mul,Nat.one_mul] at this; omega
  have done:∀ y':D,y'.cells=lay y.cells off ds→y'.cells.length=tk.sz→r={ v:=.tup [],k:=[(k,⟨true,tk.sz,tk.l.set j y'⟩)]}→o.wp X.P a w K Q:=by
   intro y' hy' hyl' hrr
   subst hrr
   obtain ⟨h16,h17,h18⟩:=hs.mem.setArr h6 h9 (l':=tk.l.set j y') (cs:=ZP cs0 (j*tk.sz+off) (a.eval x).cells.toList) (T:=T0) (by simp) (by rw [ZbH]; exact hs0) (key y' hy' hyl')
   have hs':SimW X S ok ℓ ⟨st.t,st.b,(k,⟨true,tk.sz,tk.l.set j y'⟩)::st.k⟩ a (setBlk w (ℓ.i k) (.cells (ZP cs0 (j*tk.sz+off) (a.eval x).cells.toList) T0 (0,0))):=by
    refine hs.move h17 (fun _ _ _ n _=>.refl ℓ n) h16 ⟨rfl,rfl,rfl,by simp [Za8]⟩ (fun j' hj' hm=>ZG w _ (fun e=>?_)) (fun x o hx=>.inl hx) (fun m x hx=>hs.own m x (h18 m x hx))
     (fun n _=>⟨.refl ℓ n,fun _=>⟨rfl,rfl,rfl⟩⟩) (fun m hlt' hh=>hs.inH m hlt' ?_)
    ·rcases hs.own k _ (.arr h6 h9) with h | h
     ·omega
     ·exact hm (e ▸ h)
    ·by_cases e:m=k
     ·rw [e]; exact .inr (by simp [h6])
     ·rwa [Zh _ _ (Ne.symm e)] at hh
   refine ZvL (w':=setBlk w (ℓ.i k) (.cells (ZP cs0 (j*tk.sz+off) (a.eval x).cells.toList) T0 (0,0))) ?_ (hK _ _ ?_)
   ·have:=Zil (P:=X.P) (w:=w) hto hr0 (u:=a.eval x) (o:=j*tk.sz+off) (by rw [← hdl]; exact hc.1) hxc.oneCell (by omega)
    simp [execOp,ho,h1,Instr.storeAt,Instr.sureAddr,this]
   ·rw [hdst]
    exact ⟨ok,ℓ,hs'⟩
  split at h15
  ·rename_i ys
   refine done (.agg (lay ys off ds)) rfl ?_ (Zt h15)
   show (lay ys off ds).length=tk.sz
   rw [ZhF _ _ _ (by simp only [D.cells] at hc; omega)]
   exact hyl
  ·split at h15
   ·rename_i hna _ d
    obtain ⟨h16,h17⟩:=ZC h15
    have hyc:y.cells=[y]:=by
     cases y with
     | agg ys=>exact absurd rfl (hna ys)
     | _=>rfl
    rw [hyc] at hc hyl
    simp only [List.length_singleton] at hc hyl
    have hoff:off=0:=by omega
    refine done d ?_ (by rw [h16,← hyl]) (Zt h17)
    have hdc':d.cells=[d]:=by
     cases d with
     | agg ys =>
      have:=(hdc 0 (.agg ys) (by simp)).1
      simp [D.sc] at this
     | _=>rfl
    rw [hdc',hyc,hoff]
    rfl
   ·exact (Zv h15).elim
 ·exact (Zv h5).elim
end

end Go.Vam
end
