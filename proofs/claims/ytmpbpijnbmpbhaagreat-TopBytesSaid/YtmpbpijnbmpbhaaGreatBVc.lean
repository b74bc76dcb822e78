/- A part of the proof. Conditions: none. -/
import Derived.Test.YtmpbpijnbmpbhaaGreatBVb
section
set_option linter.unusedVariables false
set_option linter.unusedSimpArgs false
namespace Go.Vam

section inv
variable {α β:Type} {st:St} {R:List Key} {r:α}
theorem Zt {a:α} (h:Runs (.ret a) st R r):r=a:=by cases h; rfl
theorem Zv (h:Runs (.fail:Rd α) st R r):False:=by cases h
theorem ZC {p:Prop} {x:Rd α} (h:Runs (.need p x) st R r):p∧Runs x st R r:=by cases h with | need a b=>exact ⟨a,b⟩
theorem Z1 {gd:Option Bool} (hg:gd.getD true=true) {p:Prop} {x:Rd α} (h:Runs (ZT gd p x) st R r):p∧Runs x st R r:=⟨(ZC h).1 hg,(ZC h).2⟩
theorem Zg {x:Option β} {f:β→Rd α} (h:Runs (orFail x f) st R r):∃ y,x=some y∧Runs (f y) st R r:=by
 cases x with
 | none=>exact (Zv h).elim
 | some y=>exact ⟨y,rfl,h⟩
theorem Zb8 {gd:Option Bool} {x:Rd α} (h:Runs (ZkD gd x) st R r):gd=none∧Runs x st R r:=by
 cases gd with
 | none=>exact ⟨rfl,h⟩
 | some γ=>exact (Zv h).elim
theorem ZAl {f:D→Rd α} (h:Runs (.exD f) st R r):∃ x,Runs (f x) st R r:=by cases h with | exD x h=>exact ⟨x,h⟩
theorem ZsX {x:D} {f:D→Rd α} (h:Runs (scR x f) st R r):Runs (f x) st R r∧(∀ l,x≠.agg l)∧∀ l,x≠.tup l:=by
 unfold scR at h
 split at h
 ·cases h
 ·cases h
 ·rename_i h1 h2; exact ⟨h,fun l e=>h1 l e,fun l e=>h2 l e⟩
theorem Zu0 {n:Nat} {f:V→Rd α} (h:Runs (.getT n f) st R r):∃ v R',lk st.t n=some v∧Runs (f v) st R' r:=by cases h with | getT a b=>exact ⟨_,_,a,b⟩
theorem Zm5 {n:Name} {f:List C→Rd α} (h:Runs (.getB n f) st R r):∃ v R',lk st.b n=some v∧Runs (f v) st R' r:=by cases h with | getB a b=>exact ⟨_,_,a,b⟩
theorem Zda {n:Name} {f:Tok→Rd α} (h:Runs (.getK n f) st R r):∃ v R',lk st.k n=some v∧Runs (f v) st R' r:=by cases h with | getK a b=>exact ⟨_,_,a,b⟩
theorem Zb4 {v:V} {f:IntKind→Int→Rd α} (h:Runs (asI v f) st R r):∃ k n,v=.c (.d (.int k n))∧Runs (f k n) st R r:=by
 unfold asI at h
 split at h
 ·exact ⟨_,_,rfl,h⟩
 ·exact (Zv h).elim
theorem ZFJ {v:V} {f:Bool→Rd α} (h:Runs (asB v f) st R r):∃ b,v=.c (.d (.bool b))∧Runs (f b) st R r:=by
 unfold asB at h
 split at h
 ·exact ⟨_,rfl,h⟩
 ·exact (Zv h).elim
end inv

section
variable {X:Ctx} {S:Start} {ok:Zas} {ℓ:Loc} {st:St} {a:Act} {w:World} {α:Type} {R:List Key} {r:α}

theorem Zhx {v:V} {f:List D→Rd α} (h:Runs (asL v f) st R r):∃ l,Runs (f l) st R r∧(∀ ok ℓ w u,RV ok ℓ w u v→Rep ok w u (.list l))∧(v=.c .nil∨(∃ k,v=.c (.own k l))∨v=.c (.d (.list l))):=by
 unfold asL at h
 split at h
 ·exact ⟨_,h,fun ok ℓ w u hu=>by obtain ⟨a,rfl⟩:=hu; exact .nil a 0,.inl rfl⟩
 ·exact ⟨_,h,fun ok ℓ w u hu=>hu.1,.inr (.inl ⟨_,rfl⟩)⟩
 ·exact ⟨_,h,fun ok ℓ w u hu=>hu.1,.inr (.inr rfl)⟩
 ·exact (Zv h).elim

theorem ZlX {c:Value} {v:V} (h:Zef c=some v) (ok:Zas) (ℓ:Loc) (w:World):RV ok ℓ w c v∧∀ n,¬ v.has n:=by
 unfold Zef at h
 split at h <;> simp only [Option.some.injEq,reduceCtorEq] at h
 ·subst h; exact ⟨⟨.int _ _,rfl⟩,fun _ h=>h⟩
 ·subst h; exact ⟨⟨.bool _,rfl⟩,fun _ h=>h⟩
 ·subst h; exact ⟨⟨.str _,rfl⟩,fun _ h=>h⟩
 ·subst h; exact ⟨⟨_,rfl⟩,fun _ h=>h⟩
 ·subst h; exact ⟨⟨.raw _,rfl⟩,fun _ h=>h⟩
 ·subst h; exact ⟨⟨.raw _,rfl⟩,fun _ h=>h⟩

theorem Znj (hs:SimW X S ok ℓ st a w) {x:Operand} {f:V→Rd α} (h:Runs (Zxe x f) st R r):∃ v R',RV ok ℓ w (a.eval x) v∧Runs (f v) st R' r∧∀ n,st.Free n→¬ v.has n:=by
 cases x with
 | tmp t =>
  obtain ⟨v,R',h1,h2⟩:=Zu0 h
  exact ⟨v,R',hs.eval h1,h2,fun n hn=>hn.t t v h1⟩
 | const c =>
  simp only [Zxe] at h
  cases hc:Zef c with
  | none=>rw [hc] at h; exact (Zv h).elim
  | some v =>
   rw [hc] at h
   exact ⟨v,R,(ZlX hc ok ℓ w).1,h,fun n _=>(ZlX hc ok ℓ w).2 n⟩
 | global g=>exact (Zv h).elim
 | func f =>
  refine ⟨.c (.fn f []),R,?_,h,fun n _ hh=>?_⟩
  ·simp [RV,RC,Act.eval,fnV,rcv,fnP]
  ·simp [V.has,C.has] at hh

theorem ZGS {u:Value} {gd:Option Bool} (hg:gd.getD true=true) {v:V} (hv:RV ok ℓ w u v) {f:V→Rd α} (h:Runs (unG gd v f) st R r) :
  ∃ v',RV ok ℓ w u v'∧Runs (f v') st R r∧∀ n,v'.has n→v.has n:=by
 unfold unG at h
 split at h
 ·obtain ⟨h1,h2⟩:=ZC h
  exact ⟨_,hv.1 (h1 hg),h2,fun n hn=>hn⟩
 ·exact ⟨_,hv,h,fun n hn=>hn⟩

theorem ZX (hs:SimW X S ok ℓ st a w) {gd:Option Bool} (hg:gd.getD true=true) {x:Operand} {f:V→Rd α} (h:Runs (Zb9 gd x f) st R r) :
  ∃ v R',RV ok ℓ w (a.eval x) v∧Runs (f v) st R' r∧∀ n,st.Free n→¬ v.has n:=by
 obtain ⟨v,R',h1,h2,h3⟩:=Znj hs h
 obtain ⟨v',h4,h5,h6⟩:=ZGS hg h1 h2
 exact ⟨v',R',h4,h5,fun n hn hh=>h3 n hn (h6 n hh)⟩

theorem ZcP (hs:SimW X S ok ℓ st a w) {gd:Option Bool} (hg:gd.getD true=true):∀ (xs:List Operand) {R:List Key} {f:List V→Rd α},Runs (Zej gd xs f) st R r→
  ∃ vs R',RVs ok ℓ w (xs.map a.eval).toArray vs∧Runs (f vs) st R' r∧∀ n,st.Free n→∀ v∈vs,¬ v.has n
 | [],R,f,h=>⟨[],R,⟨rfl,by simp⟩,h,by simp⟩
 | x::xs,R,f,h=>by
  obtain ⟨v,R1,h1,h2,h3⟩:=ZX hs hg h
  obtain ⟨vs,R2,h4,h5,h6⟩:=ZcP hs hg xs h2
  refine ⟨v::vs,R2,⟨by have:=h4.1; simp at this; simp [this],fun i u v' hu hv=>?_⟩,h5,fun n hn v' hv'=>?_⟩
  ·cases i with
   | zero=>simp at hu hv; subst hu; subst hv; exact h1
   | succ i=>simp at hu hv; exact h4.2 i u v' (by simpa using hu) hv
  ·rcases List.mem_cons.1 hv' with rfl | hv'
   ·exact h3 n hn
   ·exact h6 n hn v' hv'

theorem Zu {P:Program} {o:Oper} {u:Value} {w':World} {K:Act→World→Prop} {Q:Exit→Act→World→Prop} (h:(execOp a.eval o).run P w=.ok (.value u) w') (hk:K (a.put o.dst u) w'):o.wp P a w K Q:=by
 unfold Oper.wp
 rw [h]
 exact hk

theorem ZvL {P:Program} {o:Oper} {w':World} {K:Act→World→Prop} {Q:Exit→Act→World→Prop} (h:(execOp a.eval o).run P w=.ok .skip w') (hk:K (a.put o.dst undef) w'):o.wp P a w K Q:=by
 unfold Oper.wp
 rw [h]
 exact hk
end

def ZcU (X:Ctx) (gd:Option Bool) (o:Oper):Prop :=
 ∀ (S:Start) (st:St) (a:Act) (w:World) (R:List Key) (r:Out),Runs (Z6 X gd o) st R r→(∀ n∈r.new,st.Free n)→Sim X S st a w→
  ∀ (K:Act→World→Prop) (Q:Exit→Act→World→Prop),(∀ a' w',Sim X S (st.apply o.dst gd r) a' w'→K a' w')→o.wp X.P a w K Q

section
variable {X:Ctx} {gd:Option Bool} {o:Oper}

theorem Sim.plain {S:Start} {ok:Zas} {ℓ:Loc} {st:St} {a:Act} {w:World} (h:SimW X S ok ℓ st a w) (hd:∀ d,o.dst=some d→d < X.n) (hg:gd.getD true=true) {u:Value} {v:V} (hr:RV ok ℓ w u v) :
  Sim X S (st.apply o.dst gd { v}) (a.put o.dst u) w:=Sim.fin h hd hg (fun _=>hr)

theorem ZvB (hd:∀ d,o.dst=some d→d < X.n) (hg:gd.getD true=true) {x:Operand} (ho:o.op=.move x∨o.op=.assign x):ZcU X gd o:=by
 rintro S st a w R r hr _ ⟨ok,ℓ,hs⟩ K Q hK
 have hr':Runs (Zb9 gd x fun v=>.ret { v}) st R r:=by
  rcases ho with ho | ho <;> simpa only [Z6,ho] using hr
 obtain ⟨v,R',h1,h2,_⟩:=ZX hs hg hr'
 rw [Zt h2] at hK
 refine Zu (u:=a.eval x) (w':=w) ?_ (hK _ _ (Sim.plain hs hd hg h1))
 rcases ho with ho | ho <;> simp [execOp,ho]

theorem Zkd {ok ℓ w} {u:Value} {v:V} {p:Bool×Bool} (h:Zhz v=some p) (hv:RV ok ℓ w u v) (hp:p.1=true):u=.bool p.2:=by
 unfold Zhz at h
 split at h <;> simp only [Option.some.injEq,reduceCtorEq] at h
 ·subst h; exact hv.1.bool_inv
 ·subst h; exact (hv.1 hp).1.bool_inv

theorem ZD2 (hd:∀ d,o.dst=some d→d < X.n) (hg:gd.getD true=true) {c x y:Operand} (ho:o.op=.pick c x y):ZcU X gd o:=by
 rintro S st a w R r hr _ ⟨ok,ℓ,hs⟩ K Q hK
 simp only [Z6,ho] at hr
 obtain ⟨cv,R1,h1,h2,_⟩:=ZX hs hg hr
 obtain ⟨cb,rfl,h3⟩:=ZFJ h2
 obtain ⟨av,R2,h4,h5,_⟩:=Znj hs h3
 obtain ⟨bv,R3,h6,h7,_⟩:=Znj hs h5
 obtain ⟨p,h8,h9⟩:=Zg h7
 obtain ⟨q,h10,h11⟩:=Zg h9
 obtain ⟨h12,h13⟩:=Z1 hg h11
 obtain ⟨h14,h15⟩:=Z1 hg h13
 rw [Zt h15] at hK
 have hc:a.eval c=.bool cb:=h1.1.bool_inv
 cases cb with
 | true =>
  have hx:=Zkd h8 h4 (h12 rfl)
  refine Zu (u:=.bool p.2) (w':=w) ?_ (hK _ _ (Sim.plain hs hd hg ⟨.bool _,rfl⟩))
  simp [execOp,ho,hc,asBool,hx]
 | false =>
  have hy:=Zkd h10 h6 (h14 rfl)
  refine Zu (u:=.bool q.2) (w':=w) ?_ (hK _ _ (Sim.plain hs hd hg ⟨.bool _,rfl⟩))
  simp [execOp,ho,hc,asBool,hy]

theorem ZBC (hd:∀ d,o.dst=some d→d < X.n) (hg:gd.getD true=true) {t:TypeId} {x i:Operand} (ho:o.op=.index t x i):ZcU X gd o:=by
 rintro S st a w R r hr _ ⟨ok,ℓ,hs⟩ K Q hK
 simp only [Z6,ho] at hr
 obtain ⟨xv,R1,h1,h2,hf1⟩:=ZX hs hg hr
 obtain ⟨iv,R2,h3,h4,hf2⟩:=ZX hs hg h2
 obtain ⟨kk,n,rfl,h5⟩:=Zb4 h4
 split at h5
 ·rename_i s
  obtain ⟨hu,h6⟩:=ZC h5
  obtain ⟨⟨h0,hn⟩,h7⟩:=Z1 hg h6
  rw [Zt h7] at hK
  have hx:a.eval x=.string s:=h1.1.str_inv
  have hy:a.eval i=.int kk n:=h3.1.int_inv
  refine Zu (w':=w) ?_ (hK _ _ (Sim.plain hs hd hg ⟨.int _ _,rfl⟩))
  have hb:s[n.toNat]?=some (s.toList[n.toNat]?.getD 0):=by
   have hlt:n.toNat < s.size:=by omega
   rw [getElem?_pos s n.toNat hlt,ByteArray.toList_eq]
   have h2:n.toNat < s.data.toList.length:=by rw [Array.length_toList]; exact hlt
   rw [List.getElem?_eq_getElem h2,Option.getD_some]
   rfl
  simp [execOp,ho,hx,hy,Instr.index,asIntOf,run_underlying hu,h0,hb]
 ·exact (Zv h5).elim

theorem ZD3 (hd:∀ d,o.dst=some d→d < X.n) (hg:gd.getD true=true) {op:UnOp} {t:TypeId} {x:Operand} (ho:o.op=.unOp op t x):ZcU X gd o:=by
 rintro S st a w R r hr _ ⟨ok,ℓ,hs⟩ K Q hK
 simp only [Z6,ho] at hr
 obtain ⟨v,R1,h1,h2,_⟩:=ZX hs hg hr
 split at h2
 ·rw [Zt h2] at hK
  have hx:=h1.1.int_inv
  refine Zu (w':=w) ?_ (hK _ _ (Sim.plain hs hd hg ⟨.int _ _,rfl⟩))
  simp [execOp,ho,hx,Op.unary,Op.intArith]
 ·rw [Zt h2] at hK
  have hx:=h1.1.bool_inv
  refine Zu (w':=w) ?_ (hK _ _ (Sim.plain hs hd hg ⟨.bool _,rfl⟩))
  simp [execOp,ho,hx,Op.unary]
 ·exact (Zv h2).elim

theorem ZDX {P:Program} {s t:TypeId} (e:TypeId) (h1:P.underlying s=some (.slice e)) (h2:P.underlying e=some (.int .u8)) (h3:P.underlying t=some .string) {ok:Zas} {w:World} {u:Value} {l:List D} (hr:Rep ok w u (.list l)) (hu:∀ y∈l,y.isU8=true) :
  (convert s t u).run P w=.ok (.string (ZEh l)) w:=by
 obtain ⟨a,cap,rfl,hh⟩:=hr.list_inv
 rcases hh with rfl | ⟨blk,o,sz,uu,rfl,hle,hall,hcell⟩
 ·rw [run_convert_bytes_string w s t e a _ cap h1 h2 h3]
  cases a with
  | none=>simp [Conv.bytesToString]; rfl
  | some a =>
   exact run_bytesToString (P:=P) w a 0 cap [] (by simp [loadCells,loadCellsFrom])
 ·cases l with
  | nil =>
   rw [run_convert_bytes_string w s t e _ _ cap h1 h2 h3]
   exact run_bytesToString (P:=P) w ⟨blk,o,none⟩ 0 cap [] (by simp [loadCells,loadCellsFrom])
  | cons y0 l0 =>
   have hint:∀ y∈y0::l0,∃ n,y=.int .u8 n:=by
    intro y hy
    have:=hu y hy
    cases y with
    | int k n=>cases k <;> first | exact ⟨n,rfl⟩ | cases this
    | _=>cases this
   have hsz:sz=1:=by
    have:=hall y0 (List.mem_cons_self ..)
    obtain ⟨n,rfl⟩:=hint y0 (List.mem_cons_self ..)
    exact this.symm
   subst hsz
   refine run_convert_bytes_arg w s e h1 h2 blk o _ cap ((y0::l0).map D.toI) (by simp) (fun i hi=>?_) t h3
   obtain ⟨n,hn⟩:=hint (y0::l0)[i] (List.getElem_mem hi)
   obtain ⟨_,_,hc,hrep⟩:=hcell i (y0::l0)[i] 0 (.int .u8 n) (List.getElem?_eq_getElem hi) (by rw [hn]; rfl)
   have e1:=hrep.int_inv
   rw [e1] at hc
   rw [show o+i*1+0=o+i by omega] at hc
   rw [hc]
   have:((y0::l0).map D.toI).getD i 0=n:=by
    rw [List.getD_eq_getElem?_getD,List.getElem?_map,List.getElem?_eq_getElem hi,hn]; rfl
   rw [this]

theorem Zs1 (hT:TOk X) (hd:∀ d,o.dst=some d→d < X.n) (hg:gd.getD true=true) {s t:TypeId} {x:Operand} (ho:o.op=.convert s t x):ZcU X gd o:=by
 rintro S st a w R r hr _ ⟨ok,ℓ,hs⟩ K Q hK
 simp only [Z6,ho] at hr
 obtain ⟨v,R1,h1,h2,_⟩:=ZX hs hg hr
 split at h2
 case h_2 =>
  obtain ⟨l,h3,h4,_⟩:=Zhx h2
  obtain ⟨⟨e,he1,he2,he3⟩,h5⟩:=ZC h3
  obtain ⟨hu8,h6⟩:=ZC h5
  rw [Zt h6] at hK
  refine Zu (w':=w) ?_ (hK _ _ (Sim.plain hs hd hg ⟨.str _,rfl⟩))
  simp only [execOp,ho,Sem.run_bind,ZDX e he1 he2 he3 (h4 ok ℓ w _ h1) hu8,Result.andThen_ok]
  rfl
 rename_i k0 n
 have h3:=h2
 obtain ⟨si,h4,h5⟩:=Zg h3
 obtain ⟨ti,h6,h7⟩:=Zg h5
 obtain ⟨k,h8,h9⟩:=Zg h7
 rw [Zt h9] at hK
 have hx:=h1.1.int_inv
 obtain ⟨_,sd,_,hso⟩:=TI.ok (hT s si h4)
 obtain ⟨_,td,_,hto⟩:=TI.ok (hT t ti h6)
 have htd:=hto.kind k h8
 refine Zu (w':=w) ?_ (hK _ _ (Sim.plain hs hd hg ⟨.int _ _,rfl⟩))
 have hu:=hto.und
 rw [htd] at hu
 simp only [execOp,ho,hx,convert,Sem.run_bind,run_underlying hso.und,run_underlying hu,Result.andThen_ok]
 simp [Conv.intToInt]

theorem RCs.head {ok ℓ w} {v:Value} {vs:List Value} {c:C} {cs:List C} (h:RCs ok ℓ w (v::vs).toArray (c::cs)):RC ok ℓ w v c∧RCs ok ℓ w vs.toArray cs :=
 ⟨h.2 0 v c (by simp) (by simp),by have:=h.1; simpa using this,fun i u d hu hd=>h.2 (i+1) u d (by simpa using hu) (by simpa using hd)⟩
theorem RCs.takeL {ok ℓ w} {vs:List Value} {cs:List C} (n:Nat) (h:RCs ok ℓ w vs.toArray cs):RCs ok ℓ w (vs.take n).toArray (cs.take n):=by
 refine ⟨?_,fun i u d hu hd=>?_⟩
 ·have:=h.1
  simp only [List.size_toArray,List.length_take] at this ⊢
  omega
 ·rw [List.getElem?_toArray,List.getElem?_take] at hu
  rw [List.getElem?_take] at hd
  split at hu
  ·rename_i hi
   rw [if_pos hi] at hd
   exact h.2 i u d (by simpa using hu) hd
  ·cases hu
theorem RCs.dropL {ok ℓ w} {vs:List Value} {cs:List C} (n:Nat) (h:RCs ok ℓ w vs.toArray cs):RCs ok ℓ w (vs.drop n).toArray (cs.drop n):=by
 refine ⟨?_,fun i u d hu hd=>?_⟩
 ·have:=h.1
  simp only [List.size_toArray,List.length_drop] at this ⊢
  omega
 ·rw [List.getElem?_toArray,List.getElem?_drop] at hu
  rw [List.getElem?_drop] at hd
  exact h.2 (n+i) u d (by simpa using hu) hd
theorem Zk2 {ok ℓ w}:∀ (sh:List (Option Nat)) (cs:List C) (vs:List Value) (i:Nat) (y:V),RCs ok ℓ w vs.toArray cs→Zel sh cs i=some y→∃ u,(Zk3 sh vs)[i]?=some u∧RV ok ℓ w u y
 | [],cs,vs,i,y,h,e=>by simp [Zel] at e
 | none::sh,[],vs,i,y,h,e=>by simp [Zel] at e
 | none::sh,c::cs,[],i,y,h,e=>by have:=h.1; simp at this
 | none::sh,c::cs,v::vs,0,y,h,e=>by
  simp only [Zel,Option.some.injEq] at e
  subst e
  exact ⟨v,by simp [Zk3],h.head.1⟩
 | none::sh,c::cs,v::vs,i+1,y,h,e=>by
  simp only [Zel] at e
  obtain ⟨u,h1,h2⟩:=Zk2 sh cs vs i y h.head.2 e
  exact ⟨u,by simpa [Zk3] using h1,h2⟩
 | some n::sh,cs,vs,0,y,h,e=>by
  simp only [Zel] at e
  split at e
  ·simp only [Option.some.injEq] at e
   subst e
   exact ⟨.agg (vs.take n).toArray,by simp [Zk3],(vs.take n).toArray,rfl,h.takeL n⟩
  ·cases e
 | some n::sh,cs,vs,i+1,y,h,e=>by
  simp only [Zel] at e
  split at e
  ·obtain ⟨u,h1,h2⟩:=Zk2 sh (cs.drop n) (vs.drop n) i y (h.dropL n) e
   exact ⟨u,by simpa [Zk3] using h1,h2⟩
  ·cases e

theorem Zs2 (hd:∀ d,o.dst=some d→d < X.n) (hg:gd.getD true=true) {x:Operand} {i:Nat} (ho:o.op=.extract x i):ZcU X gd o:=by
 rintro S st a w R r hr _ ⟨ok,ℓ,hs⟩ K Q hK
 simp only [Z6,ho] at hr
 obtain ⟨v,R1,h1,h2,_⟩:=ZX hs hg hr
 split at h2
 ·rename_i ds
  obtain ⟨y,h3,h4⟩:=Zg h2
  obtain ⟨hy,h4⟩:=ZC h4
  rw [Zt h4] at hK
  obtain ⟨vs,hv,hsz,hall⟩:=Rep.tup_inv h1
  have hi:i < vs.size:=by rw [hsz]; exact (List.getElem?_eq_some_iff.1 h3).1
  have hu:vs[i]?=some vs[i]:=Array.getElem?_eq_getElem hi
  refine Zu (u:=vs[i]) (w':=w) ?_ (hK _ _ (Sim.plain hs hd hg (ZCH (hall i _ y hu h3) hy)))
  simp [execOp,ho,hv,Instr.extract,hu]
 ·rename_i sh cs _
  obtain ⟨y,h3,h4⟩:=Zg h2
  rw [Zt h4] at hK
  obtain ⟨vs,hv,hr⟩:=h1
  obtain ⟨u,hu,hu2⟩:=Zk2 sh cs vs.toList i y (by simpa using hr) h3
  refine Zu (u:=u) (w':=w) ?_ (hK _ _ (Sim.plain hs hd hg hu2))
  simp [execOp,ho,hv,Instr.extract,hu]
 ·exact (Zv h2).elim
end

end Go.Vam
end
section
set_option linter.unusedVariables false
set_option linter.unusedSimpArgs false
namespace Go.Vam

theorem Zb7 (x o n:Nat):(⟨x,o,none⟩:Addr).add n=⟨x,o+n,none⟩:=by
 unfold Addr.add; split <;> simp_all

section
variable {P:Program} {t:TypeId} {ti:TI} {i:TypeInfo} {d:TypeDesc} {z:Value} {w:World}

theorem ZkU (h:TI.Ok P t ti i d z):(isAgg t).run P w=.ok ti.agg w:=by
 unfold isAgg
 rw [Sem.run_bind,run_underlying h.und w,← h.agg]
 cases d <;> rfl

theorem ZO (h:TI.Ok P t ti i d z):(sizeOf t).run P w=.ok ti.size w:=by
 simp [sizeOf,typeInfo,h.info,h.size]

theorem ZbV (h:TI.Ok P t ti i d z) (hag:ti.agg=true) {x o:Nat} {us:List Value} (hl:us.length=ti.size) (hc:∀ j u,us[j]?=some u→w.cell? ⟨x,o+j,none⟩=some u) :
  (loadVar t ⟨x,o,none⟩).run P w=.ok (.agg us.toArray) w:=by
 simp only [loadVar,Sem.run_bind,ZkU h,hag,Result.andThen_ok,if_true,ZO h,ZdM P w x o ti.size us hl hc]
 rfl

theorem Za6 (h:TI.Ok P t ti i d z) (hag:ti.agg=false) {x o:Nat} {u:Value} (hc:w.cell? ⟨x,o,none⟩=some u) :
  (loadVar t ⟨x,o,none⟩).run P w=.ok u w:=by
 simp [loadVar,ZkU h,hag,hc]

theorem ZuP (h:TI.Ok P t ti i d z) {j:Nat} {p:Nat×Nat} (hp:ti.fields[j]?=some p):∃ fs f,P.underlying t=some (.struct fs)∧fs[j]?=some f∧f.offset=p.1∧f.type=p.2:=by
 have hne:ti.fields≠[]:=by intro e; rw [e] at hp; simp at hp
 obtain ⟨fs,rfl,hfs,_⟩:=h.fields hne
 rw [← hfs,List.getElem?_map,Option.map_eq_some_iff] at hp
 obtain ⟨f,hf,rfl⟩:=hp
 exact ⟨fs,f,h.und,by simpa using hf,rfl,rfl⟩

theorem ZfZ (h:TI.Ok P t ti i d z) {j:Nat} {p:Nat×Nat} (hp:ti.fields[j]?=some p) {fi:TI} {i' d' z'} (hf:TI.Ok P p.2 fi i' d' z') (h0:0 < fi.size) (x o:Nat) :
  (Instr.fieldAt t (.pointer (some ⟨x,o,none⟩)) j).run P w=.ok (.pointer (some ⟨x,o+p.1,none⟩)) w:=by
 obtain ⟨fs,f,hu,hfj,ho,ht⟩:=ZuP h hp
 have hs:(sizeOf f.type).run P w=.ok fi.size w:=by rw [ht]; exact ZO hf
 have h0':¬ fi.size=0:=by omega
 simp [Instr.fieldAt,run_underlying hu,hfj,Instr.sureAddr,fieldPlace,hs,h0',Zb7,ho]
end

section
variable {ok:Zas} {ℓ:Loc} {w:World}

theorem ZaJ {β:Type} (l:List β) (off n j:Nat):(cut l off n)[j]?=if j < n then l[off+j]? else none:=by
 unfold cut
 rw [List.getElem?_take]
 split <;> simp [List.getElem?_drop]

theorem ZaP {β:Type} (l:List β) (off n:Nat) (h:off+n≤l.length):(cut l off n).length=n:=by
 unfold cut; simp; omega

theorem ZfV {ti:TI} {vs:Array Value} {cs:List C} {off:Nat} {v:V} (h:RCs ok ℓ w vs cs) (hp:ZhI ti cs off=some v) :
  (ti.agg=true→∃ us:List Value,us.length=ti.size∧(∀ j u,us[j]?=some u→vs[off+j]?=some u)∧RV ok ℓ w (.agg us.toArray) v)∧
  (ti.agg=false→∃ u,vs[off]?=some u∧RV ok ℓ w u v):=by
 unfold ZhI at hp
 by_cases ha:ti.agg=true
 ·rw [if_pos ha] at hp
  split at hp
  ·rename_i hle
   simp only [Option.some.injEq] at hp
   subst hp
   refine ⟨fun _=>⟨cut vs.toList off ti.size,?_,fun j u hu=>?_,?_⟩,fun e=>by rw [ha] at e; cases e⟩
   ·exact ZaP _ _ _ (by simp [h.1]; exact hle)
   ·rw [ZaJ] at hu
    split at hu
    ·simpa using hu
    ·cases hu
   ·refine ⟨_,rfl,?_,fun j u c hu hc=>?_⟩
    ·rw [ZaP _ _ _ hle]
     simp only [List.size_toArray]
     exact ZaP _ _ _ (by simp [h.1]; exact hle)
    ·rw [ZaJ] at hc
     simp only [List.getElem?_toArray] at hu
     rw [ZaJ] at hu
     split at hc
     ·rename_i hj
      rw [if_pos hj] at hu
      exact h.2 (off+j) u c (by simpa using hu) hc
     ·cases hc
  ·cases hp
 ·rw [if_neg ha,Option.map_eq_some_iff] at hp
  obtain ⟨c,hc,rfl⟩:=hp
  refine ⟨fun e=>absurd e ha,fun _=>?_⟩
  have hlt:off < vs.size:=by rw [h.1]; exact (List.getElem?_eq_some_iff.1 hc).1
  exact ⟨vs[off],Array.getElem?_eq_getElem hlt,h.2 off _ c (Array.getElem?_eq_getElem hlt) hc⟩

theorem ZsT {ti:TI} {x:D} {b o off:Nat} {y:D} (h:PtrTo ok w x b o) (hp:Ziy ti x.cells off=some y) (hna:ti.agg=false→∀ zs,y≠.agg zs) :
  PtrTo ok w y b (o+off)∧(ti.agg=true→∃ cs,y=.agg cs∧cs.length=ti.size):=by
 unfold Ziy at hp
 by_cases ha:ti.agg=true
 ·rw [if_pos ha] at hp
  split at hp
  ·rename_i hle
   simp only [Option.some.injEq] at hp
   subst hp
   refine ⟨fun j u hu=>?_,fun _=>⟨_,rfl,ZaP _ _ _ hle⟩⟩
   simp only [D.cells] at hu
   rw [ZaJ] at hu
   split at hu
   ·rw [Nat.add_assoc]
    exact h (off+j) u hu
   ·cases hu
  ·cases hp
 ·rw [if_neg ha] at hp
  refine ⟨fun j u hu=>?_,fun e=>absurd e ha⟩
  have hc:y.cells=[y]:=by
   cases y with
   | agg cs=>exact absurd rfl (hna (by simpa using ha) cs)
   | _=>rfl
  rw [hc] at hu
  cases j with
  | zero=>simp at hu; subst hu; exact h off y hp
  | succ j=>simp at hu
end

section
variable {X:Ctx} {gd:Option Bool} {o:Oper}

theorem Zqu (hd:∀ d,o.dst=some d→d < X.n) (hg:gd.getD true=true) {x:Operand} (ho:o.op=.nilCheck x):ZcU X gd o:=by
 rintro S st a w R r hr _ ⟨ok,ℓ,hs⟩ K Q hK
 simp only [Z6,ho] at hr
 obtain ⟨v,R1,h1,h2,hfr⟩:=ZX hs hg hr
 split at h2
 ·rw [Zt h2] at hK
  refine Zu (w':=w) ?_ (hK _ _ (Sim.plain hs hd hg h1))
  simp only [RV,RC] at h1
  simp [execOp,ho,h1]
 ·rw [Zt h2] at hK
  refine Zu (w':=w) ?_ (hK _ _ (Sim.plain hs hd hg h1))
  obtain ⟨b,o',h3,_⟩:=h1
  simp [execOp,ho,h3]
 ·rw [Zt h2] at hK
  refine Zu (w':=w) ?_ (hK _ _ (Sim.plain hs hd hg h1))
  simp only [RV,RC] at h1
  simp [execOp,ho,h1]
 ·rw [Zt h2] at hK
  refine Zu (w':=w) ?_ (hK _ _ (Sim.plain hs hd hg h1))
  obtain ⟨b,o',h3,_⟩:=h1
  simp [execOp,ho,h3]
 ·rw [Zt h2] at hK
  refine Zu (w':=w) ?_ (hK _ _ (Sim.plain hs hd hg h1))
  simp only [RV,RC] at h1
  unfold fnV at h1
  split at h1 <;> simp [execOp,ho,h1]
 ·exact (Zv h2).elim

theorem ZD1 (hT:TOk X) (hd:∀ d,o.dst=some d→d < X.n) (hg:gd.getD true=true) {t:TypeId} {x:Operand} (ho:o.op=.load t x):ZcU X gd o:=by
 rintro S st a w R r hr _ ⟨ok,ℓ,hs⟩ K Q hK
 simp only [Z6,ho] at hr
 obtain ⟨v,R1,h1,h2,hfr⟩:=ZX hs hg hr
 obtain ⟨ti,hti,h3⟩:=Zg h2
 obtain ⟨i,dsc,z,hto⟩:=TI.ok (hT t ti hti)
 split at h3
 ·
  rename_i n off
  obtain ⟨cs,R2,h4,h5⟩:=Zm5 h3
  obtain ⟨v',h6,h7⟩:=Zg h5
  rw [Zt h7] at hK
  obtain ⟨vs,T,h8,h9,_⟩:=hs.mem.box n cs h4
  obtain ⟨h10,h11⟩:=ZfV h9 h6
  simp only [RV,RC] at h1
  by_cases ha:ti.agg=true
  ·obtain ⟨us,hl,hcell,hrv⟩:=h10 ha
   refine Zu (w':=w) ?_ (hK _ _ (Sim.plain hs hd hg hrv))
   simp [execOp,ho,h1,Instr.loadAt,Instr.sureAddr,ZbV hto ha hl (fun j u hu=>by rw [Zam h8]; exact hcell j u hu)]
  ·have ha':ti.agg=false:=by simpa using ha
   obtain ⟨u,hu,hrv⟩:=h11 ha'
   refine Zu (w':=w) ?_ (hK _ _ (Sim.plain hs hd hg hrv))
   simp [execOp,ho,h1,Instr.loadAt,Instr.sureAddr,Za6 hto ha' (show w.cell? ⟨ℓ.i n,off,none⟩=some u by rw [Zam h8]; exact hu)]
 ·
  rename_i y
  obtain ⟨b,o',h4,h5⟩:=h1
  by_cases ha:ti.agg=true
  ·rw [if_pos ha] at h3
   by_cases hsz:y.cells.length=ti.size
   ·rw [if_pos hsz] at h3
    split at h3
    ·rename_i cs
     rw [Zt h3] at hK
     simp only [D.cells] at hsz h5
     have hall:∀ j:Nat,j < cs.length→∃ u,w.cell? ⟨b,o'+j,none⟩=some u:=fun j hj=>let ⟨_,_,u,hu,_⟩:=h5 j cs[j] (List.getElem?_eq_getElem hj); ⟨u,hu⟩
     let us:List Value:=(List.range cs.length).map fun j=>(w.cell? ⟨b,o'+j,none⟩).getD default
     have hus:∀ j u,us[j]?=some u→w.cell? ⟨b,o'+j,none⟩=some u:=by
      intro j u hu
      simp only [us,List.getElem?_map,Option.map_eq_some_iff] at hu
      obtain ⟨j',hj',rfl⟩:=hu
      obtain ⟨hlt,rfl⟩:=List.getElem?_eq_some_iff.1 hj'
      simp only [List.getElem_range,List.length_range] at hlt ⊢
      obtain ⟨u,hu⟩:=hall j hlt
      simp [hu]
     have hl:us.length=ti.size:=by simp [us,hsz]
     refine Zu (u:=.agg us.toArray) (w':=w) ?_ (hK _ _ (Sim.plain hs hd hg ⟨_,rfl,by simp [us],fun j u c hu hc=>?_⟩))
     ·simp [execOp,ho,h4,Instr.loadAt,Instr.sureAddr,ZbV hto ha hl hus]
     ·simp only [List.getElem?_map,Option.map_eq_some_iff] at hc
      obtain ⟨y,hy,rfl⟩:=hc
      obtain ⟨hsc,_,u',hu',hrep⟩:=h5 j y hy
      have:=hus j u (by simpa using hu)
      rw [hu'] at this
      cases this
      exact ⟨hrep,hsc⟩
    ·exact (Zv h3).elim
   ·rw [if_neg hsz] at h3; exact (Zv h3).elim
  ·have ha':ti.agg=false:=by simpa using ha
   rw [if_neg ha] at h3
   split at h3
   ·exact (Zv h3).elim
   ·exact (Zv h3).elim
   ·rename_i h6 h7
    rw [Zt h3] at hK
    have hc:y.cells=[y]:=by
     cases y with
     | agg cs=>exact absurd rfl (h6 cs)
     | _=>rfl
    obtain ⟨hsc,_,u,hu,hrep⟩:=h5 0 y (by rw [hc]; rfl)
    refine Zu (w':=w) ?_ (hK _ _ (Sim.plain hs hd hg ⟨hrep,hsc⟩))
    have hu':w.cell? ⟨b,o',none⟩=some u:=hu
    simp [execOp,ho,h4,Instr.loadAt,Instr.sureAddr,Za6 hto ha' hu']
 ·
  rename_i kk wd ri
  split at h3
  case isFalse=>exact (Zv h3).elim
  rename_i hagg
  rw [Zt h3] at hK
  obtain ⟨b,o',h4,h5,h6⟩:=h1
  refine Zu (w':=w) ?_ (hK _ _ (Sim.plain hs hd hg (v:=.c (.vw kk (ri*wd) wd)) rfl))
  simp [execOp,ho,h4,Instr.loadAt,Instr.sureAddr,Za6 hto hagg h6]
 ·
  rename_i k j off
  obtain ⟨tk,R2,h4,h5⟩:=Zda h3
  have hold:∃ x' y,(tk.isArr=true∧tk.l[j]?=some x')∧Ziy ti x'.cells off=some y∧y.okV=true∧r={ v:=y.toV}:=by
   split at h5
   ·rename_i hc
    obtain ⟨zz,_,h6⟩:=Zg h5
    obtain ⟨⟨g1,g2,g3⟩,h7⟩:=Z1 hg h6
    rw [g3] at h7
    obtain ⟨h8,n1,n2⟩:=ZsX h7
    obtain ⟨h9,h10⟩:=ZC h8
    have hx:tk.l[j]?=some (tk.l[j]?.getD zz):=by rw [List.getElem?_eq_getElem g2]; rfl
    refine ⟨tk.l[j]?.getD zz,tk.l[j]?.getD zz,⟨g1,hx⟩,?_,h9,?_⟩
    ·unfold Ziy
     rw [if_neg (by rw [hc.1]; decide),hc.2]
     generalize tk.l[j]?.getD zz=q at *
     cases q with
     | agg l=>exact absurd rfl (n1 l)
     | _=>rfl
    ·rw [Zt h10]
     generalize tk.l[j]?.getD zz=q at *
     cases q with
     | agg l=>exact absurd rfl (n1 l)
     | tup l=>exact absurd rfl (n2 l)
     | _=>rfl
   ·obtain ⟨x',h6⟩:=ZAl h5
    obtain ⟨h7,h9⟩:=Z1 hg h6
    obtain ⟨y,h10,h11⟩:=Zg h9
    obtain ⟨hy,h11⟩:=ZC h11
    exact ⟨x',y,h7,h10,hy,Zt h11⟩
  obtain ⟨x',y,⟨h7,h8⟩,h10,hy,h11⟩:=hold
  rw [h11] at hK
  obtain ⟨hz,huni,cs,T,h12,h13,h14,_⟩:=hs.mem.arr k tk h4 h7
  simp only [RV,RC] at h1
  rw [hz] at h1
  unfold Ziy at h10
  by_cases ha:ti.agg=true
  ·rw [if_pos ha] at h10
   split at h10
   ·rename_i hle
    simp only [Option.some.injEq] at h10
    subst h10
    have hall:∀ m:Nat,m < ti.size→∃ u y,(cut x'.cells off ti.size)[m]?=some y∧w.cell? ⟨ℓ.i k,j*tk.sz+off+m,none⟩=some u∧Rep ok w u y∧y.sc=true:=by
     intro m hm
     have hlt:off+m < x'.cells.length:=by omega
     obtain ⟨hsc,u,hu,hrep⟩:=h14 j x' (off+m) x'.cells[off+m] h8 (List.getElem?_eq_getElem hlt)
     refine ⟨u,x'.cells[off+m],?_,?_,hrep,hsc⟩
     ·rw [ZaJ,if_pos hm]; exact List.getElem?_eq_getElem hlt
     ·rw [Zam h12,Nat.add_assoc]; exact hu
    let us:List Value:=(List.range ti.size).map fun m=>(w.cell? ⟨ℓ.i k,j*tk.sz+off+m,none⟩).getD default
    have hus:∀ m u,us[m]?=some u→w.cell? ⟨ℓ.i k,j*tk.sz+off+m,none⟩=some u:=by
     intro m u hu
     simp only [us,List.getElem?_map,Option.map_eq_some_iff] at hu
     obtain ⟨m',hm',rfl⟩:=hu
     obtain ⟨hlt,rfl⟩:=List.getElem?_eq_some_iff.1 hm'
     simp only [List.getElem_range,List.length_range] at hlt ⊢
     obtain ⟨u,_,_,hu,_⟩:=hall m hlt
     simp [hu]
    have hl:us.length=ti.size:=by simp [us]
    refine Zu (u:=.agg us.toArray) (w':=w) ?_ (hK _ _ (Sim.plain hs hd hg ⟨_,rfl,by simp [us,ZaP _ _ _ hle],fun m u c hu hc=>?_⟩))
    ·simp [execOp,ho,h1,Instr.loadAt,Instr.sureAddr,ZbV hto ha hl hus]
    ·simp only [List.getElem?_map,Option.map_eq_some_iff] at hc
     obtain ⟨y,hy,rfl⟩:=hc
     have hm:m < ti.size:=by rw [← ZaP _ _ _ hle]; exact (List.getElem?_eq_some_iff.1 hy).1
     obtain ⟨u',y',hy',hu',hrep,hsc⟩:=hall m hm
     rw [hy] at hy'
     cases hy'
     have:=hus m u (by simpa using hu)
     rw [hu'] at this
     cases this
     exact ⟨hrep,hsc⟩
   ·cases h10
  ·have ha':ti.agg=false:=by simpa using ha
   rw [if_neg ha] at h10
   obtain ⟨hsc,u,hu,hrep⟩:=h14 j x' off y h8 h10
   refine Zu (w':=w) ?_ (hK _ _ (Sim.plain hs hd hg (ZCH hrep hy)))
   simp [execOp,ho,h1,Instr.loadAt,Instr.sureAddr,Za6 hto ha' (show w.cell? ⟨ℓ.i k,j*tk.sz+off,none⟩=some u by rw [Zam h12]; exact hu)]
 ·exact (Zv h3).elim

theorem Znq (hT:TOk X) (hd:∀ d,o.dst=some d→d < X.n) (hg:gd.getD true=true) {t:TypeId} {x:Operand} {j:Nat} (ho:o.op=.fieldAddr t x j):ZcU X gd o:=by
 rintro S st a w R r hr _ ⟨ok,ℓ,hs⟩ K Q hK
 simp only [Z6,ho] at hr
 obtain ⟨v,R1,h1,h2,hfr⟩:=ZX hs hg hr
 obtain ⟨ti,hti,h3⟩:=Zg h2
 obtain ⟨p,hp,h4⟩:=Zg h3
 obtain ⟨fi,hfi,h5⟩:=Zg h4
 obtain ⟨i,dsc,z,hto⟩:=TI.ok (hT t ti hti)
 obtain ⟨i',dsc',z',hfo⟩:=TI.ok (hT p.2 fi hfi)
 by_cases hc:0 < fi.size∧ti.agg=true
 ·rw [if_pos hc] at h5
  split at h5
  ·rw [Zt h5] at hK
   simp only [RV,RC] at h1
   refine Zu (w':=w) ?_ (hK _ _ (Sim.plain hs hd hg rfl))
   simp [execOp,ho,h1,ZfZ hto hp hfo hc.1]
  ·obtain ⟨y,h6,h7⟩:=Zg h5
   obtain ⟨h8,h9⟩:=ZC h7
   rw [Zt h9] at hK
   obtain ⟨b,o',h10,h11⟩:=h1
   refine Zu (w':=w) ?_ (hK _ _ (Sim.plain hs hd hg ⟨b,o'+p.1,rfl,(ZsT h11 h6 h8).1⟩))
   simp [execOp,ho,h10,ZfZ hto hp hfo hc.1]
  ·rw [Zt h5] at hK
   simp only [RV,RC] at h1
   refine Zu (u:=.pointer (some ⟨_,_+(_+p.1),none⟩)) (w':=w) ?_ (hK _ _ (Sim.plain hs hd hg rfl))
   rename_i k j' off
   simp [execOp,ho,h1,ZfZ hto hp hfo hc.1,Nat.add_assoc]
  ·exact (Zv h5).elim
 ·rw [if_neg hc] at h5; exact (Zv h5).elim

theorem Zvw {P:Program} {t:TypeId} {ti:TI} {i:TypeInfo} {d:TypeDesc} {z:Value} {w:World} (h:TI.Ok P t ti i d z) (cs:Array Value) (off:Nat) :
  (part t cs off).run P w=if ti.agg=true then .ok (.agg (cs.extract off (off+ti.size))) w else (match cs[off]? with | some v=>.ok v w | none=>.halt (.stuck "part: no such cell") w):=by
 simp only [part,Sem.run_bind,ZkU h,Result.andThen_ok]
 by_cases ha:ti.agg=true
 ·simp [ha,ZO h]
 ·have ha':ti.agg=false:=by simpa using ha
  simp only [ha',Bool.false_eq_true,if_false]
  cases cs[off]? <;> rfl

theorem ZBB (hT:TOk X) (hd:∀ d,o.dst=some d→d < X.n) (hg:gd.getD true=true) {t:TypeId} {x:Operand} {j:Nat} (ho:o.op=.field t x j):ZcU X gd o:=by
 rintro S st a w R r hr _ ⟨ok,ℓ,hs⟩ K Q hK
 simp only [Z6,ho] at hr
 obtain ⟨v,R1,h1,h2,hfr⟩:=ZX hs hg hr
 obtain ⟨ti,hti,h3⟩:=Zg h2
 obtain ⟨p,hp,h4⟩:=Zg h3
 obtain ⟨fi,hfi,h5⟩:=Zg h4
 obtain ⟨i,dsc,z,hto⟩:=TI.ok (hT t ti hti)
 obtain ⟨i',dsc',z',hfo⟩:=TI.ok (hT p.2 fi hfi)
 by_cases hc:ti.agg=true
 ·rw [if_pos hc] at h5
  split at h5
  ·obtain ⟨v',h6,h7⟩:=Zg h5
   rw [Zt h7] at hK
   obtain ⟨vs,h8,h9⟩:=h1
   obtain ⟨h10,h11⟩:=ZfV h9 h6
   obtain ⟨fs,f,hu,hfj,hoff,hty⟩:=ZuP hto hp
   by_cases ha:fi.agg=true
   ·obtain ⟨us,hl,hcell,hrv⟩:=h10 ha
    refine Zu (w':=w) ?_ (hK _ _ (Sim.plain hs hd hg hrv))
    have hle:p.1+fi.size≤vs.size:=by
     unfold ZhI at h6
     rw [if_pos ha] at h6
     split at h6
     ·rename_i hle; rw [h9.1]; exact hle
     ·cases h6
    have e:vs.extract p.1 (p.1+fi.size)=us.toArray:=by
     apply Array.ext_getElem?
     intro m
     by_cases hm:m < fi.size
     ·have hlt:p.1+m < vs.size:=by omega
      rw [Array.getElem?_extract]
      have hm':m < us.length:=by omega
      have:=hcell m us[m] (List.getElem?_eq_getElem hm')
      simp only [List.getElem?_toArray]
      rw [List.getElem?_eq_getElem hm',if_pos (by omega)]
      exact this
     ·rw [Array.getElem?_eq_none (by simp; omega),Array.getElem?_eq_none (by simp; omega)]
    simp [execOp,ho,h8,Instr.field,run_underlying hu,hfj,asAgg,hty,hoff,Zvw hfo,ha,e]
   ·have ha':fi.agg=false:=by simpa using ha
    obtain ⟨u,hu',hrv⟩:=h11 ha'
    refine Zu (w':=w) ?_ (hK _ _ (Sim.plain hs hd hg hrv))
    simp [execOp,ho,h8,Instr.field,run_underlying hu,hfj,asAgg,hty,hoff,Zvw hfo,ha',hu']
  ·exact (Zv h5).elim
 ·rw [if_neg hc] at h5; exact (Zv h5).elim

end

end Go.Vam
end
section
set_option linter.unusedVariables false
set_option linter.unusedSimpArgs false
namespace Go.Vam

def Zah:List Value→List Value→Option Bool
 | [],[]=>some true
 | .int k a::l,.int k' b::m=>if k=k' then (Zah l m).map (fun r=>(a==b) && r) else none
 | .bool a::l,.bool b::m=>(Zah l m).map (fun r=>(a==b) && r)
 | _,_=>none

def ZbX:List Value→Option (List Bool)
 | []=>some []
 | .int _ _::l=>(ZbX l).map (true::·)
 | .bool _::l=>(ZbX l).map (false::·)
 | _=>none

theorem Ze3:∀ (l m:List Value) (b:Bool),Zah l m=some b→l.length=m.length
 | [],[],_,_=>rfl
 | [],_::_,_,h=>by simp [Zah] at h
 | v::l,[],b,h=>by cases v <;> simp [Zah] at h
 | v::l,u::m,b,h=>by
  cases v <;> cases u <;> simp only [Zah,reduceCtorEq] at h
  ·obtain ⟨r,hr,_⟩:=Option.map_eq_some_iff.1 h
   simp [Ze3 l m r hr]
  ·split at h
   ·obtain ⟨r,hr,_⟩:=Option.map_eq_some_iff.1 h
    simp [Ze3 l m r hr]
   ·cases h

theorem ZcT:∀ (l m l' m':List Value) (b:Bool),l.length=m.length→Zah (l++l') (m++m')=some b→∃ p q,Zah l m=some p∧Zah l' m'=some q∧b=(p && q)
 | [],[],l',m',b,_,h=>⟨true,b,rfl,h,by simp⟩
 | [],_::_,_,_,_,e,_=>by simp at e
 | _::_,[],_,_,_,e,_=>by simp at e
 | v::l,u::m,l',m',b,e,h=>by
  simp only [List.length_cons,Nat.add_right_cancel_iff] at e
  cases v <;> cases u <;> simp only [List.cons_append,Zah,reduceCtorEq] at h ⊢
  ·obtain ⟨r,hr,rfl⟩:=Option.map_eq_some_iff.1 h
   obtain ⟨p,q,h1,h2,rfl⟩:=ZcT l m l' m' r e hr
   exact ⟨_,q,by rw [h1]; rfl,h2,by simp [Bool.and_assoc]⟩
  ·split at h
   ·rename_i hk
    obtain ⟨r,hr,rfl⟩:=Option.map_eq_some_iff.1 h
    obtain ⟨p,q,h1,h2,rfl⟩:=ZcT l m l' m' r e hr
    exact ⟨_,q,by rw [if_pos hk,h1]; rfl,h2,by simp [Bool.and_assoc]⟩
   ·cases h

theorem Zf4 {ok ℓ w}:∀ (cs ds:List C) (l m:List Value) (b:Bool),RCs ok ℓ w l.toArray cs→RCs ok ℓ w m.toArray ds→ZaQ cs ds=some b→Zah l m=some b
 | [],[],l,m,b,h1,h2,h=>by
  have e1:l=[]:=by have:=h1.1; simpa using this
  have e2:m=[]:=by have:=h2.1; simpa using this
  subst e1; subst e2; simpa [ZaQ,Zah] using h
 | [],_::_,_,_,_,_,_,h=>by simp [ZaQ] at h
 | c::cs,[],_,_,_,_,_,h=>by
  cases c with
  | d x=>cases x <;> simp [ZaQ] at h
  | _=>simp [ZaQ] at h
 | c::cs,d::ds,l,m,b,h1,h2,h=>by
  cases l with
  | nil=>have:=h1.1; simp at this
  | cons v l =>
   cases m with
   | nil=>have:=h2.1; simp at this
   | cons u m =>
    have hv:RC ok ℓ w v c:=h1.2 0 v c (by simp) (by simp)
    have hu:RC ok ℓ w u d:=h2.2 0 u d (by simp) (by simp)
    have h1':RCs ok ℓ w l.toArray cs:=⟨by have:=h1.1; simpa using this,fun i x y hx hy=>h1.2 (i+1) x y (by simpa using hx) (by simpa using hy)⟩
    have h2':RCs ok ℓ w m.toArray ds:=⟨by have:=h2.1; simpa using this,fun i x y hx hy=>h2.2 (i+1) x y (by simpa using hx) (by simpa using hy)⟩
    unfold ZaQ at h
    split at h
    case h_1=>rename_i e1 e2; cases e1
    case h_4=>cases h
    case h_2 =>
     rename_i k a l0 k' b' m0 e1 e2
     cases e1; cases e2
     have ev:=hv.1.int_inv
     have eu:=hu.1.int_inv
     subst ev; subst eu
     split at h
     ·rename_i hk
      obtain ⟨r,hr,rfl⟩:=Option.map_eq_some_iff.1 h
      simp only [Zah,if_pos hk,Zf4 cs ds l m r h1' h2' hr]
      rfl
     ·cases h
    case h_3 =>
     rename_i a l0 b' m0 e1 e2
     cases e1; cases e2
     have ev:=hv.1.bool_inv
     have eu:=hu.1.bool_inv
     subst ev; subst eu
     obtain ⟨r,hr,rfl⟩:=Option.map_eq_some_iff.1 h
     simp only [Zah,Zf4 cs ds l m r h1' h2' hr]
     rfl

theorem ZhO:∀ (l:List Value) (ks:List Bool),ZbX l=some ks→l.length=ks.length
 | [],ks,h=>by simp [ZbX] at h; subst h; rfl
 | v::l,ks,h=>by
  cases v <;> simp only [ZbX,reduceCtorEq] at h
  all_goals
   obtain ⟨k',hk',rfl⟩:=Option.map_eq_some_iff.1 h
   simp [ZhO l k' hk']

theorem Zg5:∀ (l l':List Value) (ks:List Bool),ZbX (l++l')=some ks→∃ a b,ZbX l=some a∧ZbX l'=some b∧ks=a++b
 | [],l',ks,h=>⟨[],ks,rfl,h,rfl⟩
 | v::l,l',ks,h=>by
  cases v <;> simp only [List.cons_append,ZbX,reduceCtorEq] at h
  all_goals
   obtain ⟨k',hk',rfl⟩:=Option.map_eq_some_iff.1 h
   obtain ⟨a,b,h1,h2,rfl⟩:=Zg5 l l' k' hk'
   exact ⟨_::a,b,by simp only [ZbX,h1]; rfl,h2,rfl⟩

theorem Zg6 {ok ℓ w}:∀ (cs:List C) (l:List Value) (ks:List Bool),RCs ok ℓ w l.toArray cs→ZaC cs=some ks→ZbX l=some ks
 | [],l,ks,h1,h=>by
  have e1:l=[]:=by have:=h1.1; simpa using this
  subst e1; simpa [ZaC,ZbX] using h
 | c::cs,l,ks,h1,h=>by
  cases l with
  | nil=>have:=h1.1; simp at this
  | cons v l =>
   have hv:RC ok ℓ w v c:=h1.2 0 v c (by simp) (by simp)
   have h1':RCs ok ℓ w l.toArray cs:=⟨by have:=h1.1; simpa using this,fun i x y hx hy=>h1.2 (i+1) x y (by simpa using hx) (by simpa using hy)⟩
   unfold ZaC at h
   split at h
   case h_1=>rename_i e1; cases e1
   case h_4=>cases h
   case h_2 =>
    rename_i k a l0 e1
    cases e1
    have ev:=hv.1.int_inv
    subst ev
    obtain ⟨r,hr,rfl⟩:=Option.map_eq_some_iff.1 h
    simp only [ZbX,Zg6 cs l r h1' hr]; rfl
   case h_3 =>
    rename_i a l0 e1
    cases e1
    have ev:=hv.1.bool_inv
    subst ev
    obtain ⟨r,hr,rfl⟩:=Option.map_eq_some_iff.1 h
    simp only [ZbX,Zg6 cs l r h1' hr]; rfl

def Zln (P:Program) (t:TypeId) (xs:Array Value) (off n:Nat):Value :=
 match P.underlying t with
 | some (.struct _)=>.agg (xs.extract off (off+n))
 | _=>xs.getD off default

theorem ZcR {β:Type} (l:List β) (off a b:Nat):cut l off (a+b)=cut l off a++cut l (off+a) b:=by
 unfold cut
 rw [List.take_add]
 congr 1
 rw [List.drop_drop]

theorem ZmZ (xs:Array Value) (off:Nat) (h:off < xs.size):cut xs.toList off 1=[xs.getD off default]:=by
 apply List.ext_getElem?
 intro j
 rw [ZaJ]
 cases j with
 | zero=>simp [Array.getD,h]
 | succ j=>simp

theorem ZfQ (xs:Array Value) (off a b n:Nat) (h:a+b≤n):cut (xs.extract off (off+n)).toList a b=cut xs.toList (off+a) b:=by
 apply List.ext_getElem?
 intro j
 rw [ZaJ,ZaJ]
 split
 ·rw [Array.getElem?_toList,Array.getElem?_toList,Array.getElem?_extract]
  split
  ·rw [Nat.add_assoc]
  ·rw [Array.getElem?_eq_none (by omega)]
 ·rfl

def ZNs (P:Program) (w:World) (d:Nat):Prop :=
 ∀ (t:TypeId) (ks:List Bool),Zld P d t=some ks→∀ (D:Nat),d≤D→∀ (xs ys:Array Value) (off:Nat) (b:Bool),off+ks.length≤xs.size→off+ks.length≤ys.size→
  ZbX (cut xs.toList off ks.length)=some ks→Zah (cut xs.toList off ks.length) (cut ys.toList off ks.length)=some b→
  (Op.equalIn D t (Zln P t xs off ks.length) (Zln P t ys off ks.length)).run P w=.ok b w

theorem ZpB {P:Program} (w:World) (d:Nat) (ih:ZNs P w d):∀ (fs:List Field) (off:Nat) (ks:List Bool),ZpG P (Zld P d) fs off=some ks→∀ (D:Nat),d≤D→∀ (xs ys:Array Value) (b:Bool),
  off+ks.length≤xs.size→off+ks.length≤ys.size→ZbX (cut xs.toList off ks.length)=some ks→Zah (cut xs.toList off ks.length) (cut ys.toList off ks.length)=some b→(Op.eqFields D xs ys fs).run P w=.ok b w
 | [],off,ks,h,D,hD,xs,ys,b,hx,hy,hk,he=>by
  simp only [ZpG,Option.some.injEq] at h
  subst h
  simp only [cut,List.length_nil,List.take_zero,Zah,Option.some.injEq] at he
  subst he
  rfl
 | f::fs,off,ks,h,D,hD,xs,ys,b,hx,hy,hk,he=>by
  simp only [ZpG] at h
  split at h
  case isFalse=>cases h
  rename_i hname
  split at h
  case h_2=>cases h
  rename_i m hm
  split at h
  case isFalse=>cases h
  rename_i hag
  obtain ⟨r,hr,rfl⟩:=Option.map_eq_some_iff.1 h
  simp only [List.length_append] at hx hy hk he
  rw [ZcR xs.toList] at hk
  rw [ZcR xs.toList,ZcR ys.toList] at he
  obtain ⟨p,q,h1,h2,rfl⟩:=ZcT _ _ _ _ _ (by rw [ZaP _ _ _ (by simp; omega),ZaP _ _ _ (by simp; omega)]) he
  obtain ⟨ka,kb,h3,h4,e⟩:=Zg5 _ _ _ hk
  have hla:ka.length=m.length:=by rw [← ZhO _ _ h3,ZaP _ _ _ (by simp; omega)]
  obtain ⟨rfl,rfl⟩:=List.append_inj e.symm hla
  have hf:=ih f.type ka hm D hD xs ys off p (by omega) (by omega) h3 h1
  have hr':=ZpB w d ih fs (off+ka.length) kb hr D hD xs ys q (by omega) (by omega) h4 h2
  have hpart:∀ zs:Array Value,off+(ka.length+kb.length)≤zs.size→(part f.type zs f.offset).run P w=.ok (Zln P f.type zs off ka.length) w:=by
   intro zs hz
   rw [hname.2]
   unfold ZzA at hag
   cases d with
   | zero=>simp [Zld] at hm
   | succ d =>
    unfold Zld at hm
    split at hm
    ·rename_i k hu
     simp only [Option.some.injEq] at hm
     subst hm
     have:off < zs.size:=by simp at hz; omega
     simp [part,isAgg,run_underlying hu,Zln,hu,this]
    ·rename_i hu
     simp only [Option.some.injEq] at hm
     subst hm
     have:off < zs.size:=by simp at hz; omega
     simp [part,isAgg,run_underlying hu,Zln,hu,this]
    ·rename_i fs' hu
     simp only [hu,decide_eq_true_eq] at hag
     obtain ⟨i,hi,hs⟩:=Option.map_eq_some_iff.1 hag
     simp [part,isAgg,run_underlying hu,Zln,hu,sizeOf,typeInfo,hi,hs]
    ·cases hm
  simp only [Op.eqFields,ne_eq,hname.1,not_false_eq_true,if_true,Sem.run_bind,hpart xs hx,hpart ys hy,Result.andThen_ok,hf,Sem.run_ite]
  cases p with
  | true=>simp [hr']
  | false=>simp

theorem ZAk (P:Program) (w:World):∀ d,ZNs P w d
 | 0=>fun t n h=>by simp [Zld] at h
 | d+1=>by
  intro t n h D hD xs ys off b hx hy hk he
  obtain ⟨D,rfl⟩:∃ D',D=D'+1:=⟨D - 1,by omega⟩
  unfold Zld at h
  split at h
  ·rename_i k hu
   simp only [Option.some.injEq] at h
   subst h
   simp only [List.length_singleton] at hx hy hk he
   simp only [Zln,hu,List.length_singleton]
   rw [ZmZ xs off (by omega)] at hk he
   rw [ZmZ ys off (by omega)] at he
   generalize xs.getD off default=x at *
   generalize ys.getD off default=y at *
   cases x <;> simp [ZbX] at hk
   cases y <;> simp only [Zah,reduceCtorEq] at he
   split at he
   ·rename_i hk; subst hk
    simp only [Option.map_some,Option.some.injEq] at he
    subst he
    rw [run_equalIn_int w D t _ k _ _ hu]; simp
   ·cases he
  ·rename_i hu
   simp only [Option.some.injEq] at h
   subst h
   simp only [List.length_singleton] at hx hy hk he
   simp only [Zln,hu,List.length_singleton]
   rw [ZmZ xs off (by omega)] at hk he
   rw [ZmZ ys off (by omega)] at he
   generalize xs.getD off default=x at *
   generalize ys.getD off default=y at *
   cases x <;> simp [ZbX] at hk
   cases y <;> simp only [Zah,reduceCtorEq] at he
   simp only [Option.map_some,Option.some.injEq] at he
   subst he
   rw [run_equalIn_bool' w D t _ _ hu]; simp
  ·rename_i fs hu
   split at h
   case isFalse=>cases h
   rename_i hst
   simp only [Zln,hu]
   have hfo:P.fieldsOf t=fs:=by simp [Program.fieldsOf,hu]
   rw [run_equalIn_struct w D t _ _ (by rw [hfo]; exact hu) hst,hfo]
   refine ZpB w d (ZAk P w d) fs.toList 0 n h D (by omega) _ _ b (by simp; omega) (by simp; omega) ?_ ?_
   ·rw [ZfQ _ _ _ _ _ (by omega)]; exact hk
   ·rw [ZfQ _ _ _ _ _ (by omega),ZfQ _ _ _ _ _ (by omega)]; exact he
  ·cases h


section
variable {X:Ctx} {gd:Option Bool} {o:Oper}

theorem Zb5 {P:Program} {w:World} (op:BinOp) (t:TypeId) (x y:Operand) (a b:Value) (h:(∀ c,a≠.agg c)∧a≠.nilIface):(eqGuard op t x y a b).run P w=.ok () w:=by
 cases op <;> cases a <;> first
  | rfl
  | exact absurd rfl (h.1 _)
  | exact absurd rfl h.2

theorem ZBz (hT:TOk X) (hd:∀ d,o.dst=some d→d < X.n) (hg:gd.getD true=true) {op:BinOp} {t yt:TypeId} {x y:Operand} (ho:o.op=.binOp op t x y yt):ZcU X gd o:=by
 rintro S st a w R r hr _ ⟨ok,ℓ,hs⟩ K Q hK
 simp only [Z6,ho] at hr
 obtain ⟨xv,R1,h1,h2,hf1⟩:=ZX hs hg hr
 obtain ⟨yv,R2,h3,h4,hf2⟩:=ZX hs hg h2
 unfold Zdj at h4
 split at h4
 ·
  rename_i k a' k' b'
  have hx:a.eval x=.int k a':=h1.1.int_inv
  have hy:a.eval y=.int k' b':=h3.1.int_inv
  have hgu:=Zb5 (P:=X.P) (w:=w) op t x y (.int k a') (.int k' b') (by simp)
  split at h4
  ·obtain ⟨h0,h5⟩:=Z1 hg h4
   obtain ⟨d,h6,h7⟩:=Zg h5
   rw [Zt h7] at hK
   simp only [ZiN,Option.some.injEq] at h6
   subst h6
   refine Zu (w':=w) ?_ (hK _ _ (Sim.plain hs hd hg ⟨.int _ _,rfl⟩))
   have h0':¬ b' < 0:=by omega
   simp [execOp,ho,hx,hy,hgu,binOp,Op.shift,h0']
  ·obtain ⟨h0,h5⟩:=Z1 hg h4
   obtain ⟨d,h6,h7⟩:=Zg h5
   rw [Zt h7] at hK
   simp only [ZiN,Option.some.injEq] at h6
   subst h6
   refine Zu (w':=w) ?_ (hK _ _ (Sim.plain hs hd hg ⟨.int _ _,rfl⟩))
   have h0':¬ b' < 0:=by omega
   simp [execOp,ho,hx,hy,hgu,binOp,Op.shift,h0']
  ·rename_i hn1 hn2
   split at h4
   case isFalse=>exact (Zv h4).elim
   rename_i hk
   subst hk
   obtain ⟨d,h6,h7⟩:=Zg h4
   obtain ⟨hp,h8⟩:=Z1 hg h7
   rw [Zt h8] at hK
   cases op <;> simp only [Zcp,Option.some.injEq,reduceCtorEq] at h6
   all_goals first
    | exact absurd rfl hn1
    | exact absurd rfl hn2
    | (
     subst h6
     refine Zu (w':=w) ?_ (hK _ _ (Sim.plain hs hd hg ⟨.int _ _,rfl⟩))
     first
      | (simp [execOp,ho,hx,hy,hgu,binOp,Op.intArith]; done)
      | (simp [execOp,ho,hx,hy,hgu,binOp,Op.intBits]; done)
      | (simp only at hp; simp [execOp,ho,hx,hy,hgu,binOp,Op.intDiv,hp]; done))
    | (
     subst h6
     refine Zu (w':=w) ?_ (hK _ _ (Sim.plain hs hd hg ⟨.bool _,rfl⟩))
     simp [execOp,ho,hx,hy,hgu,binOp,Op.intCmp]; done)
 ·
  rename_i a' b'
  have hx:a.eval x=.bool a':=h1.1.bool_inv
  have hy:a.eval y=.bool b':=h3.1.bool_inv
  have hgu:=Zb5 (P:=X.P) (w:=w) op t x y (.bool a') (.bool b') (by simp)
  obtain ⟨ti,hti,h5⟩:=Zg h4
  obtain ⟨i,dsc,z,hto⟩:=TI.ok (hT t ti hti)
  split at h5
  case isFalse=>exact (Zv h5).elim
  rename_i hb
  have hu:=hto.und
  rw [hto.boo hb] at hu
  split at h5
  ·rw [Zt h5] at hK
   refine Zu (w':=w) ?_ (hK _ _ (Sim.plain hs hd hg ⟨.bool _,rfl⟩))
   simp [execOp,ho,hx,hy,hgu,run_eql_bool w t a' b' hu]
  ·rw [Zt h5] at hK
   refine Zu (w':=w) ?_ (hK _ _ (Sim.plain hs hd hg ⟨.bool _,rfl⟩))
   simp [execOp,ho,hx,hy,hgu,run_neq_bool w t a' b' hu]
  ·exact (Zv h5).elim
 ·
  rename_i a' b'
  have hx:a.eval x=.string a':=h1.1.str_inv
  have hy:a.eval y=.string b':=h3.1.str_inv
  have hgu:=Zb5 (P:=X.P) (w:=w) op t x y (.string a') (.string b') (by simp)
  split at h4
  ·obtain ⟨h0,h5⟩:=Z1 hg h4
   rw [Zt h5] at hK
   refine Zu (w':=w) ?_ (hK _ _ (Sim.plain hs hd hg ⟨.str _,rfl⟩))
   have h0':¬ ((a'.size+b'.size:Nat):Int) > IntKind.i64.max:=by
    have e:IntKind.i64.max=9223372036854775807:=by decide
    rw [e]
    omega
   simp only [execOp,ho,hx,hy,hgu,Sem.run_bind,Result.andThen_ok,binOp,Op.stringOp,if_neg h0',Sem.run_pure]
  ·rw [Zt h4] at hK
   refine Zu (w':=w) ?_ (hK _ _ (Sim.plain hs hd hg ⟨.bool _,rfl⟩))
   simp [execOp,ho,hx,hy,hgu,binOp,Op.stringOp]
  ·rw [Zt h4] at hK
   refine Zu (w':=w) ?_ (hK _ _ (Sim.plain hs hd hg ⟨.bool _,rfl⟩))
   simp [execOp,ho,hx,hy,hgu,binOp,Op.stringOp]
  ·exact (Zv h4).elim
 ·
  rename_i xs ys
  obtain ⟨ti,hti,h5⟩:=Zg h4
  obtain ⟨i,dsc,z,hto⟩:=TI.ok (hT t ti hti)
  split at h5
  case isFalse=>exact (Zv h5).elim
  rename_i hfl
  obtain ⟨he1,he2,he3⟩:=hto.flat hfl.1
  obtain ⟨us,hx,hru⟩:=h1
  obtain ⟨vs,hy,hrv⟩:=h3
  have hlu:us.size=ti.flat.length:=by
   have:=Zg6 xs us.toList _ (by simpa using hru) hfl.2
   rw [← ZhO _ _ this]; simp
  have hd2:=he2
  have hkey:∀ b,ZaQ xs ys=some b→(Op.equalIn 10000 t (.agg us) (.agg vs)).run X.P w=.ok b w:=by
   intro b hb
   have hv:=Zf4 xs ys us.toList vs.toList b (by simpa using hru) (by simpa using hrv) hb
   have hk:=Zg6 xs us.toList _ (by simpa using hru) hfl.2
   have hlv:vs.size=ti.flat.length:=by have:=Ze3 _ _ _ hv; simp at this; omega
   have e1:cut us.toList 0 ti.flat.length=us.toList:=by unfold cut; rw [List.drop_zero,List.take_of_length_le (by simp; omega)]
   have e2:cut vs.toList 0 ti.flat.length=vs.toList:=by unfold cut; rw [List.drop_zero,List.take_of_length_le (by simp; omega)]
   have:=ZAk X.P w 20 t ti.flat he2 10000 (by omega) us vs 0 b (by omega) (by omega) (by rw [e1]; exact hk) (by rw [e1,e2]; exact hv)
   have hun:∃ fs,X.P.underlying t=some (.struct fs):=by
    unfold Zld at hd2
    have:=hto.agg
    rw [he3] at this
    split at hd2
    ·rename_i hu; rw [hto.und] at hu; cases hu; cases this
    ·rename_i hu; rw [hto.und] at hu; cases hu; cases this
    ·rename_i fs hu; exact ⟨fs,hu⟩
    ·cases hd2
   obtain ⟨fs,hun⟩:=hun
   simp only [Zln,hun,Nat.zero_add] at this
   rw [← hlu] at this
   rw [show ti.flat.length=us.size from hlu.symm] at hlv
   rw [Array.extract_size,← hlv,Array.extract_size] at this
   exact this
  split at h5
  ·obtain ⟨b,h6,h7⟩:=Zg h5
   rw [Zt h7] at hK
   refine Zu (w':=w) ?_ (hK _ _ (Sim.plain hs hd hg ⟨.bool b,rfl⟩))
   simp [execOp,ho,hx,hy,run_eqGuard_agg w .eql t x y us vs he1,run_eql_struct w t us vs,hkey b h6]
  ·obtain ⟨b,h6,h7⟩:=Zg h5
   rw [Zt h7] at hK
   refine Zu (w':=w) ?_ (hK _ _ (Sim.plain hs hd hg ⟨.bool (!b),rfl⟩))
   simp [execOp,ho,hx,hy,run_eqGuard_agg w .neq t x y us vs he1,run_neq_struct w t us vs,hkey b h6]
  ·exact (Zv h5).elim
 ·exact (Zv h4).elim
end

end Go.Vam
end
