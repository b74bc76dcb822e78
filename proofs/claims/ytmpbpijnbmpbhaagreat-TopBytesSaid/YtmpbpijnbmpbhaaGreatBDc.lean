/- A part of the proof. Conditions: none. -/
import Derived.Test.YtmpbpijnbmpbhaaGreatBDb
section
set_option linter.unusedVariables false
set_option linter.defProp false
set_option linter.unusedSimpArgs false
set_option maxRecDepth 40000
set_option maxHeartbeats 4000000
namespace Go.Vam
open Go.Proofs
open Nat renaming reduceShiftRight→Ya,reduceMod→Yb,reduceEqDiff→Yc,reduceLT→Yd,reduceLeDiff→Ye,reduceAdd→Yf,reduceMul→Yg
open Int renaming reduceLE→Yj,reduceLT→Yk,reduceNeg→Yl,reduceAdd→Ym,reduceToNat→Yn
def ZnN (l:List Int) (v:Int):Int:=if v∈l then (l.idxOf v:Int) else -1
theorem ZsJ {l:List Int} {v:Int} {n:Nat} (hn:n < l.length) (h1:v∉l.take n) (h2:l[n]=v):ZnN l v=n:=by
 have hm:v∈l:=h2 ▸ List.getElem_mem hn
 unfold ZnN
 rw [if_pos hm]
 have e:l=l.take n++l.drop n:=(List.take_append_drop n l).symm
 have hd:l.drop n=v::l.drop (n+1):=by rw [List.drop_eq_getElem_cons hn,h2]
 have:l.idxOf v=n:=by
  conv=>lhs; rw [e,hd]
  rw [List.idxOf_append,if_neg h1,List.idxOf_cons_self,List.length_take]
  omega
 rw [this]
theorem Zm8 {l:List Int} {v:Int} (h:v∉l):ZnN l v=-1:=by unfold ZnN; rw [if_neg h]
theorem ZpU {l:List Int} {v:Int} (h:v∈l):0≤ZnN l v∧(ZnN l v).toNat < l.length∧l[(ZnN l v).toNat]?=some v:=by
 unfold ZnN
 rw [if_pos h]
 have h1:=List.idxOf_lt_length_of_mem h
 refine ⟨by omega,by omega,?_⟩
 rw [Int.toNat_natCast,List.getElem?_eq_getElem h1,List.getElem_idxOf h1]
theorem idx_iff {l:List Int} {v:Int}:(decide (0≤ZnN l v):Bool)=decide (v∈l):=by
 by_cases h:v∈l
 ·rw [decide_eq_true (ZpU h).1,decide_eq_true h]
 ·rw [Zm8 h,decide_eq_false h]; rfl
theorem ZeV {l:List Int} {v:Int} {n:Nat} (h:n < l.length) (h1:v∉l.take n) (h2:l[n]≠v):v∉l.take (n+1):=by
 rw [List.take_add_one,List.getElem?_eq_getElem h]
 simp only [Option.toList_some,List.mem_append,List.mem_singleton,not_or]
 exact ⟨h1,fun e=>h2 e.symm⟩
theorem Zm7 {m:List Int} {n:Nat} {v:Int} (h:v∈m.take n):m.idxOf v < n:=by
 have e:m=m.take n++m.drop n:=(List.take_append_drop n m).symm
 rw [e,List.idxOf_append,if_pos h]
 have:=List.idxOf_lt_length_of_mem h
 rw [List.length_take] at this
 omega
theorem ZHE {m:List Int} {n:Nat} (hn:n < m.length):(ZnN m (m[n]?.getD 0) != (n:Int))=decide (m[n]?.getD 0∈m.take n):=by
 have hg:m[n]?.getD 0=m[n]:=by rw [List.getElem?_eq_getElem hn]; rfl
 rw [hg]
 by_cases h:m[n]∈m.take n
 ·rw [decide_eq_true h,bne_iff_ne]
  intro e
  have hm:m[n]∈m:=List.getElem_mem hn
  unfold ZnN at e
  rw [if_pos hm] at e
  have:=Zm7 h
  omega
 ·rw [decide_eq_false h,ZsJ hn h rfl,bne_self_eq_false]
def okC (m:List Int) (i:Nat):Bool:=!(decide (m[i]?.getD 0 < 1) || decide (8 < m[i]?.getD 0) || decide (m[i]?.getD 0∈m.take i))
def chU (m:List Int):Bool:=(List.range m.length).all (okC m)
def chV (m:List Int):Bool:=decide (1≤m.length) && decide (m.length≤8) && chU m
def chP (m:List Int) (n:Nat):Bool:=(List.range n).all (okC m)
theorem ZuF {m:List Int} {n:Nat} (h:chP m n=true) (h2:okC m n=true):chP m (n+1)=true:=by
 unfold chP at h ⊢
 rw [List.range_succ,List.all_append,h]
 simpa using h2
theorem ZzW {m:List Int} {n:Nat} (h:n < m.length) (h2:okC m n=false):chU m=false:=by
 unfold chU
 rw [List.all_eq_false]
 exact ⟨n,List.mem_range.2 h,by simp [h2]⟩
theorem ZuG {m:List Int} (h:chV m=true):1≤m.length∧m.length≤8∧∀ i,i < m.length→(1≤m[i]?.getD 0∧m[i]?.getD 0≤8)∧m[i]?.getD 0∉m.take i:=by
 simp only [chV,chU,Bool.and_eq_true,decide_eq_true_eq,List.all_eq_true,List.mem_range] at h
 refine ⟨h.1.1,h.1.2,fun i hi=>?_⟩
 have:=h.2 i hi
 simp only [okC,Bool.not_eq_true',Bool.or_eq_false_iff,decide_eq_false_iff_not] at this
 exact ⟨by omega,this.2⟩
def Zco (p:Int):List (List Int):=if p=3 then [[1,2]] else if p=1 then [[3]] else if p=2 then [[3]] else if p=5 then [[7],[1],[3]] else if p=6 then [[8],[2],[3]] else if p=7 then [[5],[1],[3]] else if p=8 then [[6],[2],[3]] else []
def ZbE (a b:List Int):List Int:=a.filter fun p=>decide (p∈b)
def ZBi (to l:List Int):Bool:=l.all fun p=>decide (p∈to)
theorem ZgQ (l to:List Int):decide (((ZbE l to).length:Int) < l.length)=!ZBi to l:=by
 unfold ZbE ZBi
 by_cases h:l.all (fun p=>decide (p∈to))=true
 ·rw [h]
  have:l.filter (fun p=>decide (p∈to))=l:=List.filter_eq_self.2 (List.all_eq_true.1 h)
  rw [this]; simp
 ·have h':l.all (fun p=>decide (p∈to))=false:=by simpa using h
  rw [h']
  have h1:=List.length_filter_le (fun p=>decide (p∈to)) l
  have h2:(l.filter fun p=>decide (p∈to)).length≠l.length:=by
   intro e
   have:=List.length_filter_eq_length_iff.1 e
   rw [← List.all_eq_true] at this
   exact h this
  simp only [Bool.not_false,decide_eq_true_eq]
  omega
def Zqp (A:Nat) (to:List Int) (c:Nat) (v:Int) (M:List Int) (q:Int):List Int:=M.set ((ZnN to q).toNat*A+c) v
def ZuK (A:Nat) (to:List Int) (c:Nat) (p:Int) (M:List Int):List Int :=
 if p∈to then Zqp A to c 32768 M p else match (Zco p).find? (ZBi to) with
  | some l=>l.foldl (Zqp A to c 23170) M
  | none=>M
def dfM (A:Nat) (fr to:List Int):Nat→List Int
 | 0=>List.replicate (A*to.length) 0
 | n+1=>ZuK A to n (fr[n]?.getD 0) (dfM A fr to n)
theorem ZiG (A:Nat) (to:List Int) (c:Nat) (v:Int):∀ (l M:List Int),(l.foldl (Zqp A to c v) M).length=M.length
 | [],M=>rfl
 | q::l,M=>by rw [List.foldl_cons,ZiG A to c v l]; simp [Zqp]
theorem ZDj (A:Nat) (to:List Int) (c:Nat) (p:Int) (M:List Int):(ZuK A to c p M).length=M.length:=by
 unfold ZuK
 split
 ·simp [Zqp]
 ·split
  ·exact ZiG ..
  ·rfl
theorem ZsC (A:Nat) (fr to:List Int):∀ n,(dfM A fr to n).length=A*to.length
 | 0=>by simp [dfM]
 | n+1=>by show (ZuK _ _ _ _ _).length=_; rw [ZDj,ZsC A fr to n]
theorem Zz7 {A:Nat} {to:List Int} {c:Nat} {p:Int} {M:List Int} (h:p∈to):ZuK A to c p M=Zqp A to c 32768 M p:=by unfold ZuK; rw [if_pos h]
theorem Zpv {A:Nat} {to:List Int} {c:Nat} {p:Int} {M l:List Int} (h:p∉to) (hf:(Zco p).find? (ZBi to)=some l):ZuK A to c p M=l.foldl (Zqp A to c 23170) M:=by unfold ZuK; rw [if_neg h,hf]
theorem Zpu {A:Nat} {to:List Int} {c:Nat} {p:Int} {M:List Int} (h:p∉to) (hf:(Zco p).find? (ZBi to)=none):ZuK A to c p M=M:=by unfold ZuK; rw [if_neg h,hf]
theorem ZAp {l:List (List Int)} {f:List Int→Bool} {n:Nat} (hn:n < l.length) (h1:∀ i,i < n→f (l[i]?.getD [])=false) (h2:f l[n]=true):l.find? f=some l[n]:=by
 have e:l=l.take n++l.drop n:=(List.take_append_drop n l).symm
 have hd:l.drop n=l[n]::l.drop (n+1):=List.drop_eq_getElem_cons hn
 have hnone:(l.take n).find? f=none:=by
  rw [List.find?_eq_none]
  intro x hx
  obtain ⟨i,hi,rfl⟩:=List.mem_iff_getElem.1 hx
  rw [List.length_take] at hi
  have:=h1 i (by omega)
  rw [List.getElem?_eq_getElem (by omega)] at this
  rw [List.getElem_take]
  simpa using this
 conv=>lhs; rw [e,hd]
 rw [List.find?_append,hnone,List.find?_cons_of_pos h2]
 rfl
theorem ZAq {l:List (List Int)} {f:List Int→Bool} (h1:∀ i,i < l.length→f (l[i]?.getD [])=false):l.find? f=none:=by
 rw [List.find?_eq_none]
 intro x hx
 obtain ⟨i,hi,rfl⟩:=List.mem_iff_getElem.1 hx
 have:=h1 i hi
 rw [List.getElem?_eq_getElem hi] at this
 simpa using this
def dfE (fr to:List Int):Int:=if (!chV fr || !chV to)=true then 1 else 0
def dfN (fr to l:List Int):Int:=if dfE fr to=0 then (l.length:Int) else 0
def dfO (fr to:List Int):List Int:=if dfE fr to=0 then dfM fr.length fr to fr.length else []
theorem Zkk {A B i g:Nat} (hg:g < A) (hi:i < B):i*A+g < A*B:=by
 have:(i+1)*A≤B*A:=Nat.mul_le_mul_right _ hi
 rw [Nat.add_mul,Nat.one_mul,Nat.mul_comm B] at this
 omega
theorem ZpQ (p:Int):(Zco p).length≤3:=by
 unfold Zco
 repeat' split
 all_goals decide
theorem Zl3 (p:Int):∀ l∈Zco p,l.length≤2:=by
 unfold Zco
 repeat' split
 all_goals decide
theorem ZCg (l:List Int) (v:Int) (hl:l.length≤1000000):Spec Tryz.prog 0 129 [vL (LI .i64 l),vI .i64 v] [] [] (vI .i64 (ZnN l v)) [] []:=by
 refine sE (md:=fun _=>0) (L:=[]) [] 66483 Zb Tryz.func129 rfl rfl rfl ?_
 simp (maxSteps:=1000000) only [↓Zn,Ze,Zd,Zm,gSt,gS0,Ya,Yb,↓reduceIte,reduceCtorEq,Yc,Yd,Ye,Yf,Yg,Yj,Yk,Yl,Ym,Yn,gE1,Tryz.ntmps129,Tryz.results129,gTT]
 refine Zk (fun n=>⟨[(8,vI .i64 (n:Nat))],[],[]⟩) (fun n=>n≤l.length∧v∉l.take n) (fun n=>l.length - n) (·+1) 0 ⟨Nat.zero_le _,by simp⟩ ?_ ?_
 ·simp (maxSteps:=1000000) only [↓Zn,Ze,Zd,Zm,gSt,gS0,Ya,Yb,↓reduceIte,reduceCtorEq,Yc,Yd,Ye,Yf,Yg,Yj,Yk,Yl,Ym,Yn,gE1,Tryz.ntmps129,Tryz.results129,gTT]
  rfl
 rintro n ⟨hn,hnot⟩
 simp (maxSteps:=1000000) only [↓Zn,Ze,Zd,Zm,gSt,gS0,Ya,Yb,↓reduceIte,reduceCtorEq,Yc,Yd,Ye,Yf,Yg,Yj,Yk,Yl,Ym,Yn,gE1,Tryz.ntmps129,Tryz.results129,gTT]
 refine ⟨fun h1=>?_,fun h1=>?_⟩
 ·have hlt:n < l.length:=by have:=of_decide_eq_true h1; omega
  have hg:l[n]?.getD 0=l[n]:=by rw [List.getElem?_eq_getElem hlt]; rfl
  rw [hg]
  refine ⟨by omega,fun h2=>?_,fun h2=>?_⟩
  ·rw [ZsJ hlt hnot (beq_iff_eq.1 h2).symm]
  ·exact ⟨(ZY _ (by omega)).symm,⟨by omega,ZeV hlt hnot (fun e=>(beq_eq_false_iff_ne.1 h2) e.symm)⟩,by omega⟩
 ·have:n=l.length:=by have:=of_decide_eq_false h1; omega
  rw [this,List.take_length] at hnot
  rw [Zm8 hnot]
def ZlH:List V→Zf→Zr→Name→Option Ent
 | [.c (.d (.list q_l)),.c (.d (.int .i64 v))],[],[],_=>some ⟨(Zc q_l).length≤1000000∧q_l=LI .i64 (Zc q_l),vI .i64 (ZnN (Zc q_l) v),[],[]⟩
 | _,_,_,_=>none
def ZoX:=And.intro (@ZlH.eq_1) (@ZlH.eq_1)
theorem ZoY:Snd Tryz.prog 129 ZlH:=by
 intro vs b k n e h hn hp
 unfold ZlH at h
 split at h
 ·cases h; obtain ⟨hp0,hq0⟩:=hp; obtain ⟨_,rfl⟩:=Zq hq0; simp only [Zi,Zo,Zj,Zp] at hp0 ⊢; exact (ZCg _ _ hp0).lift rfl _
 ·cases h
theorem Znx (l:List Int) (v:Int) (hl:l.length≤1000000):Spec Tryz.prog 0 51 [vL (LI .i64 l),vI .i64 v] [] [] (vB (decide (v∈l))) [] []:=by
 refine sE (md:=fun _=>0) (L:=[(129,ZlH)]) [] 19 (Za ZoY Zb) Tryz.func51 rfl rfl rfl ?_
 simp (maxSteps:=1000000) only [↓Zn,Ze,Zd,Zm,gSt,gS0,Ya,Yb,↓reduceIte,reduceCtorEq,Yc,Yd,Ye,Yf,Yg,Yj,Yk,Yl,Ym,Yn,ZoX,gE1,Tryz.ntmps51,Tryz.results51,gTT]
 exact ⟨hl,idx_iff.symm⟩
def ZcA:List V→Zf→Zr→Name→Option Ent
 | [.c (.d (.list q_l)),.c (.d (.int .i64 v))],[],[],_=>some ⟨(Zc q_l).length≤1000000∧q_l=LI .i64 (Zc q_l),vB (decide (v∈(Zc q_l))),[],[]⟩
 | _,_,_,_=>none
def Zat:=And.intro (@ZcA.eq_1) (@ZcA.eq_1)
theorem Zgd:Snd Tryz.prog 51 ZcA:=by
 intro vs b k n e h hn hp
 unfold ZcA at h
 split at h
 ·cases h; obtain ⟨hp0,hq0⟩:=hp; obtain ⟨_,rfl⟩:=Zq hq0; simp only [Zi,Zo,Zj,Zp] at hp0 ⊢; exact (Znx _ _ hp0).lift rfl _
 ·cases h
theorem ZBG (l:List Int) (v:Int) (hl:l.length≤1000000):Spec Tryz.prog 0 83 [vL (LI .i64 l),vI .i64 v] [] [] (vI .i64 (ZnN l v)) [] []:=by
 refine sE (md:=fun _=>0) (L:=[(129,ZlH)]) [] 19 (Za ZoY Zb) Tryz.func83 rfl rfl rfl ?_
 simp (maxSteps:=1000000) only [↓Zn,Ze,Zd,Zm,gSt,gS0,Ya,Yb,↓reduceIte,reduceCtorEq,Yc,Yd,Ye,Yf,Yg,Yj,Yk,Yl,Ym,Yn,ZoX,gE1,Tryz.ntmps83,Tryz.results83,gTT]
 exact hl
def ZnY:List V→Zf→Zr→Name→Option Ent
 | [.c (.d (.list q_l)),.c (.d (.int .i64 v))],[],[],_=>some ⟨(Zc q_l).length≤1000000∧q_l=LI .i64 (Zc q_l),vI .i64 (ZnN (Zc q_l) v),[],[]⟩
 | _,_,_,_=>none
def ZcG:=And.intro (@ZnY.eq_1) (@ZnY.eq_1)
theorem Zyt:Snd Tryz.prog 83 ZnY:=by
 intro vs b k n e h hn hp
 unfold ZnY at h
 split at h
 ·cases h; obtain ⟨hp0,hq0⟩:=hp; obtain ⟨_,rfl⟩:=Zq hq0; simp only [Zi,Zo,Zj,Zp] at hp0 ⊢; exact (ZBG _ _ hp0).lift rfl _
 ·cases h
theorem Ztf (m:List Int) (hl:m.length≤1000000):Spec Tryz.prog 0 80 [vL (LI .i64 m)] [] [] (vB (chV m)) [] []:=by
 refine sE (md:=fun _=>0) (L:=[(51,ZcA)]) [(6,[0,0,0,0,0,8556507165,0,0,0,0,0,6509686813,0])] 4295094301 (Za Zgd Zb) Tryz.func80 rfl rfl rfl ?_
 simp (maxSteps:=1000000) only [↓Zn,Ze,Zd,Zm,gSt,gS0,Ya,Yb,↓reduceIte,reduceCtorEq,Yc,Yd,Ye,Yf,Yg,Yj,Yk,Yl,Ym,Yn,Zat,gE1,Tryz.ntmps80,Tryz.results80,gTT]
 refine ⟨fun h=>?_,fun h=>?_⟩
 ·have:(decide (1≤m.length) && decide (m.length≤8))=false:=by
   simp only [Bool.or_eq_true,decide_eq_true_eq] at h
   simp only [Bool.and_eq_false_iff,decide_eq_false_iff_not]
   omega
  simp [chV,this]
 have hlen:1≤m.length∧m.length≤8:=by
  simp only [Bool.or_eq_false_iff,decide_eq_false_iff_not] at h
  omega
 refine Zk (fun n=>⟨[(15,vI .i64 (n:Nat))],[],[]⟩) (fun n=>n≤m.length∧chP m n=true) (fun n=>m.length - n) (·+1) 0 ⟨Nat.zero_le _,rfl⟩ ?_ ?_
 ·simp (maxSteps:=1000000) only [↓Zn,Ze,Zd,Zm,gSt,gS0,Ya,Yb,↓reduceIte,reduceCtorEq,Yc,Yd,Ye,Yf,Yg,Yj,Yk,Yl,Ym,Yn,Zat,gE1,Tryz.ntmps80,Tryz.results80,gTT]
  rfl
 rintro n ⟨hn,hok⟩
 simp (maxSteps:=1000000) only [↓Zn,Ze,Zd,Zm,gSt,gS0,Ya,Yb,↓reduceIte,reduceCtorEq,Yc,Yd,Ye,Yf,Yg,Yj,Yk,Yl,Ym,Yn,Zat,gE1,Tryz.ntmps80,Tryz.results80,gTT]
 refine ⟨fun h1=>?_,fun h1=>?_⟩
 ·have hlt:n < m.length:=by have:=of_decide_eq_true h1; omega
  have hg:m[n]?.getD 0=m[n]:=by rw [List.getElem?_eq_getElem hlt]; rfl
  have hn0:n - 0=n:=rfl
  simp only [hg,hn0]
  refine ⟨by omega,fun _=>by omega,fun _=>by simp only [List.length_take]; omega,fun h2=>?_,fun h2=>?_⟩
  ·have:chU m=false:=ZzW hlt (by unfold okC; rw [hg,h2]; rfl)
   simp [chV,this]
  ·exact ⟨(ZY _ (by omega)).symm,⟨by omega,ZuF hok (by unfold okC; rw [hg,h2]; rfl)⟩,by omega⟩
 ·have:n=m.length:=by have:=of_decide_eq_false h1; omega
  rw [this] at hok
  have hu:chU m=true:=hok
  simp [chV,hlen.1,hlen.2,hu]
def ZdS:List V→Zf→Zr→Name→Option Ent
 | [.c (.d (.list q_m))],[],[],_=>some ⟨(Zc q_m).length≤1000000∧q_m=LI .i64 (Zc q_m),vB (chV (Zc q_m)),[],[]⟩
 | _,_,_,_=>none
def Zad:=And.intro (@ZdS.eq_1) (@ZdS.eq_1)
theorem ZfD:Snd Tryz.prog 80 ZdS:=by
 intro vs b k n e h hn hp
 unfold ZdS at h
 split at h
 ·cases h; obtain ⟨hp0,hq0⟩:=hp; obtain ⟨_,rfl⟩:=Zq hq0; simp only [Zi,Zo,Zj,Zp] at hp0 ⊢; exact (Ztf _ hp0).lift rfl _
 ·cases h
theorem ZxE (p:Int):Spec Tryz.prog 0 84 [vI .i64 p] [] [] (vL (LL .i64 (Zco p))) [] []:=by
 refine sE (md:=fun _=>0) (L:=[]) [] 2181570845 Zb Tryz.func84 rfl rfl rfl ?_
 simp (maxSteps:=1000000) only [↓Zn,Ze,Zd,Zm,gSt,gS0,Ya,Yb,↓reduceIte,reduceCtorEq,Yc,Yd,Ye,Yf,Yg,Yj,Yk,Yl,Ym,Yn,gE1,Tryz.ntmps84,Tryz.results84,gTT]
 have key:p=3∨p=1∨p=2∨p=5∨p=6∨p=7∨p=8∨(p≠3∧p≠1∧p≠2∧p≠5∧p≠6∧p≠7∧p≠8):=by omega
 rcases key with rfl | rfl | rfl | rfl | rfl | rfl | rfl | ⟨h3,h1,h2,h5,h6,h7,h8⟩
 all_goals first
  | (simp [Zco,LL,LI]; done)
  | simp [Zco,LL,LI,h3,h1,h2,h5,h6,h7,h8]
def Zjd:List V→Zf→Zr→Name→Option Ent
 | [.c (.d (.int .i64 p))],[],[],_=>some ⟨True,vL (LL .i64 (Zco p)),[],[]⟩
 | _,_,_,_=>none
def Zb0:=And.intro (@Zjd.eq_1) (@Zjd.eq_1)
theorem Zv3:Snd Tryz.prog 84 Zjd:=by
 intro vs b k n e h hn hp
 unfold Zjd at h
 split at h
 ·cases h; exact (ZxE _).lift rfl _
 ·cases h
theorem Ztc (a b:List Int) (ha:a.length≤1000000) (hb:b.length≤1000000):Spec Tryz.prog 0 85 [vL (LI .i64 a),vL (LI .i64 b)] [] [] (vL (LI .i64 (ZbE a b))) [] []:=by
 refine sE (md:=fun _=>0) (L:=[(51,ZcA)]) [] 69555 (Za Zgd Zb) Tryz.func85 rfl rfl rfl ?_
 simp (maxSteps:=1000000) only [↓Zn,Ze,Zd,Zm,gSt,gS0,Ya,Yb,↓reduceIte,reduceCtorEq,Yc,Yd,Ye,Yf,Yg,Yj,Yk,Yl,Ym,Yn,Zat,gE1,Tryz.ntmps85,Tryz.results85,gTT]
 refine Ze5 5 1 ⟨1,99⟩ rfl (by simp (maxSteps:=1000000) only [↓Zn,Ze,Zd,Zm,gSt,gS0,Ya,Yb,↓reduceIte,reduceCtorEq,Yc,Yd,Ye,Yf,Yg,Yj,Yk,Yl,Ym,Yn,Zat,gE1,Tryz.ntmps85,Tryz.results85,gTT]) (Nat.le_refl _) ?_
 simp (maxSteps:=1000000) only [↓Zn,Ze,Zd,Zm,gSt,gS0,Ya,Yb,↓reduceIte,reduceCtorEq,Yc,Yd,Ye,Yf,Yg,Yj,Yk,Yl,Ym,Yn,Zat,gE1,Tryz.ntmps85,Tryz.results85,gTT]
 refine Zk (fun n=>⟨[(10,vI .i64 (n:Nat)),(5,.c (.own ⟨1,99⟩ (LI .i64 (ZbE (a.take n) b))))],[],[(⟨1,99⟩,⟨false,1,LI .i64 (ZbE (a.take n) b)⟩)]⟩) (fun n=>n≤a.length) (fun n=>a.length - n) (·+1) 0 (Nat.zero_le _) ?_ ?_
 ·simp (maxSteps:=1000000) only [↓Zn,Ze,Zd,Zm,gSt,gS0,Ya,Yb,↓reduceIte,reduceCtorEq,Yc,Yd,Ye,Yf,Yg,Yj,Yk,Yl,Ym,Yn,Zat,gE1,Tryz.ntmps85,Tryz.results85,gTT]
  exact ⟨⟨rfl,rfl⟩,rfl⟩
 intro n hn
 simp (maxSteps:=1000000) only [↓Zn,Ze,Zd,Zm,gSt,gS0,Ya,Yb,↓reduceIte,reduceCtorEq,Yc,Yd,Ye,Yf,Yg,Yj,Yk,Yl,Ym,Yn,Zat,gE1,Tryz.ntmps85,Tryz.results85,gTT]
 have hcl:(ZbE (a.take n) b).length≤n:=by
  unfold ZbE
  have:=List.length_filter_le (fun p=>decide (p∈b)) (a.take n)
  rw [List.length_take] at this
  omega
 refine ⟨fun h1=>?_,fun h1=>?_⟩
 ·have hlt:n < a.length:=by have:=of_decide_eq_true h1; omega
  have hs:ZbE (a.take (n+1)) b=ZbE (a.take n) b++(if a[n]∈b then [a[n]] else []):=by
   unfold ZbE
   rw [List.take_add_one,List.getElem?_eq_getElem hlt,List.filter_append]
   congr 1
   simp only [Option.toList_some,List.filter_cons,List.filter_nil,decide_eq_true_eq]
  rw [List.getElem?_eq_getElem hlt,Option.getD_some,hs]
  refine ⟨by omega,hb,fun h2=>?_,fun h2=>?_⟩
  ·rw [if_pos (of_decide_eq_true h2)]
   exact ⟨by unfold Zab; omega,⟨⟨(ZY _ (by omega)).symm,rfl⟩,rfl⟩,by omega,by omega⟩
  ·rw [if_neg (of_decide_eq_false h2),List.append_nil]
   exact ⟨⟨⟨(ZY _ (by omega)).symm,rfl⟩,rfl⟩,by omega,by omega⟩
 ·have:n=a.length:=by have:=of_decide_eq_false h1; omega
  rw [this,List.take_length]
def Zgb:List V→Zf→Zr→Name→Option Ent
 | [.c (.d (.list q_a)),.c (.d (.list q_b))],[],[],_=>some ⟨(Zc q_a).length≤1000000∧(Zc q_b).length≤1000000∧q_a=LI .i64 (Zc q_a)∧q_b=LI .i64 (Zc q_b),vL (LI .i64 (ZbE (Zc q_a) (Zc q_b))),[],[]⟩
 | _,_,_,_=>none
def Zbm:=And.intro (@Zgb.eq_1) (@Zgb.eq_1)
theorem ZrE:Snd Tryz.prog 85 Zgb:=by
 intro vs b k n e h hn hp
 unfold Zgb at h
 split at h
 ·cases h; obtain ⟨hp0,hp1,hq0,hq1⟩:=hp; obtain ⟨_,rfl⟩:=Zq hq0; obtain ⟨_,rfl⟩:=Zq hq1; simp only [Zi,Zo,Zj,Zp] at hp0 hp1 ⊢; exact (Ztc _ _ hp0 hp1).lift rfl _
 ·cases h
theorem ZCa (l:List Int) (v:Int) (hl:l.length≤1000000):Spec Tryz.prog 0 154 [vL (LI .i64 l),vI .i64 v] [] [] (vI .i64 (ZnN l v)) [] []:=by
 refine sE (md:=fun _=>0) (L:=[]) [] 67571 Zb Tryz.func154 rfl rfl rfl ?_
 simp (maxSteps:=1000000) only [↓Zn,Ze,Zd,Zm,gSt,gS0,Ya,Yb,↓reduceIte,reduceCtorEq,Yc,Yd,Ye,Yf,Yg,Yj,Yk,Yl,Ym,Yn,gE1,Tryz.ntmps154,Tryz.results154,gTT]
 refine Zk (fun n=>⟨[(9,vI .i64 (n:Nat))],[],[]⟩) (fun n=>n≤l.length∧v∉l.take n) (fun n=>l.length - n) (·+1) 0 ⟨Nat.zero_le _,by simp⟩ ?_ ?_
 ·simp (maxSteps:=1000000) only [↓Zn,Ze,Zd,Zm,gSt,gS0,Ya,Yb,↓reduceIte,reduceCtorEq,Yc,Yd,Ye,Yf,Yg,Yj,Yk,Yl,Ym,Yn,gE1,Tryz.ntmps154,Tryz.results154,gTT]
  rfl
 rintro n ⟨hn,hnot⟩
 simp (maxSteps:=1000000) only [↓Zn,Ze,Zd,Zm,gSt,gS0,Ya,Yb,↓reduceIte,reduceCtorEq,Yc,Yd,Ye,Yf,Yg,Yj,Yk,Yl,Ym,Yn,gE1,Tryz.ntmps154,Tryz.results154,gTT]
 refine ⟨fun h1=>?_,fun h1=>?_⟩
 ·have hlt:n < l.length:=by have:=of_decide_eq_true h1; omega
  have hg:l[n]?.getD 0=l[n]:=by rw [List.getElem?_eq_getElem hlt]; rfl
  rw [hg]
  refine ⟨by omega,fun h2=>?_,fun h2=>?_⟩
  ·rw [ZsJ hlt hnot (beq_iff_eq.1 h2)]
  ·exact ⟨(ZY _ (by omega)).symm,⟨by omega,ZeV hlt hnot (beq_eq_false_iff_ne.1 h2)⟩,by omega⟩
 ·have:n=l.length:=by have:=of_decide_eq_false h1; omega
  rw [this,List.take_length] at hnot
  rw [Zm8 hnot]
def ZjB:List V→Zf→Zr→Name→Option Ent
 | [.c (.d (.list q_l)),.c (.d (.int .i64 v))],[],[],_=>some ⟨(Zc q_l).length≤1000000∧q_l=LI .i64 (Zc q_l),vI .i64 (ZnN (Zc q_l) v),[],[]⟩
 | _,_,_,_=>none
def Zak:=And.intro (@ZjB.eq_1) (@ZjB.eq_1)
theorem ZjC:Snd Tryz.prog 154 ZjB:=by
 intro vs b k n e h hn hp
 unfold ZjB at h
 split at h
 ·cases h; obtain ⟨hp0,hq0⟩:=hp; obtain ⟨_,rfl⟩:=Zq hq0; simp only [Zi,Zo,Zj,Zp] at hp0 ⊢; exact (ZCa _ _ hp0).lift rfl _
 ·cases h
theorem Zq0 (m:List Int) (hl:m.length≤1000000):Spec Tryz.prog 0 153 [vL (LI .i64 m)] [] [] (vB (chV m)) [] []:=by
 refine sE (md:=fun _=>0) (L:=[(154,ZjB)]) [(4,[0,0,0,0,0,33423869,0,0,0,0,0,25428477,0])] 16777725 (Za ZjC Zb) Tryz.func153 rfl rfl rfl ?_
 simp (maxSteps:=1000000) only [↓Zn,Ze,Zd,Zm,gSt,gS0,Ya,Yb,↓reduceIte,reduceCtorEq,Yc,Yd,Ye,Yf,Yg,Yj,Yk,Yl,Ym,Yn,Zak,gE1,Tryz.ntmps153,Tryz.results153,gTT]
 refine Zk (fun n=>⟨[(7,vI .i64 (n:Nat))],[],[]⟩) (fun n=>n≤m.length∧chP m n=true) (fun n=>m.length - n) (·+1) 0 ⟨Nat.zero_le _,rfl⟩ ?_ ?_
 ·simp (maxSteps:=1000000) only [↓Zn,Ze,Zd,Zm,gSt,gS0,Ya,Yb,↓reduceIte,reduceCtorEq,Yc,Yd,Ye,Yf,Yg,Yj,Yk,Yl,Ym,Yn,Zak,gE1,Tryz.ntmps153,Tryz.results153,gTT]
  rfl
 rintro n ⟨hn,hok⟩
 simp (maxSteps:=1000000) only [↓Zn,Ze,Zd,Zm,gSt,gS0,Ya,Yb,↓reduceIte,reduceCtorEq,Yc,Yd,Ye,Yf,Yg,Yj,Yk,Yl,Ym,Yn,Zak,gE1,Tryz.ntmps153,Tryz.results153,gTT]
 refine ⟨fun h1=>?_,fun h1=>?_⟩
 ·have hlt:n < m.length:=by have:=of_decide_eq_true h1; omega
  have hg:m[n]?.getD 0=m[n]:=by rw [List.getElem?_eq_getElem hlt]; rfl
  have hne:=ZHE hlt
  rw [hg] at hne
  simp only [hg,hne]
  refine ⟨by omega,fun _=>by omega,fun h2=>?_,fun h2=>?_⟩
  ·have:chU m=false:=ZzW hlt (by unfold okC; rw [hg,h2]; rfl)
   simp [chV,this]
  ·exact ⟨(ZY _ (by omega)).symm,⟨by omega,ZuF hok (by unfold okC; rw [hg,h2]; rfl)⟩,by omega⟩
 ·have:n=m.length:=by have:=of_decide_eq_false h1; omega
  rw [this] at hok
  have hu:chU m=true:=hok
  rw [chV,hu,Bool.and_true]
  congr 1 <;> (congr 1; simp only [eq_iff_iff]; omega)
def ZdE:List V→Zf→Zr→Name→Option Ent
 | [.c (.d (.list q_m))],[],[],_=>some ⟨(Zc q_m).length≤1000000∧q_m=LI .i64 (Zc q_m),vB (chV (Zc q_m)),[],[]⟩
 | _,_,_,_=>none
def ZaF:=And.intro (@ZdE.eq_1) (@ZdE.eq_1)
theorem Zh7:Snd Tryz.prog 153 ZdE:=by
 intro vs b k n e h hn hp
 unfold ZdE at h
 split at h
 ·cases h; obtain ⟨hp0,hq0⟩:=hp; obtain ⟨_,rfl⟩:=Zq hq0; simp only [Zi,Zo,Zj,Zp] at hp0 ⊢; exact (Zq0 _ hp0).lift rfl _
 ·cases h
theorem ZCs (p:Int):Spec Tryz.prog 0 155 [vI .i64 p] [] [] (vL (LL .i64 (Zco p))) [] []:=by
 refine sE (md:=fun _=>0) (L:=[]) [] 2181570845 Zb Tryz.func155 rfl rfl rfl ?_
 simp (maxSteps:=1000000) only [↓Zn,Ze,Zd,Zm,gSt,gS0,Ya,Yb,↓reduceIte,reduceCtorEq,Yc,Yd,Ye,Yf,Yg,Yj,Yk,Yl,Ym,Yn,gE1,Tryz.ntmps155,Tryz.results155,gTT]
 have key:p=3∨p=1∨p=2∨p=5∨p=6∨p=7∨p=8∨(p≠3∧p≠1∧p≠2∧p≠5∧p≠6∧p≠7∧p≠8):=by omega
 rcases key with rfl | rfl | rfl | rfl | rfl | rfl | rfl | ⟨h3,h1,h2,h5,h6,h7,h8⟩
 all_goals first
  | (simp [Zco,LL,LI]; done)
  | simp [Zco,LL,LI,h3,h1,h2,h5,h6,h7,h8]
def Zpb:List V→Zf→Zr→Name→Option Ent
 | [.c (.d (.int .i64 p))],[],[],_=>some ⟨True,vL (LL .i64 (Zco p)),[],[]⟩
 | _,_,_,_=>none
def ZcJ:=And.intro (@Zpb.eq_1) (@Zpb.eq_1)
theorem Zzi:Snd Tryz.prog 155 Zpb:=by
 intro vs b k n e h hn hp
 unfold Zpb at h
 split at h
 ·cases h; exact (ZCs _).lift rfl _
 ·cases h
theorem ZqZ (a b:List Int) (ha:a.length≤1000000) (hb:b.length≤1000000):Spec Tryz.prog 0 156 [vL (LI .i64 a),vL (LI .i64 b)] [] [] (vL (LI .i64 (ZbE a b))) [] []:=by
 refine sE (md:=fun _=>0) (L:=[(154,ZjB)]) [] 135091 (Za ZjC Zb) Tryz.func156 rfl rfl rfl ?_
 simp (maxSteps:=1000000) only [↓Zn,Ze,Zd,Zm,gSt,gS0,Ya,Yb,↓reduceIte,reduceCtorEq,Yc,Yd,Ye,Yf,Yg,Yj,Yk,Yl,Ym,Yn,Zak,gE1,Tryz.ntmps156,Tryz.results156,gTT]
 refine Ze5 5 1 ⟨1,99⟩ rfl (by simp (maxSteps:=1000000) only [↓Zn,Ze,Zd,Zm,gSt,gS0,Ya,Yb,↓reduceIte,reduceCtorEq,Yc,Yd,Ye,Yf,Yg,Yj,Yk,Yl,Ym,Yn,Zak,gE1,Tryz.ntmps156,Tryz.results156,gTT]) (Nat.le_refl _) ?_
 simp (maxSteps:=1000000) only [↓Zn,Ze,Zd,Zm,gSt,gS0,Ya,Yb,↓reduceIte,reduceCtorEq,Yc,Yd,Ye,Yf,Yg,Yj,Yk,Yl,Ym,Yn,Zak,gE1,Tryz.ntmps156,Tryz.results156,gTT]
 refine Zk (fun n=>⟨[(10,vI .i64 (n:Nat)),(5,.c (.own ⟨1,99⟩ (LI .i64 (ZbE (a.take n) b))))],[],[(⟨1,99⟩,⟨false,1,LI .i64 (ZbE (a.take n) b)⟩)]⟩) (fun n=>n≤a.length) (fun n=>a.length - n) (·+1) 0 (Nat.zero_le _) ?_ ?_
 ·simp (maxSteps:=1000000) only [↓Zn,Ze,Zd,Zm,gSt,gS0,Ya,Yb,↓reduceIte,reduceCtorEq,Yc,Yd,Ye,Yf,Yg,Yj,Yk,Yl,Ym,Yn,Zak,gE1,Tryz.ntmps156,Tryz.results156,gTT]
  exact ⟨⟨rfl,rfl⟩,rfl⟩
 intro n hn
 simp (maxSteps:=1000000) only [↓Zn,Ze,Zd,Zm,gSt,gS0,Ya,Yb,↓reduceIte,reduceCtorEq,Yc,Yd,Ye,Yf,Yg,Yj,Yk,Yl,Ym,Yn,Zak,gE1,Tryz.ntmps156,Tryz.results156,gTT]
 have hcl:(ZbE (a.take n) b).length≤n:=by
  unfold ZbE
  have:=List.length_filter_le (fun p=>decide (p∈b)) (a.take n)
  rw [List.length_take] at this
  omega
 refine ⟨fun h1=>?_,fun h1=>?_⟩
 ·have hlt:n < a.length:=by have:=of_decide_eq_true h1; omega
  have hs:ZbE (a.take (n+1)) b=ZbE (a.take n) b++(if a[n]∈b then [a[n]] else []):=by
   unfold ZbE
   rw [List.take_add_one,List.getElem?_eq_getElem hlt,List.filter_append]
   congr 1
   simp only [Option.toList_some,List.filter_cons,List.filter_nil,decide_eq_true_eq]
  rw [List.getElem?_eq_getElem hlt,Option.getD_some,hs]
  refine ⟨by omega,hb,fun h2=>?_,fun h2=>?_⟩
  all_goals rw [idx_iff] at h2
  ·rw [if_pos (of_decide_eq_true h2)]
   exact ⟨by unfold Zab; omega,⟨⟨(ZY _ (by omega)).symm,rfl⟩,rfl⟩,by omega,by omega⟩
  ·rw [if_neg (of_decide_eq_false h2),List.append_nil]
   exact ⟨⟨⟨(ZY _ (by omega)).symm,rfl⟩,rfl⟩,by omega,by omega⟩
 ·have:n=a.length:=by have:=of_decide_eq_false h1; omega
  rw [this,List.take_length]
def ZeI:List V→Zf→Zr→Name→Option Ent
 | [.c (.d (.list q_a)),.c (.d (.list q_b))],[],[],_=>some ⟨(Zc q_a).length≤1000000∧(Zc q_b).length≤1000000∧q_a=LI .i64 (Zc q_a)∧q_b=LI .i64 (Zc q_b),vL (LI .i64 (ZbE (Zc q_a) (Zc q_b))),[],[]⟩
 | _,_,_,_=>none
def Za0:=And.intro (@ZeI.eq_1) (@ZeI.eq_1)
theorem ZoF:Snd Tryz.prog 156 ZeI:=by
 intro vs b k n e h hn hp
 unfold ZeI at h
 split at h
 ·cases h; obtain ⟨hp0,hp1,hq0,hq1⟩:=hp; obtain ⟨_,rfl⟩:=Zq hq0; obtain ⟨_,rfl⟩:=Zq hq1; simp only [Zi,Zo,Zj,Zp] at hp0 hp1 ⊢; exact (ZqZ _ _ hp0 hp1).lift rfl _
 ·cases h
theorem Zpp (A g:Nat) {B:Nat} {x:Int} (hA:A≤8) (hg:g≤8) (hB:B≤8) (hx:0≤x) (hi:x.toNat < B):IntKind.i64.wrap (IntKind.i64.wrap (x*(A:Int))+(g:Int))=((x.toNat*A+g:Nat):Int):=by
 have e:x=(x.toNat:Int):=by omega
 have h8:x.toNat*A≤8*8:=Nat.mul_le_mul (by omega) hA
 have e1:x*(A:Int)=((x.toNat*A:Nat):Int):=by rw [Int.natCast_mul,← e]
 rw [e1,IntWalk.i64_in ((x.toNat*A:Nat):Int) (by omega),IntWalk.i64_in _ (by omega)]
 omega
theorem ZBK (fr to:List Int) (hf:fr.length≤1000000) (ht:to.length≤1000000):Spec Tryz.prog 0 29 [vL (LI .i64 fr),vL (LI .i64 to)] [] [] (.tup [.agg [.int .i64 (dfN fr to fr),.int .i64 (dfN fr to to),.list (LI .i64 (dfO fr to))],.int .i64 (dfE fr to)]) [] []:=by
 refine spec_of_E (X:=⟨Tryz.prog,tt,Tryz.f29.ntmps,1,fun _=>0,(tab [(80,ZdS),(81,Zi6),(82,ZjE),(83,ZnY),(84,Zjd),(85,Zgb)])⟩) (M:=[(1000022,[5002])]) (m:=142979159500114647027) rfl rfl ⟨Z7,ZI (Za ZfD (Za Zv0 (Za ZlE (Za Zyt (Za Zv3 (Za ZrE Zb)))))) _ rfl rfl⟩ Zs Tryz.func29 rfl (by decide) (by show (2:Nat)≤_; exact Nat.le_of_ble_eq_true rfl) ⟨by simp [V.has,C.has,ZF],by simp [C.has],by simp⟩ ?_
 simp (maxSteps:=1000000) only [↓Zn,Ze,Zd,Zm,gSt,gS0,Ya,Yb,↓reduceIte,reduceCtorEq,Yc,Yd,Ye,Yf,Yg,Yj,Yk,Yl,Ym,Yn,Zad,ZbZ,Zb1,ZcG,Zb0,Zbm,gE1,Tryz.ntmps29,Tryz.results29,gTT]
 refine ⟨hf,fun _=>ht,fun h=>?_,fun h=>?_⟩
 ·have e:dfE fr to=1:=by simp [dfE,h]
  simp [dfN,dfO,e,Zw]
 have e:dfE fr to=0:=by simp [dfE,h]
 have eN:∀ l,dfN fr to l=(l.length:Int):=fun l=>by simp [dfN,e]
 have eO:dfO fr to=dfM fr.length fr to fr.length:=by simp [dfO,e]
 simp only [Bool.or_eq_false_iff,Bool.not_eq_false'] at h
 have hF:=ZuG h.1
 have hT:=ZuG h.2
 rw [eN,eN,eO,e]
 refine ⟨by omega,⟨by omega,by omega,by rw [← Int.natCast_mul,Int.toNat_natCast]⟩,?_⟩
 rw [← Int.natCast_mul,Int.toNat_natCast]
 have hF8:fr.length≤8:=hF.2.1
 have hT8:to.length≤8:=hT.2.1
 refine Zk (fun g=>⟨[(33,vI .i64 (g:Nat))],[],[(⟨1,28⟩,⟨true,1,LI .i64 (dfM fr.length fr to g)⟩)]⟩) (fun g=>g≤fr.length) (fun g=>fr.length - g) (·+1) 0 (Nat.zero_le _) ?_ ?_
 ·simp (maxSteps:=1000000) only [↓Zn,Ze,Zd,Zm,gSt,gS0,Ya,Yb,↓reduceIte,reduceCtorEq,Yc,Yd,Ye,Yf,Yg,Yj,Yk,Yl,Ym,Yn,Zad,ZbZ,Zb1,ZcG,Zb0,Zbm,gE1,Tryz.ntmps29,Tryz.results29,gTT]
  exact ⟨rfl,rfl⟩
 intro g hg
 simp (maxSteps:=1000000) only [↓Zn,Ze,Zd,Zm,gSt,gS0,Ya,Yb,↓reduceIte,reduceCtorEq,Yc,Yd,Ye,Yf,Yg,Yj,Yk,Yl,Ym,Yn,Zad,ZbZ,Zb1,ZcG,Zb0,Zbm,gE1,Tryz.ntmps29,Tryz.results29,gTT]
 have hlen:=ZsC fr.length fr to g
 refine ⟨fun h1=>?_,fun h1=>?_⟩
 ·have hgl:g < fr.length:=by have:=of_decide_eq_true h1; omega
  generalize hp:fr[g]?.getD 0=p
  generalize hM:dfM fr.length fr to g=M at *
  have hstep:dfM fr.length fr to (g+1)=ZuK fr.length to g p M:=by rw [← hp,← hM]; rfl
  refine ⟨by omega,ht,fun h2=>?_,fun h2=>?_⟩
  ·rw [idx_iff,decide_eq_true_eq] at h2
   have hi:=ZpU h2
   have hb:=Zkk (A:=fr.length) hgl hi.2.1
   rw [hstep,Zz7 h2]
   exact ⟨by omega,by omega,by omega,⟨(ZY _ (by omega)).symm,rfl⟩,by omega,by omega⟩
  rw [idx_iff,decide_eq_false_iff_not] at h2
  have hl3:=ZpQ p
  have hl2:=Zl3 p
  generalize hh:Zco p=H at *
  refine Zk (fun j=>⟨[(52,vI .i64 (j:Nat))],[],[]⟩) (fun j=>j≤H.length∧∀ i,i < j→ZBi to (H[i]?.getD [])=false) (fun j=>H.length - j) (·+1) 0 ⟨Nat.zero_le _,fun i hi=>absurd hi (Nat.not_lt_zero _)⟩ ?_ ?_
  ·simp (maxSteps:=1000000) only [↓Zn,Ze,Zd,Zm,gSt,gS0,Ya,Yb,↓reduceIte,reduceCtorEq,Yc,Yd,Ye,Yf,Yg,Yj,Yk,Yl,Ym,Yn,Zad,ZbZ,Zb1,ZcG,Zb0,Zbm,gE1,Tryz.ntmps29,Tryz.results29,gTT]
   rfl
  rintro j ⟨hj,hno⟩
  simp (maxSteps:=1000000) only [↓Zn,Ze,Zd,Zm,gSt,gS0,Ya,Yb,↓reduceIte,reduceCtorEq,Yc,Yd,Ye,Yf,Yg,Yj,Yk,Yl,Ym,Yn,Zad,ZbZ,Zb1,ZcG,Zb0,Zbm,gE1,Tryz.ntmps29,Tryz.results29,gTT]
  refine ⟨fun h3=>?_,fun h3=>?_⟩
  ·have hjl:j < H.length:=by have:=of_decide_eq_true h3; omega
   have hgj:H[j]?.getD []=H[j]:=by rw [List.getElem?_eq_getElem hjl]; rfl
   rw [hgj]
   have hl:=hl2 _ (List.getElem_mem hjl)
   generalize hL:H[j]=L at *
   refine ⟨by omega,⟨by omega,ht⟩,fun h4=>?_,fun h4=>?_⟩
   ·rw [ZgQ] at h4
    have h4':ZBi to L=false:=by simpa using h4
    refine ⟨(ZY _ (by omega)).symm,⟨by omega,fun i hi=>?_⟩,by omega⟩
    by_cases hij:i=j
    ·rw [hij,hgj]; exact h4'
    ·exact hno i (by omega)
   rw [ZgQ] at h4
   have h4':ZBi to L=true:=by simpa using h4
   have hq:∀ q∈L,q∈to:=fun q hq=>of_decide_eq_true (List.all_eq_true.1 h4' q hq)
   have hcol:ZuK fr.length to g p M=L.foldl (Zqp fr.length to g 23170) M:=by
    refine Zpv h2 ?_
    rw [hh,← hL]
    exact ZAp hjl hno (hL ▸ h4')
   refine Zk (fun i=>⟨[(65,vI .i64 (i:Nat))],[],[(⟨1,28⟩,⟨true,1,LI .i64 ((L.take i).foldl (Zqp fr.length to g 23170) M)⟩)]⟩) (fun i=>i≤L.length) (fun i=>L.length - i) (·+1) 0 (Nat.zero_le _) ?_ ?_
   ·simp (maxSteps:=1000000) only [↓Zn,Ze,Zd,Zm,gSt,gS0,Ya,Yb,↓reduceIte,reduceCtorEq,Yc,Yd,Ye,Yf,Yg,Yj,Yk,Yl,Ym,Yn,Zad,ZbZ,Zb1,ZcG,Zb0,Zbm,gE1,Tryz.ntmps29,Tryz.results29,gTT]
    exact ⟨rfl,rfl⟩
   intro i hi
   simp (maxSteps:=1000000) only [↓Zn,Ze,Zd,Zm,gSt,gS0,Ya,Yb,↓reduceIte,reduceCtorEq,Yc,Yd,Ye,Yf,Yg,Yj,Yk,Yl,Ym,Yn,Zad,ZbZ,Zb1,ZcG,Zb0,Zbm,gE1,Tryz.ntmps29,Tryz.results29,gTT]
   have hfl:=ZiG fr.length to g 23170 (L.take i) M
   refine ⟨fun h5=>?_,fun h5=>?_⟩
   ·have hil:i < L.length:=by have:=of_decide_eq_true h5; omega
    have hgi:L[i]?.getD 0=L[i]:=by rw [List.getElem?_eq_getElem hil]; rfl
    have hqi:=ZpU (hq _ (List.getElem_mem hil))
    have hb:=Zkk (A:=fr.length) hgl hqi.2.1
    have hf1:(L.take (i+1)).foldl (Zqp fr.length to g 23170) M=Zqp fr.length to g 23170 ((L.take i).foldl (Zqp fr.length to g 23170) M) L[i]:=by
     rw [List.take_add_one,List.getElem?_eq_getElem hil,List.foldl_append]
     rfl
    rw [hgi,hf1]
    exact ⟨by omega,ht,by omega,by omega,by omega,⟨(ZY _ (by omega)).symm,rfl⟩,by omega,by omega⟩
   ·have:i=L.length:=by have:=of_decide_eq_false h5; omega
    rw [this,List.take_length,← hcol,hstep]
    exact ⟨⟨(ZY _ (by omega)).symm,rfl⟩,by omega,by omega⟩
  ·have:j=H.length:=by have:=of_decide_eq_false h3; omega
   rw [this] at hno
   rw [hstep,Zpu h2 (by rw [hh]; exact ZAq hno)]
   exact ⟨⟨(ZY _ (by omega)).symm,rfl⟩,by omega,by omega⟩
 ·have:g=fr.length:=by have:=of_decide_eq_false h1; omega
  rw [this] at hlen ⊢
  exact ⟨hlen.symm,rfl⟩
def Zls:List V→Zf→Zr→Name→Option Ent
 | [.c (.d (.list q_fr)),.c (.d (.list q_to))],[],[],_=>some ⟨(Zc q_fr).length≤1000000∧(Zc q_to).length≤1000000∧q_fr=LI .i64 (Zc q_fr)∧q_to=LI .i64 (Zc q_to),.tup [.agg [.int .i64 (dfN (Zc q_fr) (Zc q_to) (Zc q_fr)),.int .i64 (dfN (Zc q_fr) (Zc q_to) (Zc q_to)),.list (LI .i64 (dfO (Zc q_fr) (Zc q_to)))],.int .i64 (dfE (Zc q_fr) (Zc q_to))],[],[]⟩
 | _,_,_,_=>none
def ZbK:=And.intro (@Zls.eq_1) (@Zls.eq_1)
theorem Zn4:Snd Tryz.prog 29 Zls:=by
 intro vs b k n e h hn hp
 unfold Zls at h
 split at h
 ·cases h; obtain ⟨hp0,hp1,hq0,hq1⟩:=hp; obtain ⟨_,rfl⟩:=Zq hq0; obtain ⟨_,rfl⟩:=Zq hq1; simp only [Zi,Zo,Zj,Zp] at hp0 hp1 ⊢; exact (ZBK _ _ hp0 hp1).lift rfl _
 ·cases h
theorem ZxU (fr to:List Int) (hf:fr.length≤1000000) (ht:to.length≤1000000):Spec Tryz.prog 0 78 [vL (LI .i64 fr),vL (LI .i64 to)] [] [] (.tup [.agg [.int .i64 (dfN fr to fr),.int .i64 (dfN fr to to),.list (LI .i64 (dfO fr to))],.int .i64 (dfE fr to)]) [] []:=by
 refine spec_of_E (X:=⟨Tryz.prog,tt,Tryz.f78.ntmps,1,fun s=>if s=32 then 2 else 0,(tab [(153,ZdE),(154,ZjB),(155,Zpb),(156,ZeI)])⟩) (M:=[(3,[0,0,0,0,0,9150665959929574075379,0,0,0,0,0,9150665959921168690163,0]),(17,[0,0,0,0,0,76851498075214779496016883,0,0,0,0,0,0]),(1000021,[5002])]) (m:=9150665959912578755571) rfl rfl ⟨Z7,ZI (Za Zh7 (Za ZjC (Za Zzi (Za ZoF Zb)))) _ rfl rfl⟩ Zs Tryz.func78 rfl (by decide) (by show (2:Nat)≤_; exact Nat.le_of_ble_eq_true rfl) ⟨by simp [V.has,C.has,ZF],by simp [C.has],by simp⟩ ?_
 simp (maxSteps:=1000000) only [↓Zn,Ze,Zd,Zm,gSt,gS0,Ya,Yb,↓reduceIte,reduceCtorEq,Yc,Yd,Ye,Yf,Yg,Yj,Yk,Yl,Ym,Yn,ZaF,Zak,ZcJ,Za0,gE1,Tryz.ntmps78,Tryz.results78,gTT]
 refine ⟨hf,fun _=>ht,fun h=>?_,fun h=>?_⟩
 ·have e:dfE fr to=1:=by simp [dfE,h]
  simp [dfN,dfO,e,Zw]
 have e:dfE fr to=0:=by simp [dfE,h]
 have eN:∀ l,dfN fr to l=(l.length:Int):=fun l=>by simp [dfN,e]
 have eO:dfO fr to=dfM fr.length fr to fr.length:=by simp [dfO,e]
 simp only [Bool.or_eq_false_iff,Bool.not_eq_false'] at h
 have hF:=ZuG h.1
 have hT:=ZuG h.2
 rw [eN,eN,eO,e]
 have hm8:fr.length*to.length≤8*8:=Nat.mul_le_mul hF.2.1 hT.2.1
 rw [← Int.natCast_mul,IntWalk.i64_in ((fr.length*to.length:Nat):Int) (by omega),Int.toNat_natCast]
 refine ⟨by omega,?_⟩
 have hF8:fr.length≤8:=hF.2.1
 have hT8:to.length≤8:=hT.2.1
 refine Zk (fun g=>⟨[(36,vI .i64 (g:Nat))],[],[(⟨1,32⟩,⟨true,1,LI .i64 (dfM fr.length fr to g)⟩)]⟩) (fun g=>g≤fr.length) (fun g=>fr.length - g) (·+1) 0 (Nat.zero_le _) ?_ ?_
 ·simp (maxSteps:=1000000) only [↓Zn,Ze,Zd,Zm,gSt,gS0,Ya,Yb,↓reduceIte,reduceCtorEq,Yc,Yd,Ye,Yf,Yg,Yj,Yk,Yl,Ym,Yn,ZaF,Zak,ZcJ,Za0,gE1,Tryz.ntmps78,Tryz.results78,gTT]
  exact ⟨rfl,rfl⟩
 intro g hg
 simp (maxSteps:=1000000) only [↓Zn,Ze,Zd,Zm,gSt,gS0,Ya,Yb,↓reduceIte,reduceCtorEq,Yc,Yd,Ye,Yf,Yg,Yj,Yk,Yl,Ym,Yn,ZaF,Zak,ZcJ,Za0,gE1,Tryz.ntmps78,Tryz.results78,gTT]
 have hlen:=ZsC fr.length fr to g
 refine ⟨fun h1=>?_,fun h1=>?_⟩
 ·have hgl:g < fr.length:=by have:=of_decide_eq_true h1; omega
  generalize hp:fr[g]?.getD 0=p
  generalize hM:dfM fr.length fr to g=M at *
  have hstep:dfM fr.length fr to (g+1)=ZuK fr.length to g p M:=by rw [← hp,← hM]; rfl
  refine ⟨by omega,ht,fun h2=>?_,fun h2=>?_⟩
  ·rw [idx_iff,decide_eq_true_eq] at h2
   have hi:=ZpU h2
   have e2:=Zpp (fr.length) g hF8 (by omega) hT8 hi.1 hi.2.1
   rw [e2]
   have hb:=Zkk (A:=fr.length) hgl hi.2.1
   rw [hstep,Zz7 h2]
   exact ⟨by omega,by omega,⟨(ZY _ (by omega)).symm,rfl⟩,by omega,by omega⟩
  rw [idx_iff,decide_eq_false_iff_not] at h2
  have hl3:=ZpQ p
  have hl2:=Zl3 p
  generalize hh:Zco p=H at *
  refine Zk (fun j=>⟨[(58,vI .i64 (j:Nat))],[],[]⟩) (fun j=>j≤H.length∧∀ i,i < j→ZBi to (H[i]?.getD [])=false) (fun j=>H.length - j) (·+1) 0 ⟨Nat.zero_le _,fun i hi=>absurd hi (Nat.not_lt_zero _)⟩ ?_ ?_
  ·simp (maxSteps:=1000000) only [↓Zn,Ze,Zd,Zm,gSt,gS0,Ya,Yb,↓reduceIte,reduceCtorEq,Yc,Yd,Ye,Yf,Yg,Yj,Yk,Yl,Ym,Yn,ZaF,Zak,ZcJ,Za0,gE1,Tryz.ntmps78,Tryz.results78,gTT]
   rfl
  rintro j ⟨hj,hno⟩
  simp (maxSteps:=1000000) only [↓Zn,Ze,Zd,Zm,gSt,gS0,Ya,Yb,↓reduceIte,reduceCtorEq,Yc,Yd,Ye,Yf,Yg,Yj,Yk,Yl,Ym,Yn,ZaF,Zak,ZcJ,Za0,gE1,Tryz.ntmps78,Tryz.results78,gTT]
  refine ⟨fun h3=>?_,fun h3=>?_⟩
  ·have hjl:j < H.length:=by have:=of_decide_eq_true h3; omega
   have hgj:H[j]?.getD []=H[j]:=by rw [List.getElem?_eq_getElem hjl]; rfl
   rw [hgj]
   have hl:=hl2 _ (List.getElem_mem hjl)
   generalize hL:H[j]=L at *
   refine ⟨by omega,⟨by omega,ht⟩,fun h4=>?_,fun h4=>?_⟩
   ·rw [ZgQ] at h4
    have h4':ZBi to L=false:=by simpa using h4
    refine ⟨(ZY _ (by omega)).symm,⟨by omega,fun i hi=>?_⟩,by omega⟩
    by_cases hij:i=j
    ·rw [hij,hgj]; exact h4'
    ·exact hno i (by omega)
   rw [ZgQ] at h4
   have h4':ZBi to L=true:=by simpa using h4
   have hq:∀ q∈L,q∈to:=fun q hq=>of_decide_eq_true (List.all_eq_true.1 h4' q hq)
   have hcol:ZuK fr.length to g p M=L.foldl (Zqp fr.length to g 23170) M:=by
    refine Zpv h2 ?_
    rw [hh,← hL]
    exact ZAp hjl hno (hL ▸ h4')
   refine Zk (fun i=>⟨[(71,vI .i64 (i:Nat))],[],[(⟨1,32⟩,⟨true,1,LI .i64 ((L.take i).foldl (Zqp fr.length to g 23170) M)⟩)]⟩) (fun i=>i≤L.length) (fun i=>L.length - i) (·+1) 0 (Nat.zero_le _) ?_ ?_
   ·simp (maxSteps:=1000000) only [↓Zn,Ze,Zd,Zm,gSt,gS0,Ya,Yb,↓reduceIte,reduceCtorEq,Yc,Yd,Ye,Yf,Yg,Yj,Yk,Yl,Ym,Yn,ZaF,Zak,ZcJ,Za0,gE1,Tryz.ntmps78,Tryz.results78,gTT]
    exact ⟨rfl,rfl⟩
   intro i hi
   simp (maxSteps:=1000000) only [↓Zn,Ze,Zd,Zm,gSt,gS0,Ya,Yb,↓reduceIte,reduceCtorEq,Yc,Yd,Ye,Yf,Yg,Yj,Yk,Yl,Ym,Yn,ZaF,Zak,ZcJ,Za0,gE1,Tryz.ntmps78,Tryz.results78,gTT]
   have hfl:=ZiG fr.length to g 23170 (L.take i) M
   refine ⟨fun h5=>?_,fun h5=>?_⟩
   ·have hil:i < L.length:=by have:=of_decide_eq_true h5; omega
    have hgi:L[i]?.getD 0=L[i]:=by rw [List.getElem?_eq_getElem hil]; rfl
    have hqi:=ZpU (hq _ (List.getElem_mem hil))
    have e2:=Zpp (fr.length) g hF8 (by omega) hT8 hqi.1 hqi.2.1
    have hb:=Zkk (A:=fr.length) hgl hqi.2.1
    have hf1:(L.take (i+1)).foldl (Zqp fr.length to g 23170) M=Zqp fr.length to g 23170 ((L.take i).foldl (Zqp fr.length to g 23170) M) L[i]:=by
     rw [List.take_add_one,List.getElem?_eq_getElem hil,List.foldl_append]
     rfl
    rw [hgi,hf1,e2]
    exact ⟨by omega,by kernel_rfl,ht,by omega,by omega,⟨(ZY _ (by omega)).symm,rfl⟩,by omega,by omega⟩
   ·have:i=L.length:=by have:=of_decide_eq_false h5; omega
    rw [this,List.take_length,← hcol,hstep]
    exact ⟨⟨(ZY _ (by omega)).symm,rfl⟩,by omega,by omega⟩
  ·have:j=H.length:=by have:=of_decide_eq_false h3; omega
   rw [this] at hno
   rw [hstep,Zpu h2 (by rw [hh]; exact ZAq hno)]
   exact ⟨⟨(ZY _ (by omega)).symm,rfl⟩,by omega,by omega⟩
 ·have:g=fr.length:=by have:=of_decide_eq_false h1; omega
  rw [this] at hlen ⊢
  exact ⟨hlen.symm,rfl⟩
def Zjv:List V→Zf→Zr→Name→Option Ent
 | [.c (.d (.list q_fr)),.c (.d (.list q_to))],[],[],_=>some ⟨(Zc q_fr).length≤1000000∧(Zc q_to).length≤1000000∧q_fr=LI .i64 (Zc q_fr)∧q_to=LI .i64 (Zc q_to),.tup [.agg [.int .i64 (dfN (Zc q_fr) (Zc q_to) (Zc q_fr)),.int .i64 (dfN (Zc q_fr) (Zc q_to) (Zc q_to)),.list (LI .i64 (dfO (Zc q_fr) (Zc q_to)))],.int .i64 (dfE (Zc q_fr) (Zc q_to))],[],[]⟩
 | _,_,_,_=>none
def Zwi:=And.intro (@Zjv.eq_1) (@Zjv.eq_1)
theorem Zwj:Snd Tryz.prog 78 Zjv:=by
 intro vs b k n e h hn hp
 unfold Zjv at h
 split at h
 ·cases h; obtain ⟨hp0,hp1,hq0,hq1⟩:=hp; obtain ⟨_,rfl⟩:=Zq hq0; obtain ⟨_,rfl⟩:=Zq hq1; simp only [Zi,Zo,Zj,Zp] at hp0 hp1 ⊢; exact (ZxU _ _ hp0 hp1).lift rfl _
 ·cases h
end Go.Vam
end
section
set_option linter.unusedVariables false
set_option linter.defProp false
set_option linter.unusedSimpArgs false
set_option maxRecDepth 40000
set_option maxHeartbeats 4000000
namespace Go.Vam
open Go.Proofs
open Nat renaming reduceShiftRight→Ya,reduceMod→Yb,reduceEqDiff→Yc,reduceLT→Yd,reduceLeDiff→Ye,reduceAdd→Yf,reduceMul→Yg
open Int renaming reduceLE→Yj,reduceLT→Yk,reduceNeg→Yl,reduceAdd→Ym,reduceToNat→Yn
def szK (k:Int):Int:=if k=1 then 1 else if k=2 then 2 else if k=3 then 2 else if k=4 then 3 else if k=5 then 3 else if k=6 then 4 else if k=7 then 4 else 0
def ZEM (k:Int):Bool:=k==3 || k==5 || k==7
theorem ZFj (k:Int):szK k=0∨szK k=1∨szK k=2∨szK k=3∨szK k=4:=by unfold szK; omega
def Zrs (g:Bool) (b:List UInt8):List UInt8:=if g=true then b else b.reverse
def ZA7 (b:List UInt8):Nat:=b.foldl (fun n c=>n*256+c.toNat) 0
def rdU (g:Bool) (b:List UInt8):Int:=(ZA7 (Zrs g b):Nat)
def Zle (s:Int):Int:=if s=1 then 128 else if s=2 then 32768 else if s=3 then 8388608 else 2147483648
def sgn (s n:Int):Int:=if Zle s≤n then n - 2*Zle s else n
def rdF (s:Int) (g:Bool) (b:List UInt8):Int:=if s=1 then rdU g b else sgn s (rdU g b)
def ZAc (s n:Int):Int:=if s=1 then (n - 128)*65536 else if s=2 then n*256 else if s=4 then (n+128) / 256 else n
def byt (n:Int):UInt8:=UInt8.ofNat (n % 256).toNat
theorem ZzP (n:Int):((byt n).toNat:Int)=n % 256:=by
 unfold byt
 have h0:=Int.emod_nonneg n (show (256:Int)≠0 by decide)
 have h1:=Int.emod_lt_of_pos n (show (0:Int) < 256 by decide)
 rw [UInt8.toNat_ofNat']
 omega
def chk (s:Nat) (b:List UInt8) (i:Nat):List UInt8:=(b.drop (i*s)).take s
def ZuL (k:Int) (n:Nat):Int:=if szK k=0 then 1 else if 524288 < n / (szK k).toNat then 3 else if n % (szK k).toNat≠0 then 4 else 0
def ZsB (k:Int) (b:List UInt8) (n:Nat):List Int:=(List.range n).map fun i=>ZnO (ZAc (szK k) (rdF (szK k) (ZEM k) (chk (szK k).toNat b i)))
def ZDn (k:Int) (b:List UInt8):List Int:=if ZuL k b.length=0 then ZsB k b (b.length / (szK k).toNat) else []
theorem ZsQ:∀ (b:List UInt8) (a:Nat),b.foldl (fun n c=>n*256+c.toNat) a < (a+1)*256 ^ b.length
 | [],a=>by simp
 | c::b,a=>by
  have h:=ZsQ b (a*256+c.toNat)
  have hc:=c.toNat_lt
  rw [List.foldl_cons,List.length_cons,Nat.pow_succ]
  refine Nat.lt_of_lt_of_le h ?_
  rw [Nat.mul_comm (256 ^ b.length),← Nat.mul_assoc]
  exact Nat.mul_le_mul_right _ (by omega)
theorem Znh (g:Bool) (b:List UInt8):(Zrs g b).length=b.length:=by unfold Zrs; split <;> simp
theorem ZHX (g:Bool) (b:List UInt8):0≤rdU g b∧rdU g b < 256 ^ b.length:=by
 have h:=ZsQ (Zrs g b) 0
 rw [Znh] at h
 unfold rdU ZA7
 refine ⟨Int.natCast_nonneg _,?_⟩
 have:((256 ^ b.length:Nat):Int)=256 ^ b.length:=by simp
 omega
theorem ZDJ {g:Bool} {b:List UInt8} {i:Nat} (hi:i < b.length):(Zrs g b)[i]?=b[if g=true then i else b.length - 1 - i]?:=by
 unfold Zrs
 split
 ·rfl
 ·rw [List.getElem?_reverse hi]
theorem ZA8 {b:List UInt8} {i:Nat} (hi:i < b.length):ZA7 (b.take (i+1))=ZA7 (b.take i)*256+(b[i]).toNat:=by
 unfold ZA7
 rw [List.take_add_one,List.getElem?_eq_getElem hi,List.foldl_append]
 rfl
theorem or8 {n b:Int} (h0:0≤n) (h1:n < 16777216) (hb0:0≤b) (hb1:b < 256):IntKind.i64.wrap ((BitVec.ofInt IntKind.i64.bits (IntKind.i64.wrap (n*2 ^ Nat.min (8:Int).toNat IntKind.i64.bits)) ||| BitVec.ofInt IntKind.i64.bits b).toNat)=n*256+b:=by
 have e:(2:Int) ^ Nat.min (8:Int).toNat IntKind.i64.bits=256:=by decide
 rw [e,IntWalk.i64_in (n*256) (by omega)]
 obtain ⟨m,rfl⟩:=Int.eq_ofNat_of_zero_le h0
 obtain ⟨c,rfl⟩:=Int.eq_ofNat_of_zero_le hb0
 have e2:IntKind.i64.bits=64:=rfl
 rw [e2]
 have h3:(BitVec.ofInt 64 ((m:Int)*256)).toNat=m*256:=by
  rw [BitVec.toNat_ofInt]
  omega
 have h4:(BitVec.ofInt 64 (c:Int)).toNat=c:=by
  rw [BitVec.toNat_ofInt]
  omega
 rw [BitVec.toNat_or,h3,h4]
 have h5:m*256 ||| c=m*256+c:=by
  have:=Nat.shiftLeft_add_eq_or_of_lt (show c < 2 ^ 8 by omega) m
  rw [Nat.shiftLeft_eq] at this
  exact this.symm
 rw [h5,IntWalk.i64_in _ (by omega)]
 simp
theorem ZGR (n:Int):IntKind.u8.wrap n=((byt n).toNat:Int):=by
 rw [ZzP]
 exact IntKind.wrap_u8 n
theorem ZNX (n:Int):n.fdiv (2 ^ Nat.min 8 IntKind.i64.bits)=n / 256:=Int.fdiv_eq_ediv_of_nonneg n (show (0:Int)≤256 by decide)
theorem ZL0 (n:Int):n.fdiv (2 ^ Nat.min 16 IntKind.i64.bits)=n / 65536:=Int.fdiv_eq_ediv_of_nonneg n (show (0:Int)≤65536 by decide)
theorem ZFR {k:Int} {n:Nat} (h:ZuL k n=0):1≤szK k∧szK k≤4∧n=n / (szK k).toNat*(szK k).toNat∧n / (szK k).toNat≤524288:=by
 unfold ZuL at h
 split at h
 ·cases h
 ·rename_i h0
  split at h
  ·cases h
  ·rename_i h1
   split at h
   ·cases h
   ·rename_i h2
    have:=ZFj k
    refine ⟨by omega,by omega,?_,by omega⟩
    have h3:n % (szK k).toNat=0:=by simpa using h2
    exact (Nat.div_mul_cancel (Nat.dvd_of_mod_eq_zero h3)).symm
theorem ZuM (k:Int) (b:List UInt8) (n:Nat):(ZsB k b n).length=n:=by simp [ZsB]
theorem ZAb (k:Int) (b:List UInt8) (n:Nat):ZsB k b (n+1)=ZsB k b n++[ZnO (ZAc (szK k) (rdF (szK k) (ZEM k) (chk (szK k).toNat b n)))]:=by simp [ZsB,List.range_succ]
theorem ZBM (k:Int):Spec Tryz.prog 0 74 [vI .i64 k] [] [] (.agg [.d (.int .i64 (szK k)),.d (.bool (ZEM k))]) [] []:=by
 refine sE (md:=fun _=>0) (L:=[]) [(1,[0,0,0,0,0,1107294893,0,0,0,0,0,1107208877,0,0,0,0])] 1105199149 Zb Tryz.func74 rfl rfl rfl ?_
 simp (maxSteps:=1000000) only [↓Zn,Ze,Zd,Zm,gSt,gS0,Ya,Yb,↓reduceIte,reduceCtorEq,Yc,Yd,Ye,Yf,Yg,Yj,Yk,Yl,Ym,Yn,gE1,Tryz.ntmps74,Tryz.results74,gTT]
 refine Zk (fun g=>⟨[(23,vI .i64 (g:Nat))],[],[]⟩) (fun g=>g≤7∧(k < 1∨(g:Int) < k)) (fun g=>7 - g) (·+1) 0 ⟨by decide,by omega⟩ ?_ ?_
 ·simp (maxSteps:=1000000) only [↓Zn,Ze,Zd,Zm,gSt,gS0,Ya,Yb,↓reduceIte,reduceCtorEq,Yc,Yd,Ye,Yf,Yg,Yj,Yk,Yl,Ym,Yn,gE1,Tryz.ntmps74,Tryz.results74,gTT]
  rfl
 rintro g ⟨h1,h2⟩
 match g,h1,h2 with
 | 0,h1,h2 =>
  simp (maxSteps:=1000000) only [↓Zn,Ze,Zd,Zm,gSt,gS0,Ya,Yb,↓reduceIte,reduceCtorEq,Yc,Yd,Ye,Yf,Yg,Yj,Yk,Yl,Ym,Yn,gE1,Tryz.ntmps74,Tryz.results74,gTT]
  refine ⟨fun _=>⟨by omega,fun e=>?_,fun e=>?_⟩,fun e=>by simp at e⟩
  ·have e1:=beq_iff_eq.1 e
   subst e1
   decide
  ·have e1:¬ (1=k):=by simpa using e
   exact ⟨rfl,by omega,by decide⟩
 | 1,h1,h2 =>
  simp (maxSteps:=1000000) only [↓Zn,Ze,Zd,Zm,gSt,gS0,Ya,Yb,↓reduceIte,reduceCtorEq,Yc,Yd,Ye,Yf,Yg,Yj,Yk,Yl,Ym,Yn,gE1,Tryz.ntmps74,Tryz.results74,gTT]
  refine ⟨fun _=>⟨by omega,fun e=>?_,fun e=>?_⟩,fun e=>by simp at e⟩
  ·have e1:=beq_iff_eq.1 e
   subst e1
   decide
  ·have e1:¬ (2=k):=by simpa using e
   exact ⟨rfl,by omega,by decide⟩
 | 2,h1,h2 =>
  simp (maxSteps:=1000000) only [↓Zn,Ze,Zd,Zm,gSt,gS0,Ya,Yb,↓reduceIte,reduceCtorEq,Yc,Yd,Ye,Yf,Yg,Yj,Yk,Yl,Ym,Yn,gE1,Tryz.ntmps74,Tryz.results74,gTT]
  refine ⟨fun _=>⟨by omega,fun e=>?_,fun e=>?_⟩,fun e=>by simp at e⟩
  ·have e1:=beq_iff_eq.1 e
   subst e1
   decide
  ·have e1:¬ (3=k):=by simpa using e
   exact ⟨rfl,by omega,by decide⟩
 | 3,h1,h2 =>
  simp (maxSteps:=1000000) only [↓Zn,Ze,Zd,Zm,gSt,gS0,Ya,Yb,↓reduceIte,reduceCtorEq,Yc,Yd,Ye,Yf,Yg,Yj,Yk,Yl,Ym,Yn,gE1,Tryz.ntmps74,Tryz.results74,gTT]
  refine ⟨fun _=>⟨by omega,fun e=>?_,fun e=>?_⟩,fun e=>by simp at e⟩
  ·have e1:=beq_iff_eq.1 e
   subst e1
   decide
  ·have e1:¬ (4=k):=by simpa using e
   exact ⟨rfl,by omega,by decide⟩
 | 4,h1,h2 =>
  simp (maxSteps:=1000000) only [↓Zn,Ze,Zd,Zm,gSt,gS0,Ya,Yb,↓reduceIte,reduceCtorEq,Yc,Yd,Ye,Yf,Yg,Yj,Yk,Yl,Ym,Yn,gE1,Tryz.ntmps74,Tryz.results74,gTT]
  refine ⟨fun _=>⟨by omega,fun e=>?_,fun e=>?_⟩,fun e=>by simp at e⟩
  ·have e1:=beq_iff_eq.1 e
   subst e1
   decide
  ·have e1:¬ (5=k):=by simpa using e
   exact ⟨rfl,by omega,by decide⟩
 | 5,h1,h2 =>
  simp (maxSteps:=1000000) only [↓Zn,Ze,Zd,Zm,gSt,gS0,Ya,Yb,↓reduceIte,reduceCtorEq,Yc,Yd,Ye,Yf,Yg,Yj,Yk,Yl,Ym,Yn,gE1,Tryz.ntmps74,Tryz.results74,gTT]
  refine ⟨fun _=>⟨by omega,fun e=>?_,fun e=>?_⟩,fun e=>by simp at e⟩
  ·have e1:=beq_iff_eq.1 e
   subst e1
   decide
  ·have e1:¬ (6=k):=by simpa using e
   exact ⟨rfl,by omega,by decide⟩
 | 6,h1,h2 =>
  simp (maxSteps:=1000000) only [↓Zn,Ze,Zd,Zm,gSt,gS0,Ya,Yb,↓reduceIte,reduceCtorEq,Yc,Yd,Ye,Yf,Yg,Yj,Yk,Yl,Ym,Yn,gE1,Tryz.ntmps74,Tryz.results74,gTT]
  refine ⟨fun _=>⟨by omega,fun e=>?_,fun e=>?_⟩,fun e=>by simp at e⟩
  ·have e1:=beq_iff_eq.1 e
   subst e1
   decide
  ·have e1:¬ (7=k):=by simpa using e
   exact ⟨rfl,by omega,by decide⟩
 | 7,h1,h2 =>
  simp (maxSteps:=1000000) only [↓Zn,Ze,Zd,Zm,gSt,gS0,Ya,Yb,↓reduceIte,reduceCtorEq,Yc,Yd,Ye,Yf,Yg,Yj,Yk,Yl,Ym,Yn,gE1,Tryz.ntmps74,Tryz.results74,gTT]
  refine ⟨fun e=>by simp at e,fun _=>⟨by unfold szK; omega,?_⟩⟩
  simp only [ZEM,Bool.or_eq_false_iff,beq_eq_false_iff_ne]
  omega
 | g+8,h1,h2=>omega
def Zlt:List V→Zf→Zr→Name→Option Ent
 | [.c (.d (.int .i64 k))],[],[],_=>some ⟨True,.agg [.d (.int .i64 (szK k)),.d (.bool (ZEM k))],[],[]⟩
 | _,_,_,_=>none
def Zgi:=And.intro (@Zlt.eq_1) (@Zlt.eq_1)
theorem Zn9:Snd Tryz.prog 74 Zlt:=by
 intro vs b k n e h hn hp
 unfold Zlt at h
 split at h
 ·cases h; exact (ZBM _).lift rfl _
 ·cases h
theorem ZCi (k:Int):Spec Tryz.prog 0 176 [vI .i64 k] [] [] (vI .i64 (szK k)) [] []:=by
 refine sE (md:=fun _=>0) (L:=[(74,Zlt)]) [] 5 (Za Zn9 Zb) Tryz.func176 rfl rfl rfl ?_
 simp (maxSteps:=1000000) only [↓Zn,Ze,Zd,Zm,gSt,gS0,Ya,Yb,↓reduceIte,reduceCtorEq,Yc,Yd,Ye,Yf,Yg,Yj,Yk,Yl,Ym,Yn,Zgi,gE1,Tryz.ntmps176,Tryz.results176,gTT]
def ZoZ:List V→Zf→Zr→Name→Option Ent
 | [.c (.d (.int .i64 k))],[],[],_=>some ⟨True,vI .i64 (szK k),[],[]⟩
 | _,_,_,_=>none
def Zza:=And.intro (@ZoZ.eq_1) (@ZoZ.eq_1)
theorem Zzb:Snd Tryz.prog 176 ZoZ:=by
 intro vs b k n e h hn hp
 unfold ZoZ at h
 split at h
 ·cases h; exact (ZCi _).lift rfl _
 ·cases h
theorem ZGt {g:Bool} {b:List UInt8} {i:Nat} (hi:i < b.length) (h4:b.length≤4):((ZA7 ((Zrs g b).take (i+1)):Nat):Int)=IntKind.i64.wrap ((BitVec.ofInt IntKind.i64.bits (IntKind.i64.wrap ((ZA7 ((Zrs g b).take i):Nat)*2 ^ Nat.min (8:Int).toNat IntKind.i64.bits)) ||| BitVec.ofInt IntKind.i64.bits (IntKind.i64.wrap ((b[if g=true then i else b.length - 1 - i]?.getD 0).toNat:Nat))).toNat):=by
 have hl:=Znh g b
 have hio:i < (Zrs g b).length:=by omega
 have hg:=ZDJ (g:=g) hi
 rw [List.getElem?_eq_getElem hio] at hg
 rw [← hg,Option.getD_some,ZA8 hio]
 have hc:=((Zrs g b)[i]).toNat_lt
 have hb:ZA7 ((Zrs g b).take i) < 16777216:=by
  have h:=ZsQ ((Zrs g b).take i) 0
  have hlt:((Zrs g b).take i).length≤3:=by rw [List.length_take]; omega
  have:=Nat.pow_le_pow_right (show 0 < 256 by decide) hlt
  unfold ZA7
  omega
 rw [IntWalk.i64_in (((Zrs g b)[i]).toNat:Int) (by omega),or8 (by omega) (by omega) (by omega) (by omega)]
 omega
theorem ZFg {s:Int} {g:Bool} {b:List UInt8} (hs:1≤s∧s≤4) (hb:b.length=s.toNat):0≤rdU g b∧rdU g b < 2*Zle s:=by
 have h:=ZHX g b
 rw [hb] at h
 refine ⟨h.1,?_⟩
 have:s=1∨s=2∨s=3∨s=4:=by omega
 rcases this with rfl | rfl | rfl | rfl
 ·exact h.2
 ·exact h.2
 ·exact h.2
 ·exact h.2
theorem ZB7 (s:Int) (g:Bool) (b:List UInt8) (hs:1≤s∧s≤4) (hb:b.length=s.toNat):Spec Tryz.prog 0 75 [.agg [.d (.int .i64 s),.d (.bool g)],vL (LB b)] [] [] (vI .i64 (rdF s g b)) [] []:=by
 refine sE (md:=fun _=>0) (L:=[]) [(10,[0,0,0,0,0,8778913222391,0,0,0,0,0,0])] 4398046580471 Zb Tryz.func75 rfl rfl rfl ?_
 simp (maxSteps:=1000000) only [↓Zn,Ze,Zd,Zm,gSt,gS0,Ya,Yb,↓reduceIte,reduceCtorEq,Yc,Yd,Ye,Yf,Yg,Yj,Yk,Yl,Ym,Yn,gE1,Tryz.ntmps75,Tryz.results75,gTT]
 refine Zk (fun i=>⟨[(10,vI .i64 (i:Nat)),(5,vI .i64 (ZA7 ((Zrs g b).take i):Nat))],[],[]⟩) (fun i=>i≤s.toNat) (fun i=>s.toNat - i) (·+1) 0 (Nat.zero_le _) ?_ ?_
 ·simp (maxSteps:=1000000) only [↓Zn,Ze,Zd,Zm,gSt,gS0,Ya,Yb,↓reduceIte,reduceCtorEq,Yc,Yd,Ye,Yf,Yg,Yj,Yk,Yl,Ym,Yn,gE1,Tryz.ntmps75,Tryz.results75,gTT]
  exact ⟨rfl,rfl⟩
 intro i hi
 simp (maxSteps:=1000000) only [↓Zn,Ze,Zd,Zm,gSt,gS0,Ya,Yb,↓reduceIte,reduceCtorEq,Yc,Yd,Ye,Yf,Yg,Yj,Yk,Yl,Ym,Yn,gE1,Tryz.ntmps75,Tryz.results75,gTT]
 refine ⟨fun h1=>?_,fun h1=>?_⟩
 ·have hlt:i < b.length:=by have:=of_decide_eq_true h1; omega
  have hst:=ZGt (g:=g) hlt (by omega)
  refine ⟨fun hg=>?_,fun hg=>?_⟩
  ·subst hg
   rw [if_neg (by decide)] at hst
   rw [IntWalk.i64_in (s - 1) (by omega),IntWalk.i64_in (s - 1 - (i:Int)) (by omega)]
   have e:(s - 1 - (i:Int)).toNat=b.length - 1 - i:=by omega
   rw [e]
   exact ⟨by omega,⟨(ZY _ (by omega)).symm,hst⟩,by omega,by omega⟩
  ·have hg':g=true:=by simpa using hg
   subst hg'
   rw [if_pos rfl] at hst
   exact ⟨by omega,⟨(ZY _ (by omega)).symm,hst⟩,by omega,by omega⟩
 ·have h2:i=s.toNat:=by have:=of_decide_eq_false h1; omega
  rw [h2,List.take_of_length_le (by rw [Znh]; omega)]
  have hr:=ZFg (g:=g) hs hb
  have hrd:((ZA7 (Zrs g b):Nat):Int)=rdU g b:=rfl
  rw [hrd]
  generalize hR:rdU g b=R at *
  unfold rdF sgn
  rw [hR]
  have:s=1∨s=2∨s=3∨s=4:=by omega
  rcases this with rfl | rfl | rfl | rfl
  ·refine ⟨fun e=>by simp at e,fun e=>by simp at e,fun _=>rfl⟩
  ·have p1:IntKind.i64.wrap (1*2 ^ (IntKind.i64.wrap (IntKind.i64.wrap (8*2) - 1)).toNat.min IntKind.i64.bits)=32768:=by decide
   have p2:IntKind.i64.wrap (1*2 ^ (IntKind.i64.wrap (8*2)).toNat.min IntKind.i64.bits)=65536:=by decide
   have p3:Zle 2=32768:=rfl
   rw [p3] at hr
   rw [p1,p2,p3,if_neg (by decide)]
   refine ⟨fun e=>by decide,fun e=>⟨by decide,?_⟩,fun e=>?_⟩
   ·have h3:32768≤R:=by simpa using e
    rw [if_pos h3,IntWalk.i64_in _ (by omega)]
    omega
   ·have h3:¬ 32768≤R:=by simpa using e
    rw [if_neg h3]
  ·have p1:IntKind.i64.wrap (1*2 ^ (IntKind.i64.wrap (IntKind.i64.wrap (8*3) - 1)).toNat.min IntKind.i64.bits)=8388608:=by decide
   have p2:IntKind.i64.wrap (1*2 ^ (IntKind.i64.wrap (8*3)).toNat.min IntKind.i64.bits)=16777216:=by decide
   have p3:Zle 3=8388608:=rfl
   rw [p3] at hr
   rw [p1,p2,p3,if_neg (by decide)]
   refine ⟨fun e=>by decide,fun e=>⟨by decide,?_⟩,fun e=>?_⟩
   ·have h3:8388608≤R:=by simpa using e
    rw [if_pos h3,IntWalk.i64_in _ (by omega)]
    omega
   ·have h3:¬ 8388608≤R:=by simpa using e
    rw [if_neg h3]
  ·have p1:IntKind.i64.wrap (1*2 ^ (IntKind.i64.wrap (IntKind.i64.wrap (8*4) - 1)).toNat.min IntKind.i64.bits)=2147483648:=by decide
   have p2:IntKind.i64.wrap (1*2 ^ (IntKind.i64.wrap (8*4)).toNat.min IntKind.i64.bits)=4294967296:=by decide
   have p3:Zle 4=2147483648:=rfl
   rw [p3] at hr
   rw [p1,p2,p3,if_neg (by decide)]
   refine ⟨fun e=>by decide,fun e=>⟨by decide,?_⟩,fun e=>?_⟩
   ·have h3:2147483648≤R:=by simpa using e
    rw [if_pos h3,IntWalk.i64_in _ (by omega)]
    omega
   ·have h3:¬ 2147483648≤R:=by simpa using e
    rw [if_neg h3]
def ZoG:List V→Zf→Zr→Name→Option Ent
 | [.agg [.d (.int .i64 s),.d (.bool g)],.c (.d (.list q_b))],[],[],_=>some ⟨(1≤s∧s≤4)∧(bys q_b).length=s.toNat∧q_b=LB (bys q_b),vI .i64 (rdF s g (bys q_b)),[],[]⟩
 | _,_,_,_=>none
def Zjw:=And.intro (@ZoG.eq_1) (@ZoG.eq_1)
theorem Zy0:Snd Tryz.prog 75 ZoG:=by
 intro vs b k n e h hn hp
 unfold ZoG at h
 split at h
 ·cases h; obtain ⟨hp0,hp1,hq0⟩:=hp; obtain ⟨_,rfl⟩:=Zpc hq0; simp only [Zi,Zo,Zj,Zp] at hp0 hp1 ⊢; exact (ZB7 _ _ _ hp0 hp1).lift rfl _
 ·cases h
theorem ZHW {s:Int} {g:Bool} {b:List UInt8} (hs:1≤s∧s≤4) (hb:b.length=s.toNat):-2147483648≤rdF s g b∧rdF s g b≤2147483647:=by
 have h:=ZFg (g:=g) hs hb
 generalize hR:rdU g b=R at h
 unfold rdF sgn
 rw [hR]
 have:s=1∨s=2∨s=3∨s=4:=by omega
 rcases this with rfl | rfl | rfl | rfl
 ·have e:Zle 1=128:=rfl
  rw [e] at h ⊢; rw [if_pos rfl]; omega
 ·have e:Zle 2=32768:=rfl
  rw [e] at h ⊢; rw [if_neg (by decide)]; omega
 ·have e:Zle 3=8388608:=rfl
  rw [e] at h ⊢; rw [if_neg (by decide)]; omega
 ·have e:Zle 4=2147483648:=rfl
  rw [e] at h ⊢; rw [if_neg (by decide)]; omega
theorem ZFP {s n i:Nat} {b:List UInt8} (h:b.length=n*s) (hi:i < n):(chk s b i).length=s:=by
 unfold chk
 rw [List.length_take,List.length_drop,h]
 have:(i+1)*s≤n*s:=Nat.mul_le_mul_right _ hi
 rw [Nat.add_mul,Nat.one_mul] at this
 omega
theorem Ztg (k:Int) (b:List UInt8) (hb:b.length≤1000000):Spec Tryz.prog 0 27 [vI .i64 k,vL (LB b)] [] [] (.tup [.list (LI .i32 (ZDn k b)),.int .i64 (ZuL k b.length)]) [] []:=by
 refine sE (md:=fun s=>if s=35 then 1 else 0) (L:=[(74,Zlt),(75,ZoG),(76,ZoW)]) [] 19653709323609117683 (Za Zn9 (Za Zy0 (Za ZiE Zb))) Tryz.func27 rfl rfl rfl ?_
 simp (maxSteps:=1000000) only [↓Zn,Ze,Zd,Zm,gSt,gS0,Ya,Yb,↓reduceIte,reduceCtorEq,Yc,Yd,Ye,Yf,Yg,Yj,Yk,Yl,Ym,Yn,Zgi,Zjw,Zal,gE1,Tryz.ntmps27,Tryz.results27,gTT]
 refine ⟨fun h=>?_,fun h=>?_⟩
 ·have h0:szK k=0:=by simpa using h
  have e:ZuL k b.length=1:=by simp [ZuL,h0]
  simp [ZDn,e,Zw]
 have h0:¬ szK k=0:=by simpa using h
 have hsz:=ZFj k
 have hs1:1≤szK k∧szK k≤4:=by omega
 rw [ZEs _ (by omega),ZCF _ (by omega)]
 have hzl:b.length / (szK k).toNat≤b.length:=Nat.div_le_self ..
 have hd:ZuL k b.length=if 524288 < b.length / (szK k).toNat then 3 else if b.length % (szK k).toNat≠0 then 4 else 0:=by unfold ZuL; rw [if_neg h0]
 have hok:=ZFR (k:=k) (n:=b.length)
 have hO:ZuL k b.length=0→ZDn k b=ZsB k b (b.length / (szK k).toNat):=fun hE=>by simp [ZDn,hE]
 have hO2:ZuL k b.length≠0→ZDn k b=[]:=fun hE=>by simp [ZDn,hE]
 have hsm:((szK k).toNat:Int)=szK k:=by omega
 generalize hs:(szK k).toNat=s at *
 generalize hz0:b.length / s=z at *
 generalize hm0:b.length % s=m at *
 rw [IntWalk.i64_in (z:Int) (by omega)]
 refine ⟨h0,fun h1=>?_,fun h1=>⟨h0,fun h2=>?_,fun h2=>⟨h0,⟨by omega,by omega,by omega⟩,?_⟩⟩⟩
 ·have h3:=of_decide_eq_true h1
  rw [if_pos (by omega)] at hd
  rw [hO2 (by omega),hd,Zw]
 ·have h3:=of_decide_eq_false h1
  have h4:m≠0:=by simpa using h2
  rw [if_neg (by omega),if_pos h4] at hd
  rw [hO2 (by omega),hd,Zw]
 have h3:=of_decide_eq_false h1
 have h4:m=0:=by simpa using h2
 rw [if_neg (by omega),if_neg (by omega)] at hd
 obtain ⟨_,_,hz,_⟩:=hok hd
 rw [hO hd,hd]
 refine Zk (fun g=>⟨[(8,vI .i64 ((g*s:Nat):Int)),(7,.c (.own ⟨1,35⟩ (LI .i32 (ZsB k b g))))],[],[(⟨1,35⟩,⟨false,1,LI .i32 (ZsB k b g)⟩)]⟩) (fun g=>g≤z) (fun g=>z - g) (·+1) 0 (Nat.zero_le _) ?_ ?_
 ·simp (maxSteps:=1000000) only [↓Zn,Ze,Zd,Zm,gSt,gS0,Ya,Yb,↓reduceIte,reduceCtorEq,Yc,Yd,Ye,Yf,Yg,Yj,Yk,Yl,Ym,Yn,Zgi,Zjw,Zal,gE1,Tryz.ntmps27,Tryz.results27,gTT]
  simp [ZsB,Zw]
 intro g hg
 simp (maxSteps:=1000000) only [↓Zn,Ze,Zd,Zm,gSt,gS0,Ya,Yb,↓reduceIte,reduceCtorEq,Yc,Yd,Ye,Yf,Yg,Yj,Yk,Yl,Ym,Yn,Zgi,Zjw,Zal,gE1,Tryz.ntmps27,Tryz.results27,gTT]
 refine ⟨fun h5=>⟨by kernel_rfl,?_⟩,fun h5=>?_⟩
 ·have h6:=of_decide_eq_true h5
  have hgz:g < z:=by
   rcases Nat.lt_or_ge g z with h | h
   ·exact h
   ·have:=Nat.mul_le_mul_right s h
    omega
  have hst:=ZAb k b g
  have hcl:=ZFP hz hgz
  have hch:List.take s (List.drop (g*s) b)=chk s b g:=rfl
  have hle:=Nat.mul_le_mul_right s (show g+1≤z from hgz)
  have hgs:(g+1)*s=g*s+s:=by rw [Nat.add_mul,Nat.one_mul]
  have hll:=ZuM k b g
  have hr:=ZHW (g:=ZEM k) hs1 (show (chk s b g).length=(szK k).toNat by omega)
  rw [hs] at hst
  rw [hgs] at hle ⊢
  generalize g*s=q at *
  have hw:IntKind.i64.wrap ((q:Int)+szK k)=((q+s:Nat):Int):=by rw [IntWalk.i64_in _ (by omega)]; omega
  rw [hw,Int.toNat_natCast,Nat.add_sub_cancel_left,hch]
  generalize rdF (szK k) (ZEM k) (chk s b g)=R at *
  rw [ZNX,IntWalk.i64_in (R - 128) (by omega),IntWalk.i64_in ((R - 128)*65536) (by omega),IntWalk.i64_in (R*256) (by omega),IntWalk.i64_in (R+128) (by omega)]
  refine ⟨⟨by omega,by omega,by omega,by omega⟩,⟨hs1,by omega⟩,fun e1=>?_,fun e1=>⟨fun e2=>?_,fun e2=>⟨fun e4=>?_,fun e4=>?_⟩⟩⟩
  ·have hv:ZAc (szK k) R=(R - 128)*65536:=by unfold ZAc; rw [if_pos (by simpa using e1)]
   rw [hst,hv]
   exact ⟨by unfold Zab; omega,⟨⟨rfl,rfl⟩,rfl⟩,by omega,by omega⟩
  ·have hv:ZAc (szK k) R=R*256:=by unfold ZAc; rw [if_neg (by simpa using e1),if_pos (by simpa using e2)]
   rw [hst,hv]
   exact ⟨by unfold Zab; omega,⟨⟨rfl,rfl⟩,rfl⟩,by omega,by omega⟩
  ·have hv:ZAc (szK k) R=(R+128) / 256:=by unfold ZAc; rw [if_neg (by simpa using e1),if_neg (by simpa using e2),if_pos (by simpa using e4)]
   rw [hst,hv]
   exact ⟨by unfold Zab; omega,⟨⟨rfl,rfl⟩,rfl⟩,by omega,by omega⟩
  ·have hv:ZAc (szK k) R=R:=by unfold ZAc; rw [if_neg (by simpa using e1),if_neg (by simpa using e2),if_neg (by simpa using e4)]
   rw [hst,hv]
   exact ⟨by unfold Zab; omega,⟨⟨rfl,rfl⟩,rfl⟩,by omega,by omega⟩
 ·have h6:=of_decide_eq_false h5
  have:g=z:=by
   rcases Nat.lt_or_ge g z with h | h
   ·have:=Nat.mul_lt_mul_of_pos_right h (show 0 < s by omega)
    omega
   ·omega
  rw [this]
def Zgf:List V→Zf→Zr→Name→Option Ent
 | [.c (.d (.int .i64 k)),.c (.d (.list q_b))],[],[],_=>some ⟨(bys q_b).length≤1000000∧q_b=LB (bys q_b),.tup [.list (LI .i32 (ZDn k (bys q_b))),.int .i64 (ZuL k (bys q_b).length)],[],[]⟩
 | _,_,_,_=>none
def ZaY:=And.intro (@Zgf.eq_1) (@Zgf.eq_1)
theorem ZrJ:Snd Tryz.prog 27 Zgf:=by
 intro vs b k n e h hn hp
 unfold Zgf at h
 split at h
 ·cases h; obtain ⟨hp0,hq0⟩:=hp; obtain ⟨_,rfl⟩:=Zpc hq0; simp only [Zi,Zo,Zj,Zp] at hp0 ⊢; exact (Ztg _ _ hp0).lift rfl _
 ·cases h
theorem Zx3 (k:Int):Spec Tryz.prog 0 152 [vI .i64 k] [] [] (vI .i64 (szK k)) [] []:=by
 refine sE (md:=fun _=>0) (L:=[]) [] 4701 Zb Tryz.func152 rfl rfl rfl ?_
 simp (maxSteps:=1000000) only [↓Zn,Ze,Zd,Zm,gSt,gS0,Ya,Yb,↓reduceIte,reduceCtorEq,Yc,Yd,Ye,Yf,Yg,Yj,Yk,Yl,Ym,Yn,gE1,Tryz.ntmps152,Tryz.results152,gTT]
 simp only [beq_iff_eq,beq_eq_false_iff_ne,ne_eq]
 unfold szK
 omega
def Zho:List V→Zf→Zr→Name→Option Ent
 | [.c (.d (.int .i64 k))],[],[],_=>some ⟨True,vI .i64 (szK k),[],[]⟩
 | _,_,_,_=>none
def ZlF:=And.intro (@Zho.eq_1) (@Zho.eq_1)
theorem ZlG:Snd Tryz.prog 152 Zho:=by
 intro vs b k n e h hn hp
 unfold Zho at h
 split at h
 ·cases h; exact (Zx3 _).lift rfl _
 ·cases h
end Go.Vam
end
