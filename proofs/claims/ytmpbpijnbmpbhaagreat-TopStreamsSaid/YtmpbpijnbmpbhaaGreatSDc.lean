/- A part of the proof. Conditions: none. -/
import Derived.Test.YtmpbpijnbmpbhaaGreatSDb
section
set_option linter.unusedVariables false
set_option linter.defProp false
set_option linter.unusedSimpArgs false
set_option maxRecDepth 40000
set_option maxHeartbeats 4000000
namespace Go.Vam
open Go.Proofs
open Nat renaming reduceShiftRight→Ya,reduceMod→Yb,reduceEqDiff→Yc,reduceLT→Yd,reduceLeDiff→Ye,reduceAdd→Yf,reduceMul→Yg
open Int renaming reduceLE→Yj,reduceLT→Yk,reduceNeg→Yl,reduceAdd→Ym,reduceToNat→Yn
def Zt7 (l:List Int) (v:Int):Int:=if v∈l then (l.idxOf v:Int) else -1
theorem ZEV {l:List Int} {v:Int} {n:Nat} (hn:n < l.length) (h1:v∉l.take n) (h2:l[n]=v):Zt7 l v=n:=by
 have hm:v∈l:=h2 ▸ List.getElem_mem hn
 unfold Zt7
 rw [if_pos hm]
 have e:l=l.take n++l.drop n:=(List.take_append_drop n l).symm
 have hd:l.drop n=v::l.drop (n+1):=by rw [List.drop_eq_getElem_cons hn,h2]
 have:l.idxOf v=n:=by
  conv=>lhs; rw [e,hd]
  rw [List.idxOf_append,if_neg h1,List.idxOf_cons_self,List.length_take]
  omega
 rw [this]
theorem Zuc {l:List Int} {v:Int} (h:v∉l):Zt7 l v=-1:=by unfold Zt7; rw [if_neg h]
theorem ZzD {l:List Int} {v:Int} (h:v∈l):0≤Zt7 l v∧(Zt7 l v).toNat < l.length∧l[(Zt7 l v).toNat]?=some v:=by
 unfold Zt7
 rw [if_pos h]
 have h1:=List.idxOf_lt_length_of_mem h
 refine ⟨by omega,by omega,?_⟩
 rw [Int.toNat_natCast,List.getElem?_eq_getElem h1,List.getElem_idxOf h1]
theorem idx_iff {l:List Int} {v:Int}:(decide (0≤Zt7 l v):Bool)=decide (v∈l):=by
 by_cases h:v∈l
 ·rw [decide_eq_true (ZzD h).1,decide_eq_true h]
 ·rw [Zuc h,decide_eq_false h]; rfl
theorem Zkp {l:List Int} {v:Int} {n:Nat} (h:n < l.length) (h1:v∉l.take n) (h2:l[n]≠v):v∉l.take (n+1):=by
 rw [List.take_add_one,List.getElem?_eq_getElem h]
 simp only [Option.toList_some,List.mem_append,List.mem_singleton,not_or]
 exact ⟨h1,fun e=>h2 e.symm⟩
def okC (m:List Int) (i:Nat):Bool:=!(decide (m[i]?.getD 0 < 1) || decide (8 < m[i]?.getD 0) || decide (m[i]?.getD 0∈m.take i))
def chU (m:List Int):Bool:=(List.range m.length).all (okC m)
def chV (m:List Int):Bool:=decide (1≤m.length) && decide (m.length≤8) && chU m
def chP (m:List Int) (n:Nat):Bool:=(List.range n).all (okC m)
theorem ZB3 {m:List Int} {n:Nat} (h:chP m n=true) (h2:okC m n=true):chP m (n+1)=true:=by
 unfold chP at h ⊢
 rw [List.range_succ,List.all_append,h]
 simpa using h2
theorem ZEB {m:List Int} {n:Nat} (h:n < m.length) (h2:okC m n=false):chU m=false:=by
 unfold chU
 rw [List.all_eq_false]
 exact ⟨n,List.mem_range.2 h,by simp [h2]⟩
theorem ZDA {m:List Int} (h:chV m=true):1≤m.length∧m.length≤8∧∀ i,i < m.length→(1≤m[i]?.getD 0∧m[i]?.getD 0≤8)∧m[i]?.getD 0∉m.take i:=by
 simp only [chV,chU,Bool.and_eq_true,decide_eq_true_eq,List.all_eq_true,List.mem_range] at h
 refine ⟨h.1.1,h.1.2,fun i hi=>?_⟩
 have:=h.2 i hi
 simp only [okC,Bool.not_eq_true',Bool.or_eq_false_iff,decide_eq_false_iff_not] at this
 exact ⟨by omega,this.2⟩
def Zd5 (p:Int):List (List Int):=if p=3 then [[1,2]] else if p=1 then [[3]] else if p=2 then [[3]] else if p=5 then [[7],[1],[3]] else if p=6 then [[8],[2],[3]] else if p=7 then [[5],[1],[3]] else if p=8 then [[6],[2],[3]] else []
def ZeP (a b:List Int):List Int:=a.filter fun p=>decide (p∈b)
def ZDU (to l:List Int):Bool:=l.all fun p=>decide (p∈to)
theorem ZoX (l to:List Int):decide (((ZeP l to).length:Int) < l.length)=!ZDU to l:=by
 unfold ZeP ZDU
 by_cases h:l.all (fun p=>decide (p∈to))=true
 ·rw [h]
  have:l.filter (fun p=>decide (p∈to))=l:=List.filter_eq_self.2 (List.all_eq_true.1 h)
  rw [this]; simp
 ·have h':l.all (fun p=>decide (p∈to))=false:=by simpa using h
  rw [h']
  have h1:=List.length_filter_le (fun p=>decide (p∈to)) l
  have h2:(l.filter fun p=>decide (p∈to)).length≠l.length:=by
   intro e
   have:=List.length_filter_eq_length_iff.1 e
   rw [← List.all_eq_true] at this
   exact h this
  simp only [Bool.not_false,decide_eq_true_eq]
  omega
def Zxm (A:Nat) (to:List Int) (c:Nat) (v:Int) (M:List Int) (q:Int):List Int:=M.set ((Zt7 to q).toNat*A+c) v
def Zxh (A:Nat) (to:List Int) (c:Nat) (p:Int) (M:List Int):List Int :=
 if p∈to then Zxm A to c 32768 M p else match (Zd5 p).find? (ZDU to) with
  | some l=>l.foldl (Zxm A to c 23170) M
  | none=>M
def dfM (A:Nat) (fr to:List Int):Nat→List Int
 | 0=>List.replicate (A*to.length) 0
 | n+1=>Zxh A to n (fr[n]?.getD 0) (dfM A fr to n)
theorem ZmL (A:Nat) (to:List Int) (c:Nat) (v:Int):∀ (l M:List Int),(l.foldl (Zxm A to c v) M).length=M.length
 | [],M=>rfl
 | q::l,M=>by rw [List.foldl_cons,ZmL A to c v l]; simp [Zxm]
theorem ZB9 (A:Nat) (to:List Int) (c:Nat) (p:Int) (M:List Int):(Zxh A to c p M).length=M.length:=by
 unfold Zxh
 split
 ·simp [Zxm]
 ·split
  ·exact ZmL ..
  ·rfl
theorem Zy5 (A:Nat) (fr to:List Int):∀ n,(dfM A fr to n).length=A*to.length
 | 0=>by simp [dfM]
 | n+1=>by show (Zxh _ _ _ _ _).length=_; rw [ZB9,Zy5 A fr to n]
theorem ZED {A:Nat} {to:List Int} {c:Nat} {p:Int} {M:List Int} (h:p∈to):Zxh A to c p M=Zxm A to c 32768 M p:=by unfold Zxh; rw [if_pos h]
theorem ZyZ {A:Nat} {to:List Int} {c:Nat} {p:Int} {M l:List Int} (h:p∉to) (hf:(Zd5 p).find? (ZDU to)=some l):Zxh A to c p M=l.foldl (Zxm A to c 23170) M:=by unfold Zxh; rw [if_neg h,hf]
theorem ZyY {A:Nat} {to:List Int} {c:Nat} {p:Int} {M:List Int} (h:p∉to) (hf:(Zd5 p).find? (ZDU to)=none):Zxh A to c p M=M:=by unfold Zxh; rw [if_neg h,hf]
theorem ZEI {l:List (List Int)} {f:List Int→Bool} {n:Nat} (hn:n < l.length) (h1:∀ i,i < n→f (l[i]?.getD [])=false) (h2:f l[n]=true):l.find? f=some l[n]:=by
 have e:l=l.take n++l.drop n:=(List.take_append_drop n l).symm
 have hd:l.drop n=l[n]::l.drop (n+1):=List.drop_eq_getElem_cons hn
 have hnone:(l.take n).find? f=none:=by
  rw [List.find?_eq_none]
  intro x hx
  obtain ⟨i,hi,rfl⟩:=List.mem_iff_getElem.1 hx
  rw [List.length_take] at hi
  have:=h1 i (by omega)
  rw [List.getElem?_eq_getElem (by omega)] at this
  rw [List.getElem_take]
  simpa using this
 conv=>lhs; rw [e,hd]
 rw [List.find?_append,hnone,List.find?_cons_of_pos h2]
 rfl
theorem ZEJ {l:List (List Int)} {f:List Int→Bool} (h1:∀ i,i < l.length→f (l[i]?.getD [])=false):l.find? f=none:=by
 rw [List.find?_eq_none]
 intro x hx
 obtain ⟨i,hi,rfl⟩:=List.mem_iff_getElem.1 hx
 have:=h1 i hi
 rw [List.getElem?_eq_getElem hi] at this
 simpa using this
def dfE (fr to:List Int):Int:=if (!chV fr || !chV to)=true then 1 else 0
def dfN (fr to l:List Int):Int:=if dfE fr to=0 then (l.length:Int) else 0
def dfO (fr to:List Int):List Int:=if dfE fr to=0 then dfM fr.length fr to fr.length else []
theorem ZyJ {A B i g:Nat} (hg:g < A) (hi:i < B):i*A+g < A*B:=by
 have:(i+1)*A≤B*A:=Nat.mul_le_mul_right _ hi
 rw [Nat.add_mul,Nat.one_mul,Nat.mul_comm B] at this
 omega
theorem ZzA (p:Int):(Zd5 p).length≤3:=by
 unfold Zd5
 repeat' split
 all_goals decide
theorem ZvY (p:Int):∀ l∈Zd5 p,l.length≤2:=by
 unfold Zd5
 repeat' split
 all_goals decide
theorem ZA5 (l:List Int) (v:Int) (hl:l.length≤1000000):Spec Tryz.prog 0 129 [vL (LI .i64 l),vI .i64 v] [] [] (vI .i64 (Zt7 l v)) [] []:=by
 refine sE (md:=fun _=>0) (L:=[]) [] 66483 Zb Tryz.func129 rfl rfl rfl ?_
 simp (maxSteps:=1000000) only [↓Zo,Ze,Zd,Zn,gSt,gS0,Ya,Yb,↓reduceIte,reduceCtorEq,Yc,Yd,Ye,Yf,Yg,Yj,Yk,Yl,Ym,Yn,gE1,Tryz.ntmps129,Tryz.results129,gTT]
 refine Zl (fun n=>⟨[(8,vI .i64 (n:Nat))],[],[]⟩) (fun n=>n≤l.length∧v∉l.take n) (fun n=>l.length - n) (·+1) 0 ⟨Nat.zero_le _,by simp⟩ ?_ ?_
 ·simp (maxSteps:=1000000) only [↓Zo,Ze,Zd,Zn,gSt,gS0,Ya,Yb,↓reduceIte,reduceCtorEq,Yc,Yd,Ye,Yf,Yg,Yj,Yk,Yl,Ym,Yn,gE1,Tryz.ntmps129,Tryz.results129,gTT]
  rfl
 rintro n ⟨hn,hnot⟩
 simp (maxSteps:=1000000) only [↓Zo,Ze,Zd,Zn,gSt,gS0,Ya,Yb,↓reduceIte,reduceCtorEq,Yc,Yd,Ye,Yf,Yg,Yj,Yk,Yl,Ym,Yn,gE1,Tryz.ntmps129,Tryz.results129,gTT]
 refine ⟨fun h1=>?_,fun h1=>?_⟩
 ·have hlt:n < l.length:=by have:=of_decide_eq_true h1; omega
  have hg:l[n]?.getD 0=l[n]:=by rw [List.getElem?_eq_getElem hlt]; rfl
  rw [hg]
  refine ⟨by omega,fun h2=>?_,fun h2=>?_⟩
  ·rw [ZEV hlt hnot (beq_iff_eq.1 h2).symm]
  ·exact ⟨(Zaz _ (by omega)).symm,⟨by omega,Zkp hlt hnot (fun e=>(beq_eq_false_iff_ne.1 h2) e.symm)⟩,by omega⟩
 ·have:n=l.length:=by have:=of_decide_eq_false h1; omega
  rw [this,List.take_length] at hnot
  rw [Zuc hnot]
def Zls:List V→Zf→Zw→Name→Option Ent
 | [.c (.d (.list q_l)),.c (.d (.int .i64 v))],[],[],_=>some ⟨(Zc q_l).length≤1000000∧q_l=LI .i64 (Zc q_l),vI .i64 (Zt7 (Zc q_l) v),[],[]⟩
 | _,_,_,_=>none
def Zov:=And.intro (@Zls.eq_1) (@Zls.eq_1)
theorem Zow:Snd Tryz.prog 129 Zls:=by
 intro vs b k n e h hn hp
 unfold Zls at h
 split at h
 ·cases h; obtain ⟨hp0,hq0⟩:=hp; obtain ⟨_,rfl⟩:=Zu hq0; simp only [Zi,Zp,Zj,Zq] at hp0 ⊢; exact (ZA5 _ _ hp0).lift rfl _
 ·cases h
theorem Zm8 (l:List Int) (v:Int) (hl:l.length≤1000000):Spec Tryz.prog 0 51 [vL (LI .i64 l),vI .i64 v] [] [] (vB (decide (v∈l))) [] []:=by
 refine sE (md:=fun _=>0) (L:=[(129,Zls)]) [] 19 (Za Zow Zb) Tryz.func51 rfl rfl rfl ?_
 simp (maxSteps:=1000000) only [↓Zo,Ze,Zd,Zn,gSt,gS0,Ya,Yb,↓reduceIte,reduceCtorEq,Yc,Yd,Ye,Yf,Yg,Yj,Yk,Yl,Ym,Yn,Zov,gE1,Tryz.ntmps51,Tryz.results51,gTT]
 exact ⟨hl,idx_iff.symm⟩
def Zcp:List V→Zf→Zw→Name→Option Ent
 | [.c (.d (.list q_l)),.c (.d (.int .i64 v))],[],[],_=>some ⟨(Zc q_l).length≤1000000∧q_l=LI .i64 (Zc q_l),vB (decide (v∈(Zc q_l))),[],[]⟩
 | _,_,_,_=>none
def Zap:=And.intro (@Zcp.eq_1) (@Zcp.eq_1)
theorem Zgc:Snd Tryz.prog 51 Zcp:=by
 intro vs b k n e h hn hp
 unfold Zcp at h
 split at h
 ·cases h; obtain ⟨hp0,hq0⟩:=hp; obtain ⟨_,rfl⟩:=Zu hq0; simp only [Zi,Zp,Zj,Zq] at hp0 ⊢; exact (Zm8 _ _ hp0).lift rfl _
 ·cases h
theorem ZAB (l:List Int) (v:Int) (hl:l.length≤1000000):Spec Tryz.prog 0 83 [vL (LI .i64 l),vI .i64 v] [] [] (vI .i64 (Zt7 l v)) [] []:=by
 refine sE (md:=fun _=>0) (L:=[(129,Zls)]) [] 19 (Za Zow Zb) Tryz.func83 rfl rfl rfl ?_
 simp (maxSteps:=1000000) only [↓Zo,Ze,Zd,Zn,gSt,gS0,Ya,Yb,↓reduceIte,reduceCtorEq,Yc,Yd,Ye,Yf,Yg,Yj,Yk,Yl,Ym,Yn,Zov,gE1,Tryz.ntmps83,Tryz.results83,gTT]
 exact hl
def ZnA:List V→Zf→Zw→Name→Option Ent
 | [.c (.d (.list q_l)),.c (.d (.int .i64 v))],[],[],_=>some ⟨(Zc q_l).length≤1000000∧q_l=LI .i64 (Zc q_l),vI .i64 (Zt7 (Zc q_l) v),[],[]⟩
 | _,_,_,_=>none
def Zcv:=And.intro (@ZnA.eq_1) (@ZnA.eq_1)
theorem Zxt:Snd Tryz.prog 83 ZnA:=by
 intro vs b k n e h hn hp
 unfold ZnA at h
 split at h
 ·cases h; obtain ⟨hp0,hq0⟩:=hp; obtain ⟨_,rfl⟩:=Zu hq0; simp only [Zi,Zp,Zj,Zq] at hp0 ⊢; exact (ZAB _ _ hp0).lift rfl _
 ·cases h
theorem Zss (m:List Int) (hl:m.length≤1000000):Spec Tryz.prog 0 80 [vL (LI .i64 m)] [] [] (vB (chV m)) [] []:=by
 refine sE (md:=fun _=>0) (L:=[(51,Zcp)]) [(6,[0,0,0,0,0,8556507165,0,0,0,0,0,6509686813,0])] 4295094301 (Za Zgc Zb) Tryz.func80 rfl rfl rfl ?_
 simp (maxSteps:=1000000) only [↓Zo,Ze,Zd,Zn,gSt,gS0,Ya,Yb,↓reduceIte,reduceCtorEq,Yc,Yd,Ye,Yf,Yg,Yj,Yk,Yl,Ym,Yn,Zap,gE1,Tryz.ntmps80,Tryz.results80,gTT]
 refine ⟨fun h=>?_,fun h=>?_⟩
 ·have:(decide (1≤m.length) && decide (m.length≤8))=false:=by
   simp only [Bool.or_eq_true,decide_eq_true_eq] at h
   simp only [Bool.and_eq_false_iff,decide_eq_false_iff_not]
   omega
  simp [chV,this]
 have hlen:1≤m.length∧m.length≤8:=by
  simp only [Bool.or_eq_false_iff,decide_eq_false_iff_not] at h
  omega
 refine Zl (fun n=>⟨[(15,vI .i64 (n:Nat))],[],[]⟩) (fun n=>n≤m.length∧chP m n=true) (fun n=>m.length - n) (·+1) 0 ⟨Nat.zero_le _,rfl⟩ ?_ ?_
 ·simp (maxSteps:=1000000) only [↓Zo,Ze,Zd,Zn,gSt,gS0,Ya,Yb,↓reduceIte,reduceCtorEq,Yc,Yd,Ye,Yf,Yg,Yj,Yk,Yl,Ym,Yn,Zap,gE1,Tryz.ntmps80,Tryz.results80,gTT]
  rfl
 rintro n ⟨hn,hok⟩
 simp (maxSteps:=1000000) only [↓Zo,Ze,Zd,Zn,gSt,gS0,Ya,Yb,↓reduceIte,reduceCtorEq,Yc,Yd,Ye,Yf,Yg,Yj,Yk,Yl,Ym,Yn,Zap,gE1,Tryz.ntmps80,Tryz.results80,gTT]
 refine ⟨fun h1=>?_,fun h1=>?_⟩
 ·have hlt:n < m.length:=by have:=of_decide_eq_true h1; omega
  have hg:m[n]?.getD 0=m[n]:=by rw [List.getElem?_eq_getElem hlt]; rfl
  have hn0:n - 0=n:=rfl
  simp only [hg,hn0]
  refine ⟨by omega,fun _=>by omega,fun _=>by simp only [List.length_take]; omega,fun h2=>?_,fun h2=>?_⟩
  ·have:chU m=false:=ZEB hlt (by unfold okC; rw [hg,h2]; rfl)
   simp [chV,this]
  ·exact ⟨(Zaz _ (by omega)).symm,⟨by omega,ZB3 hok (by unfold okC; rw [hg,h2]; rfl)⟩,by omega⟩
 ·have:n=m.length:=by have:=of_decide_eq_false h1; omega
  rw [this] at hok
  have hu:chU m=true:=hok
  simp [chV,hlen.1,hlen.2,hu]
def ZdG:List V→Zf→Zw→Name→Option Ent
 | [.c (.d (.list q_m))],[],[],_=>some ⟨(Zc q_m).length≤1000000∧q_m=LI .i64 (Zc q_m),vB (chV (Zc q_m)),[],[]⟩
 | _,_,_,_=>none
def Zaj:=And.intro (@ZdG.eq_1) (@ZdG.eq_1)
theorem Zfz:Snd Tryz.prog 80 ZdG:=by
 intro vs b k n e h hn hp
 unfold ZdG at h
 split at h
 ·cases h; obtain ⟨hp0,hq0⟩:=hp; obtain ⟨_,rfl⟩:=Zu hq0; simp only [Zi,Zp,Zj,Zq] at hp0 ⊢; exact (Zss _ hp0).lift rfl _
 ·cases h
theorem Zwz (p:Int):Spec Tryz.prog 0 84 [vI .i64 p] [] [] (vL (LL .i64 (Zd5 p))) [] []:=by
 refine sE (md:=fun _=>0) (L:=[]) [] 2181570845 Zb Tryz.func84 rfl rfl rfl ?_
 simp (maxSteps:=1000000) only [↓Zo,Ze,Zd,Zn,gSt,gS0,Ya,Yb,↓reduceIte,reduceCtorEq,Yc,Yd,Ye,Yf,Yg,Yj,Yk,Yl,Ym,Yn,gE1,Tryz.ntmps84,Tryz.results84,gTT]
 have key:p=3∨p=1∨p=2∨p=5∨p=6∨p=7∨p=8∨(p≠3∧p≠1∧p≠2∧p≠5∧p≠6∧p≠7∧p≠8):=by omega
 rcases key with rfl | rfl | rfl | rfl | rfl | rfl | rfl | ⟨h3,h1,h2,h5,h6,h7,h8⟩
 all_goals first
  | (simp [Zd5,LL,LI]; done)
  | simp [Zd5,LL,LI,h3,h1,h2,h5,h6,h7,h8]
def Zi3:List V→Zf→Zw→Name→Option Ent
 | [.c (.d (.int .i64 p))],[],[],_=>some ⟨True,vL (LL .i64 (Zd5 p)),[],[]⟩
 | _,_,_,_=>none
def ZbO:=And.intro (@Zi3.eq_1) (@Zi3.eq_1)
theorem Zu8:Snd Tryz.prog 84 Zi3:=by
 intro vs b k n e h hn hp
 unfold Zi3 at h
 split at h
 ·cases h; exact (Zwz _).lift rfl _
 ·cases h
theorem Zsp (a b:List Int) (ha:a.length≤1000000) (hb:b.length≤1000000):Spec Tryz.prog 0 85 [vL (LI .i64 a),vL (LI .i64 b)] [] [] (vL (LI .i64 (ZeP a b))) [] []:=by
 refine sE (md:=fun _=>0) (L:=[(51,Zcp)]) [] 69555 (Za Zgc Zb) Tryz.func85 rfl rfl rfl ?_
 simp (maxSteps:=1000000) only [↓Zo,Ze,Zd,Zn,gSt,gS0,Ya,Yb,↓reduceIte,reduceCtorEq,Yc,Yd,Ye,Yf,Yg,Yj,Yk,Yl,Ym,Yn,Zap,gE1,Tryz.ntmps85,Tryz.results85,gTT]
 refine Ze4 5 1 ⟨1,99⟩ rfl (by simp (maxSteps:=1000000) only [↓Zo,Ze,Zd,Zn,gSt,gS0,Ya,Yb,↓reduceIte,reduceCtorEq,Yc,Yd,Ye,Yf,Yg,Yj,Yk,Yl,Ym,Yn,Zap,gE1,Tryz.ntmps85,Tryz.results85,gTT]) (Nat.le_refl _) ?_
 simp (maxSteps:=1000000) only [↓Zo,Ze,Zd,Zn,gSt,gS0,Ya,Yb,↓reduceIte,reduceCtorEq,Yc,Yd,Ye,Yf,Yg,Yj,Yk,Yl,Ym,Yn,Zap,gE1,Tryz.ntmps85,Tryz.results85,gTT]
 refine Zl (fun n=>⟨[(10,vI .i64 (n:Nat)),(5,.c (.own ⟨1,99⟩ (LI .i64 (ZeP (a.take n) b))))],[],[(⟨1,99⟩,⟨false,1,LI .i64 (ZeP (a.take n) b)⟩)]⟩) (fun n=>n≤a.length) (fun n=>a.length - n) (·+1) 0 (Nat.zero_le _) ?_ ?_
 ·simp (maxSteps:=1000000) only [↓Zo,Ze,Zd,Zn,gSt,gS0,Ya,Yb,↓reduceIte,reduceCtorEq,Yc,Yd,Ye,Yf,Yg,Yj,Yk,Yl,Ym,Yn,Zap,gE1,Tryz.ntmps85,Tryz.results85,gTT]
  exact ⟨⟨rfl,rfl⟩,rfl⟩
 intro n hn
 simp (maxSteps:=1000000) only [↓Zo,Ze,Zd,Zn,gSt,gS0,Ya,Yb,↓reduceIte,reduceCtorEq,Yc,Yd,Ye,Yf,Yg,Yj,Yk,Yl,Ym,Yn,Zap,gE1,Tryz.ntmps85,Tryz.results85,gTT]
 have hcl:(ZeP (a.take n) b).length≤n:=by
  unfold ZeP
  have:=List.length_filter_le (fun p=>decide (p∈b)) (a.take n)
  rw [List.length_take] at this
  omega
 refine ⟨fun h1=>?_,fun h1=>?_⟩
 ·have hlt:n < a.length:=by have:=of_decide_eq_true h1; omega
  have hs:ZeP (a.take (n+1)) b=ZeP (a.take n) b++(if a[n]∈b then [a[n]] else []):=by
   unfold ZeP
   rw [List.take_add_one,List.getElem?_eq_getElem hlt,List.filter_append]
   congr 1
   simp only [Option.toList_some,List.filter_cons,List.filter_nil,decide_eq_true_eq]
  rw [List.getElem?_eq_getElem hlt,Option.getD_some,hs]
  refine ⟨by omega,hb,fun h2=>?_,fun h2=>?_⟩
  ·rw [if_pos (of_decide_eq_true h2)]
   exact ⟨by unfold Zag; omega,⟨⟨(Zaz _ (by omega)).symm,rfl⟩,rfl⟩,by omega,by omega⟩
  ·rw [if_neg (of_decide_eq_false h2),List.append_nil]
   exact ⟨⟨⟨(Zaz _ (by omega)).symm,rfl⟩,rfl⟩,by omega,by omega⟩
 ·have:n=a.length:=by have:=of_decide_eq_false h1; omega
  rw [this,List.take_length]
def Zga:List V→Zf→Zw→Name→Option Ent
 | [.c (.d (.list q_a)),.c (.d (.list q_b))],[],[],_=>some ⟨(Zc q_a).length≤1000000∧(Zc q_b).length≤1000000∧q_a=LI .i64 (Zc q_a)∧q_b=LI .i64 (Zc q_b),vL (LI .i64 (ZeP (Zc q_a) (Zc q_b))),[],[]⟩
 | _,_,_,_=>none
def Zbq:=And.intro (@Zga.eq_1) (@Zga.eq_1)
theorem Zq1:Snd Tryz.prog 85 Zga:=by
 intro vs b k n e h hn hp
 unfold Zga at h
 split at h
 ·cases h; obtain ⟨hp0,hp1,hq0,hq1⟩:=hp; obtain ⟨_,rfl⟩:=Zu hq0; obtain ⟨_,rfl⟩:=Zu hq1; simp only [Zi,Zp,Zj,Zq] at hp0 hp1 ⊢; exact (Zsp _ _ hp0 hp1).lift rfl _
 ·cases h
theorem ZAF (fr to:List Int) (hf:fr.length≤1000000) (ht:to.length≤1000000):Spec Tryz.prog 0 29 [vL (LI .i64 fr),vL (LI .i64 to)] [] [] (.tup [.agg [.int .i64 (dfN fr to fr),.int .i64 (dfN fr to to),.list (LI .i64 (dfO fr to))],.int .i64 (dfE fr to)]) [] []:=by
 refine spec_of_E (X:=⟨Tryz.prog,tt,Tryz.f29.ntmps,1,fun _=>0,(tab [(80,ZdG),(81,ZiZ),(82,Zjj),(83,ZnA),(84,Zi3),(85,Zga)])⟩) (M:=[(1000022,[5002])]) (m:=142979159500114647027) rfl rfl ⟨Zah,ZU (Za Zfz (Za Zu5 (Za Zlr (Za Zxt (Za Zu8 (Za Zq1 Zb)))))) _ rfl rfl⟩ ZB Tryz.func29 rfl (by decide) (by show (2:Nat)≤_; exact Nat.le_of_ble_eq_true rfl) ⟨by simp [V.has,C.has,Z6],by simp [C.has],by simp⟩ ?_
 simp (maxSteps:=1000000) only [↓Zo,Ze,Zd,Zn,gSt,gS0,Ya,Yb,↓reduceIte,reduceCtorEq,Yc,Yd,Ye,Yf,Yg,Yj,Yk,Yl,Ym,Yn,Zaj,ZbL,ZbQ,Zcv,ZbO,Zbq,gE1,Tryz.ntmps29,Tryz.results29,gTT]
 refine ⟨hf,fun _=>ht,fun h=>?_,fun h=>?_⟩
 ·have e:dfE fr to=1:=by simp [dfE,h]
  simp [dfN,dfO,e,Zy]
 have e:dfE fr to=0:=by simp [dfE,h]
 have eN:∀ l,dfN fr to l=(l.length:Int):=fun l=>by simp [dfN,e]
 have eO:dfO fr to=dfM fr.length fr to fr.length:=by simp [dfO,e]
 simp only [Bool.or_eq_false_iff,Bool.not_eq_false'] at h
 have hF:=ZDA h.1
 have hT:=ZDA h.2
 rw [eN,eN,eO,e]
 refine ⟨by omega,⟨by omega,by omega,by rw [← Int.natCast_mul,Int.toNat_natCast]⟩,?_⟩
 rw [← Int.natCast_mul,Int.toNat_natCast]
 have hF8:fr.length≤8:=hF.2.1
 have hT8:to.length≤8:=hT.2.1
 refine Zl (fun g=>⟨[(33,vI .i64 (g:Nat))],[],[(⟨1,28⟩,⟨true,1,LI .i64 (dfM fr.length fr to g)⟩)]⟩) (fun g=>g≤fr.length) (fun g=>fr.length - g) (·+1) 0 (Nat.zero_le _) ?_ ?_
 ·simp (maxSteps:=1000000) only [↓Zo,Ze,Zd,Zn,gSt,gS0,Ya,Yb,↓reduceIte,reduceCtorEq,Yc,Yd,Ye,Yf,Yg,Yj,Yk,Yl,Ym,Yn,Zaj,ZbL,ZbQ,Zcv,ZbO,Zbq,gE1,Tryz.ntmps29,Tryz.results29,gTT]
  exact ⟨rfl,rfl⟩
 intro g hg
 simp (maxSteps:=1000000) only [↓Zo,Ze,Zd,Zn,gSt,gS0,Ya,Yb,↓reduceIte,reduceCtorEq,Yc,Yd,Ye,Yf,Yg,Yj,Yk,Yl,Ym,Yn,Zaj,ZbL,ZbQ,Zcv,ZbO,Zbq,gE1,Tryz.ntmps29,Tryz.results29,gTT]
 have hlen:=Zy5 fr.length fr to g
 refine ⟨fun h1=>?_,fun h1=>?_⟩
 ·have hgl:g < fr.length:=by have:=of_decide_eq_true h1; omega
  generalize hp:fr[g]?.getD 0=p
  generalize hM:dfM fr.length fr to g=M at *
  have hstep:dfM fr.length fr to (g+1)=Zxh fr.length to g p M:=by rw [← hp,← hM]; rfl
  refine ⟨by omega,ht,fun h2=>?_,fun h2=>?_⟩
  ·rw [idx_iff,decide_eq_true_eq] at h2
   have hi:=ZzD h2
   have hb:=ZyJ (A:=fr.length) hgl hi.2.1
   rw [hstep,ZED h2]
   exact ⟨by omega,by omega,by omega,⟨(Zaz _ (by omega)).symm,rfl⟩,by omega,by omega⟩
  rw [idx_iff,decide_eq_false_iff_not] at h2
  have hl3:=ZzA p
  have hl2:=ZvY p
  generalize hh:Zd5 p=H at *
  refine Zl (fun j=>⟨[(52,vI .i64 (j:Nat))],[],[]⟩) (fun j=>j≤H.length∧∀ i,i < j→ZDU to (H[i]?.getD [])=false) (fun j=>H.length - j) (·+1) 0 ⟨Nat.zero_le _,fun i hi=>absurd hi (Nat.not_lt_zero _)⟩ ?_ ?_
  ·simp (maxSteps:=1000000) only [↓Zo,Ze,Zd,Zn,gSt,gS0,Ya,Yb,↓reduceIte,reduceCtorEq,Yc,Yd,Ye,Yf,Yg,Yj,Yk,Yl,Ym,Yn,Zaj,ZbL,ZbQ,Zcv,ZbO,Zbq,gE1,Tryz.ntmps29,Tryz.results29,gTT]
   rfl
  rintro j ⟨hj,hno⟩
  simp (maxSteps:=1000000) only [↓Zo,Ze,Zd,Zn,gSt,gS0,Ya,Yb,↓reduceIte,reduceCtorEq,Yc,Yd,Ye,Yf,Yg,Yj,Yk,Yl,Ym,Yn,Zaj,ZbL,ZbQ,Zcv,ZbO,Zbq,gE1,Tryz.ntmps29,Tryz.results29,gTT]
  refine ⟨fun h3=>?_,fun h3=>?_⟩
  ·have hjl:j < H.length:=by have:=of_decide_eq_true h3; omega
   have hgj:H[j]?.getD []=H[j]:=by rw [List.getElem?_eq_getElem hjl]; rfl
   rw [hgj]
   have hl:=hl2 _ (List.getElem_mem hjl)
   generalize hL:H[j]=L at *
   refine ⟨by omega,⟨by omega,ht⟩,fun h4=>?_,fun h4=>?_⟩
   ·rw [ZoX] at h4
    have h4':ZDU to L=false:=by simpa using h4
    refine ⟨(Zaz _ (by omega)).symm,⟨by omega,fun i hi=>?_⟩,by omega⟩
    by_cases hij:i=j
    ·rw [hij,hgj]; exact h4'
    ·exact hno i (by omega)
   rw [ZoX] at h4
   have h4':ZDU to L=true:=by simpa using h4
   have hq:∀ q∈L,q∈to:=fun q hq=>of_decide_eq_true (List.all_eq_true.1 h4' q hq)
   have hcol:Zxh fr.length to g p M=L.foldl (Zxm fr.length to g 23170) M:=by
    refine ZyZ h2 ?_
    rw [hh,← hL]
    exact ZEI hjl hno (hL ▸ h4')
   refine Zl (fun i=>⟨[(65,vI .i64 (i:Nat))],[],[(⟨1,28⟩,⟨true,1,LI .i64 ((L.take i).foldl (Zxm fr.length to g 23170) M)⟩)]⟩) (fun i=>i≤L.length) (fun i=>L.length - i) (·+1) 0 (Nat.zero_le _) ?_ ?_
   ·simp (maxSteps:=1000000) only [↓Zo,Ze,Zd,Zn,gSt,gS0,Ya,Yb,↓reduceIte,reduceCtorEq,Yc,Yd,Ye,Yf,Yg,Yj,Yk,Yl,Ym,Yn,Zaj,ZbL,ZbQ,Zcv,ZbO,Zbq,gE1,Tryz.ntmps29,Tryz.results29,gTT]
    exact ⟨rfl,rfl⟩
   intro i hi
   simp (maxSteps:=1000000) only [↓Zo,Ze,Zd,Zn,gSt,gS0,Ya,Yb,↓reduceIte,reduceCtorEq,Yc,Yd,Ye,Yf,Yg,Yj,Yk,Yl,Ym,Yn,Zaj,ZbL,ZbQ,Zcv,ZbO,Zbq,gE1,Tryz.ntmps29,Tryz.results29,gTT]
   have hfl:=ZmL fr.length to g 23170 (L.take i) M
   refine ⟨fun h5=>?_,fun h5=>?_⟩
   ·have hil:i < L.length:=by have:=of_decide_eq_true h5; omega
    have hgi:L[i]?.getD 0=L[i]:=by rw [List.getElem?_eq_getElem hil]; rfl
    have hqi:=ZzD (hq _ (List.getElem_mem hil))
    have hb:=ZyJ (A:=fr.length) hgl hqi.2.1
    have hf1:(L.take (i+1)).foldl (Zxm fr.length to g 23170) M=Zxm fr.length to g 23170 ((L.take i).foldl (Zxm fr.length to g 23170) M) L[i]:=by
     rw [List.take_add_one,List.getElem?_eq_getElem hil,List.foldl_append]
     rfl
    rw [hgi,hf1]
    exact ⟨by omega,ht,by omega,by omega,by omega,⟨(Zaz _ (by omega)).symm,rfl⟩,by omega,by omega⟩
   ·have:i=L.length:=by have:=of_decide_eq_false h5; omega
    rw [this,List.take_length,← hcol,hstep]
    exact ⟨⟨(Zaz _ (by omega)).symm,rfl⟩,by omega,by omega⟩
  ·have:j=H.length:=by have:=of_decide_eq_false h3; omega
   rw [this] at hno
   rw [hstep,ZyY h2 (by rw [hh]; exact ZEJ hno)]
   exact ⟨⟨(Zaz _ (by omega)).symm,rfl⟩,by omega,by omega⟩
 ·have:g=fr.length:=by have:=of_decide_eq_false h1; omega
  rw [this] at hlen ⊢
  exact ⟨hlen.symm,rfl⟩
def ZnG:List V→Zf→Zw→Name→Option Ent
 | [.c (.d (.list q_fr)),.c (.d (.list q_to))],[],[],_=>some ⟨(Zc q_fr).length≤1000000∧(Zc q_to).length≤1000000∧q_fr=LI .i64 (Zc q_fr)∧q_to=LI .i64 (Zc q_to),.tup [.agg [.int .i64 (dfN (Zc q_fr) (Zc q_to) (Zc q_fr)),.int .i64 (dfN (Zc q_fr) (Zc q_to) (Zc q_to)),.list (LI .i64 (dfO (Zc q_fr) (Zc q_to)))],.int .i64 (dfE (Zc q_fr) (Zc q_to))],[],[]⟩
 | _,_,_,_=>none
def Zxx:=And.intro (@ZnG.eq_1) (@ZnG.eq_1)
theorem Zxy:Snd Tryz.prog 29 ZnG:=by
 intro vs b k n e h hn hp
 unfold ZnG at h
 split at h
 ·cases h; obtain ⟨hp0,hp1,hq0,hq1⟩:=hp; obtain ⟨_,rfl⟩:=Zu hq0; obtain ⟨_,rfl⟩:=Zu hq1; simp only [Zi,Zp,Zj,Zq] at hp0 hp1 ⊢; exact (ZAF _ _ hp0 hp1).lift rfl _
 ·cases h
end Go.Vam
end
section
set_option linter.unusedVariables false
set_option linter.defProp false
set_option linter.unusedSimpArgs false
set_option maxRecDepth 40000
set_option maxHeartbeats 4000000
namespace Go.Vam
open Go.Proofs
open Nat renaming reduceShiftRight→Ya,reduceMod→Yb,reduceEqDiff→Yc,reduceLT→Yd,reduceLeDiff→Ye,reduceAdd→Yf,reduceMul→Yg
open Int renaming reduceLE→Yj,reduceLT→Yk,reduceNeg→Yl,reduceAdd→Ym,reduceToNat→Yn
def szK (k:Int):Int:=if k=1 then 1 else if k=2 then 2 else if k=3 then 2 else if k=4 then 3 else if k=5 then 3 else if k=6 then 4 else if k=7 then 4 else 0
def ZKC (k:Int):Bool:=k==3 || k==5 || k==7
theorem ZK1 (n:Int):n.fdiv (2 ^ Nat.min 16 IntKind.i64.bits)=n / 65536:=Int.fdiv_eq_ediv_of_nonneg n (show (0:Int)≤65536 by decide)
theorem ZAH (k:Int):Spec Tryz.prog 0 74 [vI .i64 k] [] [] (.agg [.d (.int .i64 (szK k)),.d (.bool (ZKC k))]) [] []:=by
 refine sE (md:=fun _=>0) (L:=[]) [(1,[0,0,0,0,0,1107294893,0,0,0,0,0,1107208877,0,0,0,0])] 1105199149 Zb Tryz.func74 rfl rfl rfl ?_
 simp (maxSteps:=1000000) only [↓Zo,Ze,Zd,Zn,gSt,gS0,Ya,Yb,↓reduceIte,reduceCtorEq,Yc,Yd,Ye,Yf,Yg,Yj,Yk,Yl,Ym,Yn,gE1,Tryz.ntmps74,Tryz.results74,gTT]
 refine Zl (fun g=>⟨[(23,vI .i64 (g:Nat))],[],[]⟩) (fun g=>g≤7∧(k < 1∨(g:Int) < k)) (fun g=>7 - g) (·+1) 0 ⟨by decide,by omega⟩ ?_ ?_
 ·simp (maxSteps:=1000000) only [↓Zo,Ze,Zd,Zn,gSt,gS0,Ya,Yb,↓reduceIte,reduceCtorEq,Yc,Yd,Ye,Yf,Yg,Yj,Yk,Yl,Ym,Yn,gE1,Tryz.ntmps74,Tryz.results74,gTT]
  rfl
 rintro g ⟨h1,h2⟩
 match g,h1,h2 with
 | 0,h1,h2 =>
  simp (maxSteps:=1000000) only [↓Zo,Ze,Zd,Zn,gSt,gS0,Ya,Yb,↓reduceIte,reduceCtorEq,Yc,Yd,Ye,Yf,Yg,Yj,Yk,Yl,Ym,Yn,gE1,Tryz.ntmps74,Tryz.results74,gTT]
  refine ⟨fun _=>⟨by omega,fun e=>?_,fun e=>?_⟩,fun e=>by simp at e⟩
  ·have e1:=beq_iff_eq.1 e
   subst e1
   decide
  ·have e1:¬ (1=k):=by simpa using e
   exact ⟨rfl,by omega,by decide⟩
 | 1,h1,h2 =>
  simp (maxSteps:=1000000) only [↓Zo,Ze,Zd,Zn,gSt,gS0,Ya,Yb,↓reduceIte,reduceCtorEq,Yc,Yd,Ye,Yf,Yg,Yj,Yk,Yl,Ym,Yn,gE1,Tryz.ntmps74,Tryz.results74,gTT]
  refine ⟨fun _=>⟨by omega,fun e=>?_,fun e=>?_⟩,fun e=>by simp at e⟩
  ·have e1:=beq_iff_eq.1 e
   subst e1
   decide
  ·have e1:¬ (2=k):=by simpa using e
   exact ⟨rfl,by omega,by decide⟩
 | 2,h1,h2 =>
  simp (maxSteps:=1000000) only [↓Zo,Ze,Zd,Zn,gSt,gS0,Ya,Yb,↓reduceIte,reduceCtorEq,Yc,Yd,Ye,Yf,Yg,Yj,Yk,Yl,Ym,Yn,gE1,Tryz.ntmps74,Tryz.results74,gTT]
  refine ⟨fun _=>⟨by omega,fun e=>?_,fun e=>?_⟩,fun e=>by simp at e⟩
  ·have e1:=beq_iff_eq.1 e
   subst e1
   decide
  ·have e1:¬ (3=k):=by simpa using e
   exact ⟨rfl,by omega,by decide⟩
 | 3,h1,h2 =>
  simp (maxSteps:=1000000) only [↓Zo,Ze,Zd,Zn,gSt,gS0,Ya,Yb,↓reduceIte,reduceCtorEq,Yc,Yd,Ye,Yf,Yg,Yj,Yk,Yl,Ym,Yn,gE1,Tryz.ntmps74,Tryz.results74,gTT]
  refine ⟨fun _=>⟨by omega,fun e=>?_,fun e=>?_⟩,fun e=>by simp at e⟩
  ·have e1:=beq_iff_eq.1 e
   subst e1
   decide
  ·have e1:¬ (4=k):=by simpa using e
   exact ⟨rfl,by omega,by decide⟩
 | 4,h1,h2 =>
  simp (maxSteps:=1000000) only [↓Zo,Ze,Zd,Zn,gSt,gS0,Ya,Yb,↓reduceIte,reduceCtorEq,Yc,Yd,Ye,Yf,Yg,Yj,Yk,Yl,Ym,Yn,gE1,Tryz.ntmps74,Tryz.results74,gTT]
  refine ⟨fun _=>⟨by omega,fun e=>?_,fun e=>?_⟩,fun e=>by simp at e⟩
  ·have e1:=beq_iff_eq.1 e
   subst e1
   decide
  ·have e1:¬ (5=k):=by simpa using e
   exact ⟨rfl,by omega,by decide⟩
 | 5,h1,h2 =>
  simp (maxSteps:=1000000) only [↓Zo,Ze,Zd,Zn,gSt,gS0,Ya,Yb,↓reduceIte,reduceCtorEq,Yc,Yd,Ye,Yf,Yg,Yj,Yk,Yl,Ym,Yn,gE1,Tryz.ntmps74,Tryz.results74,gTT]
  refine ⟨fun _=>⟨by omega,fun e=>?_,fun e=>?_⟩,fun e=>by simp at e⟩
  ·have e1:=beq_iff_eq.1 e
   subst e1
   decide
  ·have e1:¬ (6=k):=by simpa using e
   exact ⟨rfl,by omega,by decide⟩
 | 6,h1,h2 =>
  simp (maxSteps:=1000000) only [↓Zo,Ze,Zd,Zn,gSt,gS0,Ya,Yb,↓reduceIte,reduceCtorEq,Yc,Yd,Ye,Yf,Yg,Yj,Yk,Yl,Ym,Yn,gE1,Tryz.ntmps74,Tryz.results74,gTT]
  refine ⟨fun _=>⟨by omega,fun e=>?_,fun e=>?_⟩,fun e=>by simp at e⟩
  ·have e1:=beq_iff_eq.1 e
   subst e1
   decide
  ·have e1:¬ (7=k):=by simpa using e
   exact ⟨rfl,by omega,by decide⟩
 | 7,h1,h2 =>
  simp (maxSteps:=1000000) only [↓Zo,Ze,Zd,Zn,gSt,gS0,Ya,Yb,↓reduceIte,reduceCtorEq,Yc,Yd,Ye,Yf,Yg,Yj,Yk,Yl,Ym,Yn,gE1,Tryz.ntmps74,Tryz.results74,gTT]
  refine ⟨fun e=>by simp at e,fun _=>⟨by unfold szK; omega,?_⟩⟩
  simp only [ZKC,Bool.or_eq_false_iff,beq_eq_false_iff_ne]
  omega
 | g+8,h1,h2=>omega
def ZnN:List V→Zf→Zw→Name→Option Ent
 | [.c (.d (.int .i64 k))],[],[],_=>some ⟨True,.agg [.d (.int .i64 (szK k)),.d (.bool (ZKC k))],[],[]⟩
 | _,_,_,_=>none
def ZxA:=And.intro (@ZnN.eq_1) (@ZnN.eq_1)
theorem ZxB:Snd Tryz.prog 74 ZnN:=by
 intro vs b k n e h hn hp
 unfold ZnN at h
 split at h
 ·cases h; exact (ZAH _).lift rfl _
 ·cases h
theorem ZA7 (k:Int):Spec Tryz.prog 0 176 [vI .i64 k] [] [] (vI .i64 (szK k)) [] []:=by
 refine sE (md:=fun _=>0) (L:=[(74,ZnN)]) [] 5 (Za ZxB Zb) Tryz.func176 rfl rfl rfl ?_
 simp (maxSteps:=1000000) only [↓Zo,Ze,Zd,Zn,gSt,gS0,Ya,Yb,↓reduceIte,reduceCtorEq,Yc,Yd,Ye,Yf,Yg,Yj,Yk,Yl,Ym,Yn,ZxA,gE1,Tryz.ntmps176,Tryz.results176,gTT]
def Zox:List V→Zf→Zw→Name→Option Ent
 | [.c (.d (.int .i64 k))],[],[],_=>some ⟨True,vI .i64 (szK k),[],[]⟩
 | _,_,_,_=>none
def Zx6:=And.intro (@Zox.eq_1) (@Zox.eq_1)
theorem Zx7:Snd Tryz.prog 176 Zox:=by
 intro vs b k n e h hn hp
 unfold Zox at h
 split at h
 ·cases h; exact (ZA7 _).lift rfl _
 ·cases h
end Go.Vam
end
