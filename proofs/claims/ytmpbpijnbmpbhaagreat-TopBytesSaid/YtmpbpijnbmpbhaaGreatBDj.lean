/- A part of the proof. Conditions: none. -/
import Derived.Test.YtmpbpijnbmpbhaaGreatBDh
import Derived.Test.YtmpbpijnbmpbhaaGreatBVm
import Derived.WalkKit
import Derived.OwnWalk
import Derived.Lib.Walk
import Derived.Lib.SliceRun
section
set_option linter.unusedVariables false
set_option linter.defProp false
set_option linter.unusedSimpArgs false
set_option maxRecDepth 40000
set_option maxHeartbeats 4000000
namespace Go.Vam
open Go.Proofs
open Go.RowKit Go.Shelf Go.Lib
theorem Zu5:(Tryz.prog.info? 134).map (fun i=>(i.zero,i.size,i.bytes))=some (some (.agg #[.int .i64 0,.slice none 0 0,.slice none 0 0,.slice none 0 0]),4,80):=by kernel_rfl
theorem Zf0:Tryz.prog.underlying 29=some (.slice 134):=Tryz.underlying29
set_option maxRecDepth 100000 in
theorem ZDe (n c:Nat) (w:World):Calls Tryz.prog 135 #[.slice none n c] w fun e w'=>e=.returned (.slice none 0 0)∧w'=w:=by
 have q:∀ (w:World) (a:Option Addr) (n c n' c':Nat),(binOp .eql 29 (.slice a n c) (.slice none n' c')).run Tryz.prog w=.ok (.bool a.isNone) w:=fun w a n c n' c'=>Go.Lib.run_eql_slice_nil w _ _ a n c n' c' Zf0
 go_enter Tryz.func135,Tryz.ntmps135
 go_wp2
 go_ret
 exact ⟨rfl,rfl⟩
set_option maxRecDepth 100000 in
theorem ZzX (n:Nat) (vs:List Value) (b off c:Nat) (w:World) (hvl:vs.length=n*4) (hc:∀ j u,vs[j]?=some u→w.cell? ⟨b,off+j,none⟩=some u) (hone:∀ u∈vs,u.oneCell'=true) (hbig:n*80≤140737488355328) (hbig2:n≤1000000000) :
  Calls Tryz.prog 135 #[.slice (some ⟨b,off,none⟩) n c] w fun e w'=>∃ v',e=.returned v'∧w'.ownsRow w.heap.size 134 4 v' n vs∧Below w.heap.size w w':=by
 obtain ⟨i0,hi,hz0,hz1,hz2⟩:=info_parts Zu5
 have q:∀ (w:World) (a:Option Addr) (n c n' c':Nat),(binOp .eql 29 (.slice a n c) (.slice none n' c')).run Tryz.prog w=.ok (.bool a.isNone) w:=fun w a n c n' c'=>Go.Lib.run_eql_slice_nil w _ _ a n c n' c' Zf0
 have u:∀ w,Sem.run Tryz.prog (underlying 29) w=.ok (TypeDesc.slice 134) w:=run_underlying Zf0
 have X:Aside (∀ j u,vs[j]?=some u→w.cell? ⟨b,off+j,none⟩=some u):=hc
 have X2:Aside (∀ u∈vs,u.oneCell'=true):=hone
 have X3:Aside (vs.length=n*4):=hvl
 have Y:Aside (n*80≤140737488355328):=hbig
 have Y2:Aside (n≤1000000000):=hbig2
 clear hc hbig hone hvl hbig2
 go_enter Tryz.func135,Tryz.ntmps135
 go_wp2_with (at_builtin; refine wpList_append_own _ rfl _ _ 29 rfl w.heap.size 134 i0 (.agg #[.int .i64 0,.slice none 0 0,.slice none 0 0,.slice none 0 0]) 4 80 Zf0 hi hz0 hz1 hz2 rfl (by decide) _ _ _ rfl (World.ownsRow_made w #[] 0 (Nat.le_refl _) (Nat.zero_le _) rfl) ⟨b,off,none⟩ n c vs rfl ?qc1 ?qc2 ?qc3 ?qc4 ?qc5 ?qc6 ?qc7)
 case qc1=>exact X3.out
 case qc2 =>
  intro j u hj
  rw [Addr.add_lit]
  exact Go.Lib.cell?_alloc_some _ (X.out j u hj)
 case qc3=>exact X2.out
 case qc4=>have:=Y2.out; unfold maxLen; omega
 case qc5=>have:=Y.out; omega
 case qc6=>simp
 intro v' w1 hown hgrow hnil
 go_wp2
 go_ret
 refine ⟨v',rfl,by simpa using hown,?_⟩
 exact ((Below.refl _ w).alloc (Nat.le_refl _) _).grown hgrow (by simp) (by intro k hk; simp [Value.ownBlock] at hk; omega)
set_option maxRecDepth 100000 in
theorem ZzY (a:Addr) (c:Nat) (w:World):Calls Tryz.prog 135 #[.slice (some a) 0 c] w fun e w'=>∃ v',e=.returned v'∧w'.ownsRow w.heap.size 134 4 v' 0 []∧Below w.heap.size w w':=by
 obtain ⟨i0,hi,hz0,hz1,hz2⟩:=info_parts Zu5
 have q:∀ (w:World) (a:Option Addr) (n c n' c':Nat),(binOp .eql 29 (.slice a n c) (.slice none n' c')).run Tryz.prog w=.ok (.bool a.isNone) w:=fun w a n c n' c'=>Go.Lib.run_eql_slice_nil w _ _ a n c n' c' Zf0
 have u:∀ w,Sem.run Tryz.prog (underlying 29) w=.ok (TypeDesc.slice 134) w:=run_underlying Zf0
 go_enter Tryz.func135,Tryz.ntmps135
 go_wp2_with (at_builtin; refine wpList_append_own _ rfl _ _ 29 rfl w.heap.size 134 i0 (.agg #[.int .i64 0,.slice none 0 0,.slice none 0 0,.slice none 0 0]) 4 80 Zf0 hi hz0 hz1 hz2 rfl (by decide) _ _ _ rfl (World.ownsRow_made w #[] 0 (Nat.le_refl _) (Nat.zero_le _) rfl) a 0 c [] rfl rfl (by intro j u hj; simp at hj) (by intro u hu; cases hu) (by unfold maxLen; omega) (by decide) (by simp) ?_)
 intro v' w1 hown hgrow hnil
 go_wp2
 go_ret
 refine ⟨v',rfl,by simpa using hown,?_⟩
 exact ((Below.refl _ w).alloc (Nat.le_refl _) _).grown hgrow (by simp) (by intro k hk; simp [Value.ownBlock] at hk; omega)
theorem ZNB:Clones Tryz.prog 135 134 4 80:=⟨ZDe,ZzX,ZzY⟩
theorem Znv (l:List D) (h:(∀ x∈l,x.cells.length=4)∧l.length*80≤140737488355328∧l.length≤1000000000) (hne:l≠[]):Spec Tryz.prog 0 135 [vL l] [] [] (.c (.arr ⟨0,9⟩ l.length)) [] [(⟨0,9⟩,⟨true,4,l⟩)] :=
 ZkX Tryz.func135 rfl (by decide) ZNB (by decide) l h.1 h.2.1 h.2.2 hne
theorem Zu6:(Tryz.prog.info? 26).map (fun i=>(i.zero,i.size,i.bytes))=some (some (.slice none 0 0),1,24):=by kernel_rfl
theorem Zf1:Tryz.prog.underlying 126=some (.slice 26):=Tryz.underlying126
set_option maxRecDepth 100000 in
theorem ZDf (n c:Nat) (w:World):Calls Tryz.prog 137 #[.slice none n c] w fun e w'=>e=.returned (.slice none 0 0)∧w'=w:=by
 have q:∀ (w:World) (a:Option Addr) (n c n' c':Nat),(binOp .eql 126 (.slice a n c) (.slice none n' c')).run Tryz.prog w=.ok (.bool a.isNone) w:=fun w a n c n' c'=>Go.Lib.run_eql_slice_nil w _ _ a n c n' c' Zf1
 go_enter Tryz.func137,Tryz.ntmps137
 go_wp2
 go_ret
 exact ⟨rfl,rfl⟩
set_option maxRecDepth 100000 in
theorem ZzZ (n:Nat) (vs:List Value) (b off c:Nat) (w:World) (hvl:vs.length=n*1) (hc:∀ j u,vs[j]?=some u→w.cell? ⟨b,off+j,none⟩=some u) (hone:∀ u∈vs,u.oneCell'=true) (hbig:n*24≤140737488355328) (hbig2:n≤1000000000) :
  Calls Tryz.prog 137 #[.slice (some ⟨b,off,none⟩) n c] w fun e w'=>∃ v',e=.returned v'∧w'.ownsRow w.heap.size 26 1 v' n vs∧Below w.heap.size w w':=by
 obtain ⟨i0,hi,hz0,hz1,hz2⟩:=info_parts Zu6
 have q:∀ (w:World) (a:Option Addr) (n c n' c':Nat),(binOp .eql 126 (.slice a n c) (.slice none n' c')).run Tryz.prog w=.ok (.bool a.isNone) w:=fun w a n c n' c'=>Go.Lib.run_eql_slice_nil w _ _ a n c n' c' Zf1
 have u:∀ w,Sem.run Tryz.prog (underlying 126) w=.ok (TypeDesc.slice 26) w:=run_underlying Zf1
 have X:Aside (∀ j u,vs[j]?=some u→w.cell? ⟨b,off+j,none⟩=some u):=hc
 have X2:Aside (∀ u∈vs,u.oneCell'=true):=hone
 have X3:Aside (vs.length=n*1):=hvl
 have Y:Aside (n*24≤140737488355328):=hbig
 have Y2:Aside (n≤1000000000):=hbig2
 clear hc hbig hone hvl hbig2
 go_enter Tryz.func137,Tryz.ntmps137
 go_wp2_with (at_builtin; refine wpList_append_own _ rfl _ _ 126 rfl w.heap.size 26 i0 (.slice none 0 0) 1 24 Zf1 hi hz0 hz1 hz2 rfl (by decide) _ _ _ rfl (World.ownsRow_made w #[] 0 (Nat.le_refl _) (Nat.zero_le _) rfl) ⟨b,off,none⟩ n c vs rfl ?qc1 ?qc2 ?qc3 ?qc4 ?qc5 ?qc6 ?qc7)
 case qc1=>exact X3.out
 case qc2 =>
  intro j u hj
  rw [Addr.add_lit]
  exact Go.Lib.cell?_alloc_some _ (X.out j u hj)
 case qc3=>exact X2.out
 case qc4=>have:=Y2.out; unfold maxLen; omega
 case qc5=>have:=Y.out; omega
 case qc6=>simp
 intro v' w1 hown hgrow hnil
 go_wp2
 go_ret
 refine ⟨v',rfl,by simpa using hown,?_⟩
 exact ((Below.refl _ w).alloc (Nat.le_refl _) _).grown hgrow (by simp) (by intro k hk; simp [Value.ownBlock] at hk; omega)
set_option maxRecDepth 100000 in
theorem Zz0 (a:Addr) (c:Nat) (w:World):Calls Tryz.prog 137 #[.slice (some a) 0 c] w fun e w'=>∃ v',e=.returned v'∧w'.ownsRow w.heap.size 26 1 v' 0 []∧Below w.heap.size w w':=by
 obtain ⟨i0,hi,hz0,hz1,hz2⟩:=info_parts Zu6
 have q:∀ (w:World) (a:Option Addr) (n c n' c':Nat),(binOp .eql 126 (.slice a n c) (.slice none n' c')).run Tryz.prog w=.ok (.bool a.isNone) w:=fun w a n c n' c'=>Go.Lib.run_eql_slice_nil w _ _ a n c n' c' Zf1
 have u:∀ w,Sem.run Tryz.prog (underlying 126) w=.ok (TypeDesc.slice 26) w:=run_underlying Zf1
 go_enter Tryz.func137,Tryz.ntmps137
 go_wp2_with (at_builtin; refine wpList_append_own _ rfl _ _ 126 rfl w.heap.size 26 i0 (.slice none 0 0) 1 24 Zf1 hi hz0 hz1 hz2 rfl (by decide) _ _ _ rfl (World.ownsRow_made w #[] 0 (Nat.le_refl _) (Nat.zero_le _) rfl) a 0 c [] rfl rfl (by intro j u hj; simp at hj) (by intro u hu; cases hu) (by unfold maxLen; omega) (by decide) (by simp) ?_)
 intro v' w1 hown hgrow hnil
 go_wp2
 go_ret
 refine ⟨v',rfl,by simpa using hown,?_⟩
 exact ((Below.refl _ w).alloc (Nat.le_refl _) _).grown hgrow (by simp) (by intro k hk; simp [Value.ownBlock] at hk; omega)
theorem ZNC:Clones Tryz.prog 137 26 1 24:=⟨ZDf,ZzZ,Zz0⟩
theorem Znw (l:List D) (h:(∀ x∈l,x.cells.length=1)∧l.length*24≤140737488355328∧l.length≤1000000000) (hne:l≠[]):Spec Tryz.prog 0 137 [vL l] [] [] (.c (.arr ⟨0,9⟩ l.length)) [] [(⟨0,9⟩,⟨true,1,l⟩)] :=
 ZkX Tryz.func137 rfl (by decide) ZNC (by decide) l h.1 h.2.1 h.2.2 hne
theorem Zu8:(Tryz.prog.info? 129).map (fun i=>(i.zero,i.size,i.bytes))=some (some (.agg #[.int .i64 0,.int .i64 0]),2,16):=by kernel_rfl
theorem Zf3:Tryz.prog.underlying 130=some (.slice 129):=Tryz.underlying130
set_option maxRecDepth 100000 in
theorem ZDh (n c:Nat) (w:World):Calls Tryz.prog 136 #[.slice none n c] w fun e w'=>e=.returned (.slice none 0 0)∧w'=w:=by
 have q:∀ (w:World) (a:Option Addr) (n c n' c':Nat),(binOp .eql 130 (.slice a n c) (.slice none n' c')).run Tryz.prog w=.ok (.bool a.isNone) w:=fun w a n c n' c'=>Go.Lib.run_eql_slice_nil w _ _ a n c n' c' Zf3
 go_enter Tryz.func136,Tryz.ntmps136
 go_wp2
 go_ret
 exact ⟨rfl,rfl⟩
set_option maxRecDepth 100000 in
theorem Zz3 (n:Nat) (vs:List Value) (b off c:Nat) (w:World) (hvl:vs.length=n*2) (hc:∀ j u,vs[j]?=some u→w.cell? ⟨b,off+j,none⟩=some u) (hone:∀ u∈vs,u.oneCell'=true) (hbig:n*16≤140737488355328) (hbig2:n≤1000000000) :
  Calls Tryz.prog 136 #[.slice (some ⟨b,off,none⟩) n c] w fun e w'=>∃ v',e=.returned v'∧w'.ownsRow w.heap.size 129 2 v' n vs∧Below w.heap.size w w':=by
 obtain ⟨i0,hi,hz0,hz1,hz2⟩:=info_parts Zu8
 have q:∀ (w:World) (a:Option Addr) (n c n' c':Nat),(binOp .eql 130 (.slice a n c) (.slice none n' c')).run Tryz.prog w=.ok (.bool a.isNone) w:=fun w a n c n' c'=>Go.Lib.run_eql_slice_nil w _ _ a n c n' c' Zf3
 have u:∀ w,Sem.run Tryz.prog (underlying 130) w=.ok (TypeDesc.slice 129) w:=run_underlying Zf3
 have X:Aside (∀ j u,vs[j]?=some u→w.cell? ⟨b,off+j,none⟩=some u):=hc
 have X2:Aside (∀ u∈vs,u.oneCell'=true):=hone
 have X3:Aside (vs.length=n*2):=hvl
 have Y:Aside (n*16≤140737488355328):=hbig
 have Y2:Aside (n≤1000000000):=hbig2
 clear hc hbig hone hvl hbig2
 go_enter Tryz.func136,Tryz.ntmps136
 go_wp2_with (at_builtin; refine wpList_append_own _ rfl _ _ 130 rfl w.heap.size 129 i0 (.agg #[.int .i64 0,.int .i64 0]) 2 16 Zf3 hi hz0 hz1 hz2 rfl (by decide) _ _ _ rfl (World.ownsRow_made w #[] 0 (Nat.le_refl _) (Nat.zero_le _) rfl) ⟨b,off,none⟩ n c vs rfl ?qc1 ?qc2 ?qc3 ?qc4 ?qc5 ?qc6 ?qc7)
 case qc1=>exact X3.out
 case qc2 =>
  intro j u hj
  rw [Addr.add_lit]
  exact Go.Lib.cell?_alloc_some _ (X.out j u hj)
 case qc3=>exact X2.out
 case qc4=>have:=Y2.out; unfold maxLen; omega
 case qc5=>have:=Y.out; omega
 case qc6=>simp
 intro v' w1 hown hgrow hnil
 go_wp2
 go_ret
 refine ⟨v',rfl,by simpa using hown,?_⟩
 exact ((Below.refl _ w).alloc (Nat.le_refl _) _).grown hgrow (by simp) (by intro k hk; simp [Value.ownBlock] at hk; omega)
set_option maxRecDepth 100000 in
theorem Zz4 (a:Addr) (c:Nat) (w:World):Calls Tryz.prog 136 #[.slice (some a) 0 c] w fun e w'=>∃ v',e=.returned v'∧w'.ownsRow w.heap.size 129 2 v' 0 []∧Below w.heap.size w w':=by
 obtain ⟨i0,hi,hz0,hz1,hz2⟩:=info_parts Zu8
 have q:∀ (w:World) (a:Option Addr) (n c n' c':Nat),(binOp .eql 130 (.slice a n c) (.slice none n' c')).run Tryz.prog w=.ok (.bool a.isNone) w:=fun w a n c n' c'=>Go.Lib.run_eql_slice_nil w _ _ a n c n' c' Zf3
 have u:∀ w,Sem.run Tryz.prog (underlying 130) w=.ok (TypeDesc.slice 129) w:=run_underlying Zf3
 go_enter Tryz.func136,Tryz.ntmps136
 go_wp2_with (at_builtin; refine wpList_append_own _ rfl _ _ 130 rfl w.heap.size 129 i0 (.agg #[.int .i64 0,.int .i64 0]) 2 16 Zf3 hi hz0 hz1 hz2 rfl (by decide) _ _ _ rfl (World.ownsRow_made w #[] 0 (Nat.le_refl _) (Nat.zero_le _) rfl) a 0 c [] rfl rfl (by intro j u hj; simp at hj) (by intro u hu; cases hu) (by unfold maxLen; omega) (by decide) (by simp) ?_)
 intro v' w1 hown hgrow hnil
 go_wp2
 go_ret
 refine ⟨v',rfl,by simpa using hown,?_⟩
 exact ((Below.refl _ w).alloc (Nat.le_refl _) _).grown hgrow (by simp) (by intro k hk; simp [Value.ownBlock] at hk; omega)
theorem ZNE:Clones Tryz.prog 136 129 2 16:=⟨ZDh,Zz3,Zz4⟩
theorem ZqD (l:List D) (h:(∀ x∈l,x.cells.length=2)∧l.length*16≤140737488355328∧l.length≤1000000000):Spec Tryz.prog 0 136 [vL l] [] [] (vL l) [] [] :=
 ZkY Tryz.func136 rfl (by decide) ZNE (by decide) l h.1 h.2.1 h.2.2
theorem Zu7:(Tryz.prog.info? 211).map (fun i=>(i.zero,i.size,i.bytes))=some (some (.agg #[.int .i64 0,.int .i64 0,.int .i64 0]),3,24):=by kernel_rfl
theorem Zf2:Tryz.prog.underlying 36=some (.slice 211):=Tryz.underlying36
set_option maxRecDepth 100000 in
theorem ZDg (n c:Nat) (w:World):Calls Tryz.prog 139 #[.slice none n c] w fun e w'=>e=.returned (.slice none 0 0)∧w'=w:=by
 have q:∀ (w:World) (a:Option Addr) (n c n' c':Nat),(binOp .eql 36 (.slice a n c) (.slice none n' c')).run Tryz.prog w=.ok (.bool a.isNone) w:=fun w a n c n' c'=>Go.Lib.run_eql_slice_nil w _ _ a n c n' c' Zf2
 go_enter Tryz.func139,Tryz.ntmps139
 go_wp2
 go_ret
 exact ⟨rfl,rfl⟩
set_option maxRecDepth 100000 in
theorem Zz1 (n:Nat) (vs:List Value) (b off c:Nat) (w:World) (hvl:vs.length=n*3) (hc:∀ j u,vs[j]?=some u→w.cell? ⟨b,off+j,none⟩=some u) (hone:∀ u∈vs,u.oneCell'=true) (hbig:n*24≤140737488355328) (hbig2:n≤1000000000) :
  Calls Tryz.prog 139 #[.slice (some ⟨b,off,none⟩) n c] w fun e w'=>∃ v',e=.returned v'∧w'.ownsRow w.heap.size 211 3 v' n vs∧Below w.heap.size w w':=by
 obtain ⟨i0,hi,hz0,hz1,hz2⟩:=info_parts Zu7
 have q:∀ (w:World) (a:Option Addr) (n c n' c':Nat),(binOp .eql 36 (.slice a n c) (.slice none n' c')).run Tryz.prog w=.ok (.bool a.isNone) w:=fun w a n c n' c'=>Go.Lib.run_eql_slice_nil w _ _ a n c n' c' Zf2
 have u:∀ w,Sem.run Tryz.prog (underlying 36) w=.ok (TypeDesc.slice 211) w:=run_underlying Zf2
 have X:Aside (∀ j u,vs[j]?=some u→w.cell? ⟨b,off+j,none⟩=some u):=hc
 have X2:Aside (∀ u∈vs,u.oneCell'=true):=hone
 have X3:Aside (vs.length=n*3):=hvl
 have Y:Aside (n*24≤140737488355328):=hbig
 have Y2:Aside (n≤1000000000):=hbig2
 clear hc hbig hone hvl hbig2
 go_enter Tryz.func139,Tryz.ntmps139
 go_wp2_with (at_builtin; refine wpList_append_own _ rfl _ _ 36 rfl w.heap.size 211 i0 (.agg #[.int .i64 0,.int .i64 0,.int .i64 0]) 3 24 Zf2 hi hz0 hz1 hz2 rfl (by decide) _ _ _ rfl (World.ownsRow_made w #[] 0 (Nat.le_refl _) (Nat.zero_le _) rfl) ⟨b,off,none⟩ n c vs rfl ?qc1 ?qc2 ?qc3 ?qc4 ?qc5 ?qc6 ?qc7)
 case qc1=>exact X3.out
 case qc2 =>
  intro j u hj
  rw [Addr.add_lit]
  exact Go.Lib.cell?_alloc_some _ (X.out j u hj)
 case qc3=>exact X2.out
 case qc4=>have:=Y2.out; unfold maxLen; omega
 case qc5=>have:=Y.out; omega
 case qc6=>simp
 intro v' w1 hown hgrow hnil
 go_wp2
 go_ret
 refine ⟨v',rfl,by simpa using hown,?_⟩
 exact ((Below.refl _ w).alloc (Nat.le_refl _) _).grown hgrow (by simp) (by intro k hk; simp [Value.ownBlock] at hk; omega)
set_option maxRecDepth 100000 in
theorem Zz2 (a:Addr) (c:Nat) (w:World):Calls Tryz.prog 139 #[.slice (some a) 0 c] w fun e w'=>∃ v',e=.returned v'∧w'.ownsRow w.heap.size 211 3 v' 0 []∧Below w.heap.size w w':=by
 obtain ⟨i0,hi,hz0,hz1,hz2⟩:=info_parts Zu7
 have q:∀ (w:World) (a:Option Addr) (n c n' c':Nat),(binOp .eql 36 (.slice a n c) (.slice none n' c')).run Tryz.prog w=.ok (.bool a.isNone) w:=fun w a n c n' c'=>Go.Lib.run_eql_slice_nil w _ _ a n c n' c' Zf2
 have u:∀ w,Sem.run Tryz.prog (underlying 36) w=.ok (TypeDesc.slice 211) w:=run_underlying Zf2
 go_enter Tryz.func139,Tryz.ntmps139
 go_wp2_with (at_builtin; refine wpList_append_own _ rfl _ _ 36 rfl w.heap.size 211 i0 (.agg #[.int .i64 0,.int .i64 0,.int .i64 0]) 3 24 Zf2 hi hz0 hz1 hz2 rfl (by decide) _ _ _ rfl (World.ownsRow_made w #[] 0 (Nat.le_refl _) (Nat.zero_le _) rfl) a 0 c [] rfl rfl (by intro j u hj; simp at hj) (by intro u hu; cases hu) (by unfold maxLen; omega) (by decide) (by simp) ?_)
 intro v' w1 hown hgrow hnil
 go_wp2
 go_ret
 refine ⟨v',rfl,by simpa using hown,?_⟩
 exact ((Below.refl _ w).alloc (Nat.le_refl _) _).grown hgrow (by simp) (by intro k hk; simp [Value.ownBlock] at hk; omega)
theorem ZND:Clones Tryz.prog 139 211 3 24:=⟨ZDg,Zz1,Zz2⟩
theorem ZqC (l:List D) (h:(∀ x∈l,x.cells.length=3)∧l.length*24≤140737488355328∧l.length≤1000000000):Spec Tryz.prog 0 139 [vL l] [] [] (vL l) [] [] :=
 ZkY Tryz.func139 rfl (by decide) ZND (by decide) l h.1 h.2.1 h.2.2
def Zdn:List V→Zf→Zr→Name→Option Ent
 | [.c (.d (.list l))],[],[],nF=>some ⟨((∀ x∈l,x.cells.length=4)∧l.length*80≤140737488355328∧l.length≤1000000000)∧l≠[],.c (.arr nF l.length),[],[(nF,⟨true,4,l⟩)]⟩
 | _,_,_,_=>none
def ZdQ:=And.intro (@Zdn.eq_1) (@Zdn.eq_1)
theorem Zmu:Snd Tryz.prog 135 Zdn:=by
 intro vs b k n e h hn hp
 unfold Zdn at h
 split at h
 ·cases h; obtain ⟨hp0,hp1⟩:=hp; exact Spec.ren1 (Znv _ hp0 hp1) 9 (by simp [Za9,V.names,C.names,ZJ,ZK,Zz]) (Nat.le_of_eq hn)
 ·cases h
def Zdo:List V→Zf→Zr→Name→Option Ent
 | [.c (.d (.list l))],[],[],nF=>some ⟨((∀ x∈l,x.cells.length=1)∧l.length*24≤140737488355328∧l.length≤1000000000)∧l≠[],.c (.arr nF l.length),[],[(nF,⟨true,1,l⟩)]⟩
 | _,_,_,_=>none
def ZdR:=And.intro (@Zdo.eq_1) (@Zdo.eq_1)
theorem Zmv:Snd Tryz.prog 137 Zdo:=by
 intro vs b k n e h hn hp
 unfold Zdo at h
 split at h
 ·cases h; obtain ⟨hp0,hp1⟩:=hp; exact Spec.ren1 (Znw _ hp0 hp1) 9 (by simp [Za9,V.names,C.names,ZJ,ZK,Zz]) (Nat.le_of_eq hn)
 ·cases h
def Zev:List V→Zf→Zr→Name→Option Ent
 | [.c (.d (.list l))],[],[],_=>some ⟨((∀ x∈l,x.cells.length=2)∧l.length*16≤140737488355328∧l.length≤1000000000),vL l,[],[]⟩
 | _,_,_,_=>none
def Zew:=And.intro (@Zev.eq_1) (@Zev.eq_1)
theorem Zn0:Snd Tryz.prog 136 Zev:=by
 intro vs b k n e h hn hp
 unfold Zev at h
 split at h
 ·cases h; have hp0:=hp; exact (ZqD _ hp0).lift rfl _
 ·cases h
def Zet:List V→Zf→Zr→Name→Option Ent
 | [.c (.d (.list l))],[],[],_=>some ⟨((∀ x∈l,x.cells.length=3)∧l.length*24≤140737488355328∧l.length≤1000000000),vL l,[],[]⟩
 | _,_,_,_=>none
def Zeu:=And.intro (@Zet.eq_1) (@Zet.eq_1)
theorem ZnZ:Snd Tryz.prog 139 Zet:=by
 intro vs b k n e h hn hp
 unfold Zet at h
 split at h
 ·cases h; have hp0:=hp; exact (ZqC _ hp0).lift rfl _
 ·cases h
end Go.Vam
end
section
set_option linter.unusedVariables false
set_option linter.defProp false
set_option linter.unusedSimpArgs false
set_option maxRecDepth 40000
set_option maxHeartbeats 4000000
namespace Go.Vam
open Go.Proofs
open Nat renaming reduceShiftRight→Ya,reduceMod→Yb,reduceEqDiff→Yc,reduceLT→Yd,reduceLeDiff→Ye,reduceAdd→Yf,reduceMul→Yg,reduceSub→Yh,reduceDiv→Yi
open Int renaming reduceLE→Yj,reduceLT→Yk,reduceNeg→Yl,reduceAdd→Ym,reduceToNat→Yn,reduceSub→Yo
theorem ZhM {ti:TI} {n:Name} {i off:Nat} {xv:V} (ha:ti.agg=true):Zml ti (.c (.ap n i off)) xv=.getK n fun tk=>.exD fun y=>.need (tk.isArr=true∧tk.l[i]?=some y) (orFail xv.cells fun cs=>orFail (C.toDs cs) fun ds =>
    if ds.length=ti.size∧off+ti.size≤y.cells.length then
     match y with
     | .agg ys=>.ret { v:=.tup [],k:=[(n,⟨true,tk.sz,tk.l.set i (.agg (lay ys off ds))⟩)]}
     | _=>match ds with
      | [d]=>.need (d.cells.length=1) (.ret { v:=.tup [],k:=[(n,⟨true,tk.sz,tk.l.set i d⟩)]})
      | _=>.fail
    else .fail):=by
 have h:¬ (ti.agg=false∧off=0∧ti.size=1):=fun h=>by rw [ha] at h; exact absurd h.1 (by decide)
 simp only [Zml,if_neg h]
 rfl
theorem Zxz (di:Int) (s:ByteArray) (dd dm dl dt dj:Int) (bx:List D) (ck cr:Int) (mp:List Int) (cz:Int) (ra pe:Int) (sg:List D) (ru:Bool) (si:Int) (q ct cd cg cm c n d a p f:Int) (l:List Int) (lo mi:Int) (hv:ZgR bx ck cr mp cz ra pe sg) (hl:l.length≤1000000):Spec Tryz.prog 0 59 [.agg [.d (.int .u64 di),.d (.str s),.d (.int .i64 dd),.d (.int .i64 dm),.d (.int .i64 dl),.d (.int .i64 dt),.d (.int .i64 dj),.d (.list bx),.d (.int .i64 ck),.d (.int .i64 cr),.d (.list (LI .i64 mp)),.d (.int .i64 cz),.d (.int .i64 ra),.d (.int .i64 pe),.d (.list sg),.d (.bool ru),.d (.int .i64 si),.d (.int .i64 q),.d (.int .i64 ct),.d (.int .i64 cd),.d (.int .i64 cg),.d (.int .i64 cm),.d (.int .i64 c),.d (.int .i64 n),.d (.int .i64 d),.d (.int .i64 a),.d (.int .i64 p),.d (.int .i64 f),.d (.list (LI .i32 l)),.d (.int .i64 lo),.d (.int .i64 mi)]] [] [] (.agg [.d (.int .u64 di),.d (.str s),.d (.int .i64 dd),.d (.int .i64 dm),.d (.int .i64 dl),.d (.int .i64 dt),.d (.int .i64 dj),.d (.list bx),.d (.int .i64 ck),.d (.int .i64 cr),.d (.list (LI .i64 mp)),.d (.int .i64 cz),.d (.int .i64 ra),.d (.int .i64 pe),.d (.list sg),.d (.bool ru),.d (.int .i64 si),.d (.int .i64 q),.d (.int .i64 ct),.d (.int .i64 cd),.d (.int .i64 cg),.d (.int .i64 cm),.d (.int .i64 c),.d (.int .i64 n),.d (.int .i64 d),.d (.int .i64 a),.d (.int .i64 p),.d (.int .i64 f),.d (.list (LI .i32 l)),.d (.int .i64 lo),.d (.int .i64 mi)]) [] []:=by
 refine sE (md:=fun _=>0) (L:=[(135,Zdn),(137,Zdo),(136,Zev),(139,Zet),(138,Zdm),(131,Zes)]) [(5,[0,0,0,0,0,1032927113471,0,0,0,0,0,1032469934335,0,0]),(1000010,[6002]),(1000012,[3])] 1030792212735 (Za Zmu (Za Zmv (Za Zn0 (Za ZnZ (Za ZhQ (Za Ze9 Zb)))))) Tryz.func59 rfl rfl rfl ?_
 have wi1:IntKind.i64.wrap 1=1:=by decide
 obtain ⟨rfl,hch,rfl,rfl,rfl,rfl,rfl,rfl⟩:=hv
 unfold Zsr ZLA
 simp (maxSteps:=1000000) only [↓Zn,Ze,Zd,Zm,gSt,gS0,Ya,Yb,↓reduceIte,reduceCtorEq,Yc,Yd,Ye,Yf,Yg,Yj,Yk,Yl,Ym,Yn,ZdQ,ZdR,Zew,Zeu,ZcV,Zaa,gE1,gE2,Int.natCast_zero,Int.natCast_one,Int.cast_ofNat_Int,Yo,ZaU,ZaV,exists_eq_left',ZhM,wi1,Yh,Yi,Tryz.ntmps59,Tryz.results59,gTT]
 refine Zem 2 ?_
 simp (maxSteps:=1000000) only [↓Zn,Ze,Zd,Zm,gSt,gS0,Ya,Yb,↓reduceIte,reduceCtorEq,Yc,Yd,Ye,Yf,Yg,Yj,Yk,Yl,Ym,Yn,ZdQ,ZdR,Zew,Zeu,ZcV,Zaa,gE1,gE2,Int.natCast_zero,Int.natCast_one,Int.cast_ofNat_Int,Yo,ZaU,ZaV,exists_eq_left',ZhM,wi1,Yh,Yi,Tryz.ntmps59,Tryz.results59,gTT]
 have hS:(∀ x:D,x∈spanL→x.cells.length=2)∧spanL.length*16≤140737488355328∧spanL.length≤1000000000:=⟨by intro x hx; simp [spanL] at hx; subst hx; rfl,by decide,by decide⟩
 refine ⟨by kernel_rfl,hS,hS,?_⟩
 refine Zem 2 ?_
 simp (maxSteps:=1000000) only [↓Zn,Ze,Zd,Zm,gSt,gS0,Ya,Yb,↓reduceIte,reduceCtorEq,Yc,Yd,Ye,Yf,Yg,Yj,Yk,Yl,Ym,Yn,ZdQ,ZdR,Zew,Zeu,ZcV,Zaa,gE1,gE2,Int.natCast_zero,Int.natCast_one,Int.cast_ofNat_Int,Yo,ZaU,ZaV,exists_eq_left',ZhM,wi1,Yh,Yi,Tryz.ntmps59,Tryz.results59,gTT]
 have hc:=ZhC hch
 exact ⟨by kernel_rfl,by omega,by omega,⟨by intro x hx; simp [Zru] at hx; subst hx; rfl,by decide,by decide⟩,by first | omega | exact ⟨by omega,rfl⟩⟩
def ZfE:List V→Zf→Zr→Name→Option Ent
 | [.agg [.d (.int .u64 di),.d (.str s),.d (.int .i64 dd),.d (.int .i64 dm),.d (.int .i64 dl),.d (.int .i64 dt),.d (.int .i64 dj),.d (.list bx),.d (.int .i64 ck),.d (.int .i64 cr),.d (.list q_mp),.d (.int .i64 cz),.d (.int .i64 ra),.d (.int .i64 pe),.d (.list sg),.d (.bool ru),.d (.int .i64 si),.d (.int .i64 q),.d (.int .i64 ct),.d (.int .i64 cd),.d (.int .i64 cg),.d (.int .i64 cm),.d (.int .i64 c),.d (.int .i64 n),.d (.int .i64 d),.d (.int .i64 a),.d (.int .i64 p),.d (.int .i64 f),.d (.list q_l),.d (.int .i64 lo),.d (.int .i64 mi)]],[],[],_=>some ⟨ZgR bx ck cr (Zc q_mp) cz ra pe sg∧(Zc q_l).length≤1000000∧q_mp=LI .i64 (Zc q_mp)∧q_l=LI .i32 (Zc q_l),.agg [.d (.int .u64 di),.d (.str s),.d (.int .i64 dd),.d (.int .i64 dm),.d (.int .i64 dl),.d (.int .i64 dt),.d (.int .i64 dj),.d (.list bx),.d (.int .i64 ck),.d (.int .i64 cr),.d (.list (LI .i64 (Zc q_mp))),.d (.int .i64 cz),.d (.int .i64 ra),.d (.int .i64 pe),.d (.list sg),.d (.bool ru),.d (.int .i64 si),.d (.int .i64 q),.d (.int .i64 ct),.d (.int .i64 cd),.d (.int .i64 cg),.d (.int .i64 cm),.d (.int .i64 c),.d (.int .i64 n),.d (.int .i64 d),.d (.int .i64 a),.d (.int .i64 p),.d (.int .i64 f),.d (.list (LI .i32 (Zc q_l))),.d (.int .i64 lo),.d (.int .i64 mi)],[],[]⟩
 | _,_,_,_=>none
def Zhf:=And.intro (@ZfE.eq_1) (@ZfE.eq_1)
theorem Zhg:Snd Tryz.prog 59 ZfE:=by
 intro vs b k n e h hn hp
 unfold ZfE at h
 split at h
 ·cases h; obtain ⟨hp0,hp1,hq0,hq1⟩:=hp; obtain ⟨_,rfl⟩:=Zq hq0; obtain ⟨_,rfl⟩:=Zq hq1; simp only [Zi,Zo,Zj,Zp] at hp0 hp1 ⊢; exact (Zxz _ _ _ _ _ _ _ _ _ _ _ _ _ _ _ _ _ _ _ _ _ _ _ _ _ _ _ _ _ _ _ hp0 hp1).lift rfl _
 ·cases h
end Go.Vam
end
