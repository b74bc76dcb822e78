/- A part of the proof. Conditions: none. -/
import Derived.Test.YtmpbpijnbmpbhaaGreatBMf
import Derived.Test.YtmpbpijnbmpbhaaGreatBMb
section
set_option linter.unusedVariables false
set_option linter.defProp false
set_option linter.unusedSimpArgs false
set_option maxRecDepth 40000
set_option maxHeartbeats 4000000
namespace Go.Vam
open Go.Proofs
theorem okS.b {x:Sm} {di ch:Int} {k:Nat} (h:okS x di ch k):smB x=true:=(Zag h.v).1
theorem okS.up {x:Sm} {di ch:Int} {k:Nat} (h:okS x di ch k):okS x di ch (k+1) :=
 ⟨h.v,h.d,h.c,h.ll,h.gl,by have:=h.wr; omega,by have:=h.pl; omega,by have:=h.mi; omega,by have:=h.pp; omega⟩
theorem ZFh {x:Sm} {i:Int} (h:skE x i=0):smV x=true∧x.di=1∧(0≤i∧i≤65536)∧(x.st=3→tkE x.r (skK x i)=0)∧(x.st=5→fiE x.r i=0):=by
 have hP:smP x=true:=by
  cases e:smP x with
  | true=>rfl
  | false=>rw [Zno e] at h; cases h
 have hr:(decide (i < 0) || decide (65536 < i))=false:=by
  cases e:(decide (i < 0) || decide (65536 < i)) with
  | false=>rfl
  | true=>rw [Znp hP e] at h; cases h
 have hv:smV x=true∧x.di=1:=by unfold smP at hP; simpa using hP
 rw [Zqq hP hr] at h
 simp only [Bool.or_eq_false_iff,decide_eq_false_iff_not] at hr
 refine ⟨hv.1,hv.2,by omega,fun h3=>by rw [if_pos h3] at h; exact h,fun h5=>by rw [if_neg (by omega),if_pos h5] at h; exact h⟩
theorem ZHt {x:Rs} {i:Int} (h:fiE x i=0):rcE x i=0∧poE x (cnt x i)=0:=by
 unfold fiE at h
 split at h
 ·rename_i h1; exact absurd h h1
 ·rename_i h1; exact ⟨by simpa using h1,h⟩
theorem ZL2 {x:Sm} {i:Int} (h:skE x i=0) (hs:x.st=3∨x.st=5):poE x.r (skM x i)=0:=by
 obtain ⟨h1,h2,h3,h4,h5⟩:=ZFh h
 unfold skM
 rcases hs with hs | hs
 ·rw [if_pos hs]; exact (ZCE (h4 hs)).2.1
 ·rw [if_neg (by omega),if_pos hs]; exact (ZHt (h5 hs)).2
theorem ZH3 {x:Sm} {i:Int} (h:skE x i=0):0≤skX x i∧skX x i≤65536:=by
 obtain ⟨h1,h2,h3,h4,h5⟩:=ZFh h
 unfold skX
 have:=Zmh (x:=x) (i:=i) h3.1
 split <;> first | omega | exact ⟨by decide,by decide⟩
theorem okS.ch {x:Sm} {di ch:Int} {n:Nat} (h:okS x di ch n):1≤ch∧ch≤8:=by
 have hl:=h.ll
 have h1:=(ZW (ZA (Zan h.b).2.2.2.1).2 (show x.r.l.length≤1000000 by omega)).1
 rw [h.c] at h1
 exact h1
end Go.Vam
end
section
set_option linter.unusedVariables false
set_option linter.defProp false
set_option linter.unusedSimpArgs false
set_option maxRecDepth 40000
set_option maxHeartbeats 4000000
namespace Go.Vam
open Go.Proofs
end Go.Vam
end
section
set_option linter.unusedVariables false
set_option linter.defProp false
set_option linter.unusedSimpArgs false
set_option maxRecDepth 40000
set_option maxHeartbeats 4000000
namespace Go.Vam
open Go.Proofs
end Go.Vam
end
