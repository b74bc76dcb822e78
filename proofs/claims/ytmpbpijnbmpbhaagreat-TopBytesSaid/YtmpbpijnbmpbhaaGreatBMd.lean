/- A part of the proof. Conditions: none. -/
import Derived.Test.YtmpbpijnbmpbhaaGreatBDq
set_option linter.unusedVariables false
set_option linter.defProp false
set_option linter.unusedSimpArgs false
set_option maxRecDepth 40000
set_option maxHeartbeats 4000000
namespace Go.Vam
open Go.Proofs
theorem ZH7 {k:Int} {y:List Int} (hb:ZaL k y=true) (hy:y.length≤1000000):0≤swN k y∧swN k y≤65536:=by
 obtain ⟨_,_,k4,_⟩:=ZW hb hy
 exact ⟨Int.natCast_nonneg _,Int.ofNat_le.2 k4⟩
theorem ZH6 {x:Sm} {k:Int} {y:List Int} (hl:x.r.l.length≤1000000) (hy:y.length≤1000000) (h:swE x k y=0):smP x=true∧ZaL k y=true∧k=x.r.c∧x.st≤4∧swN k y≤smO x∧feE x.r k y=0:=by
 unfold swE at h
 split at h
 ·cases h
 ·rename_i h1
  split at h
  ·cases h
  ·rename_i h2
   split at h
   ·cases h
   ·rename_i h3
    split at h
    ·cases h
    ·rename_i h4
     simp only [Bool.or_eq_true,Bool.not_eq_true',not_or,Bool.not_eq_false] at h1
     have hk:k=x.r.c:=by simpa using h2
     refine ⟨h1.1,h1.2,hk,by omega,by omega,?_⟩
     have hv:smV x=true∧x.di=1:=by have:=h1.1; unfold smP at this; simpa using this
     have hb:=Zan (Zag hv.1).1
     have hn:=ZvA hv.1 hl
     obtain ⟨w1,w2,w3⟩:=Zec hb.2.2.2.1 hl
     obtain ⟨⟨k1,k2⟩,k3,k4,k5⟩:=ZW (ZA hb.2.2.2.1).2 hl
     obtain ⟨_,m3,m4,m5⟩:=ZW h1.2 hy
     have hO:smO x=x.q - smN x:=if_neg (by rw [hv.1]; decide)
     have hN:smN x=waN x.r:=by unfold smN; rw [if_neg (by rw [hv.1]; decide),if_neg (by omega)]
     have hsw:swN k y=((y.length / k.toNat:Nat):Int):=rfl
     have hdv:(x.r.l.length+y.length) / x.r.c.toNat=x.r.l.length / x.r.c.toNat+y.length / x.r.c.toNat:=by
      rw [hk] at m3
      have:x.r.l.length+y.length=(x.r.l.length / x.r.c.toNat+y.length / x.r.c.toNat)*x.r.c.toNat:=by rw [Nat.add_mul]; omega
      rw [this,Nat.mul_div_cancel _ (by omega)]
     unfold feE
     rw [if_neg (by rw [hb.2.2.2.1,h1.2]; decide),if_neg (by simpa using hk),if_neg]
     rw [hdv]
     rw [hk] at hsw h4
     omega
end Go.Vam
