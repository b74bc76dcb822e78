/- A part of the proof. Conditions: none. -/
import Derived.Test.YtmpbpijnbmpbhaaGreatBVk
section
set_option linter.unusedVariables false
set_option linter.unusedSimpArgs false
namespace Go.Vam

def ren3 (i j:Nat) (n m p:Name) (x:Name):Name:=bif Nat.beq x.s i then n else bif Nat.beq x.s j then m else p
theorem Spec.ren3 {P:Program} {f:FuncId} {args:List V} {b b':Zf} {k k':Zr} {r:V} {lv:Nat} (h:Spec P 0 f args b k r b' k') (i j l:Nat) {n m p:Name}
  (hs:Za9 [⟨0,i⟩,⟨0,j⟩,⟨0,l⟩] args b k r b' k') (hn:n.lv≤lv) (hm:m.lv≤lv) (hp:p.lv≤lv) (hd:m≠n) (hd2:p≠n) (hd3:p≠m) (hij:(Nat.beq j i || Nat.beq l i || Nat.beq l j)=false:=by rfl) :
  Spec P lv f (args.map (V.ren (ren3 i j n m p))) (Zih (ren3 i j n m p) b) (Zii (ren3 i j n m p) k) (r.ren (ren3 i j n m p)) (Zih (ren3 i j n m p) b') (Zii (ren3 i j n m p) k'):=by
 simp only [Bool.or_eq_false_iff] at hij
 have e1:Go.Vam.ren3 i j n m p ⟨0,i⟩=n:=by simp [Go.Vam.ren3]
 have e2:Go.Vam.ren3 i j n m p ⟨0,j⟩=m:=by simp [Go.Vam.ren3,hij]
 have e3:Go.Vam.ren3 i j n m p ⟨0,l⟩=p:=by simp [Go.Vam.ren3,hij]
 refine h.ren lv _ [⟨0,i⟩,⟨0,j⟩,⟨0,l⟩] hs (by simp) ?_ ?_
 ·simp only [List.map_cons,List.map_nil,e1,e2,e3,List.nodup_cons,List.mem_cons,List.not_mem_nil,or_false,not_false_eq_true,List.nodup_nil,and_true,not_or]
  exact ⟨⟨hd.symm,hd2.symm⟩,hd3.symm⟩
 ·intro x hx
  simp only [List.mem_cons,List.not_mem_nil,or_false] at hx
  rcases hx with rfl | rfl | rfl
  ·rw [e1]; exact hn
  ·rw [e2]; exact hm
  ·rw [e3]; exact hp

theorem ELoop_sub {X:Ctx} {M:List (Nat×List Nat)} {m:Nat} {c:Code} {Q:Exit→St→Prop} {st st':St} (h:Sub X st' st) (hl:Zms X M m c Q st'):Zms X M m c Q st:=by
 obtain ⟨G,T,J,μ,⟨g,hg,hs⟩,hr⟩:=hl
 exact ⟨G,T,J,μ,⟨g,hg,hs.trans h⟩,hr⟩

theorem Zdk {X:Ctx} {M:List (Nat×List Nat)} {m:Nat} {c:Code} {Q:Exit→St→Prop} {t:List (Nat×V)} {b:Zf} {k:Zr} (a:Name) (j sz:Nat) (n:Name) {cs:List C} (hm:lk b a=some cs) (hj:cs[j]?=some .nil) (hf:FreeB ⟨t,b,k⟩ n) (hn:X.L≤n.lv)
  (hl:evS ⟨t,(a,cs.set j (.own n []))::b,(n,⟨false,sz,[]⟩)::k⟩ (Zms X M m c Q)):Zms X M m c Q ⟨t,b,k⟩ :=
 ELoop_sub (Sub.nilB sz hm hj hf hn) hl
theorem Ze5 {X:Ctx} {M:List (Nat×List Nat)} {m:Nat} {c:Code} {Q:Exit→St→Prop} {t:List (Nat×V)} {b:Zf} {k:Zr} (a sz:Nat) (n:Name) (hm:lk t a=some (.c .nil)) (hf:FreeB ⟨t,b,k⟩ n) (hn:X.L≤n.lv)
  (hl:evS ⟨(a,.c (.own n []))::t,b,(n,⟨false,sz,[]⟩)::k⟩ (Zms X M m c Q)):Zms X M m c Q ⟨t,b,k⟩ :=
 ELoop_sub (Sub.nilT sz hm hf hn) hl

theorem ZAM {k:IntKind} {a:Int} {l:List D}:Zc (D.int k a::l)=a::Zc l:=Eq.trans rfl rfl
theorem ZDv:Zc []=[]:=Eq.trans rfl rfl
theorem ZFt {k:IntKind} {a:Int} {l:List Int}:LI k (a::l)=D.int k a::LI k l:=Eq.trans rfl rfl

end Go.Vam
end
section
set_option linter.unusedVariables false
set_option linter.unusedSimpArgs false
namespace Go.Vam

def ZLy (p:Int×List Int):D:=.agg [.int .i64 p.1,.list (LI .i32 p.2)]
def LK (l:List (Int×List Int)):List D:=l.map ZLy
def ZLH:D→Int×List Int
 | .agg [.int _ n,.list l]=>(n,Zc l)
 | _=>(0,[])
def ZLz (l:List D):List (Int×List Int):=l.map ZLH

section
variable {l m:List (Int×List Int)} {n:Nat} {c:Int} {x:List Int}
theorem Zj:ZLz (LK l)=l:=by
 simp only [ZLz,LK,List.map_map]
 rw [show (ZLH ∘ ZLy)=id from ?_,List.map_id]
 funext p
 simp [ZLH,ZLy,Zi]
theorem ZHb:LK []=[]:=rfl
theorem Zzq:(LK l).length=l.length:=List.length_map ..
theorem ZFy:((LK l)[n]?).getD (D.agg [.int .i64 0,.list []])=.agg [.int .i64 (l[n]?.getD (0,[])).1,.list (LI .i32 (l[n]?.getD (0,[])).2)]:=by
 simp only [LK,List.getElem?_map]
 cases l[n]? <;> rfl
theorem Zzp:LK l++LK m=LK (l++m):=(List.map_append ..).symm
theorem ZFz:LK l++[D.agg [.int .i64 c,.list (LI .i32 x)]]=LK (l++[(c,x)]):=by simp [LK,ZLy]
theorem ZC0:(∀ y∈LK l,y.cells.length=2)=True:=by
 refine eq_true fun y hy=>?_
 obtain ⟨x,_,rfl⟩:=List.mem_map.1 hy
 rfl
theorem ZHa:(LK l=LK m)=(l=m):=by
 refine propext ⟨fun h=>?_,fun h=>by rw [h]⟩
 have:=congrArg ZLz h
 rwa [Zj,Zj] at this
theorem Zzr:(LK l=[])=(l=[]):=by cases l <;> simp [LK]
theorem ZwK:(LK l=LK (ZLz (LK l)))=True:=by rw [Zj]; exact eq_self _
end

end Go.Vam
end
section
set_option linter.unusedVariables false
set_option linter.unusedSimpArgs false
namespace Go.Vam

def LL (k:IntKind) (l:List (List Int)):List D:=l.map fun x=>D.list (LI k x)
def lls (q:List D):List (List Int):=q.map fun d=>Zc d.toL

section
variable {k:IntKind} {l m:List (List Int)} {n:Nat} {x:List Int}
theorem Zp:lls (LL k l)=l:=by
 simp only [lls,LL,List.map_map]
 rw [show ((fun d:D=>Zc d.toL) ∘ fun x=>D.list (LI k x))=id from ?_,List.map_id]
 funext p
 simp [D.toL,Zi]
theorem Zso {q:List D} (e:q=LL k (lls q)):∃ l,q=LL k l:=⟨_,e⟩
theorem ZHd:LL k []=[]:=rfl
theorem Zzt:(LL k l).length=l.length:=List.length_map ..
theorem ZFB:((LL k l)[n]?).getD (D.list [])=.list (LI k (l[n]?.getD [])):=by
 simp only [LL,List.getElem?_map]
 cases l[n]? <;> rfl
theorem Zzs:LL k l++LL k m=LL k (l++m):=(List.map_append ..).symm
theorem ZFC:LL k l++[D.list (LI k x)]=LL k (l++[x]):=by simp [LL]
theorem ZHf:(LL k l).set n (D.list (LI k x))=LL k (l.set n x):=(List.map_set ..).symm
theorem ZFD:(LL k l).take n=LL k (l.take n):=(List.map_take ..).symm
theorem ZFA:(LL k l).drop n=LL k (l.drop n):=(List.map_drop ..).symm
theorem ZC1:(∀ y∈LL k l,y.cells.length=1)=True:=by
 refine eq_true fun y hy=>?_
 obtain ⟨x,_,rfl⟩:=List.mem_map.1 hy
 rfl
theorem ZHc:(LL k l=LL k m)=(l=m):=by
 refine propext ⟨fun h=>?_,fun h=>by rw [h]⟩
 have:=congrArg lls h
 rwa [Zp,Zp] at this
theorem Zzv:(LL k l=[])=(l=[]):=by cases l <;> simp [LL]
theorem Zzu:(LL k l=LL k (lls (LL k l)))=True:=by rw [Zp]; exact eq_self _
theorem ZHe:LL k (List.replicate n [])=List.replicate n (D.list []):=by simp [LL,LI]
end

end Go.Vam
end
section
set_option linter.defProp false
set_option maxRecDepth 4000
namespace Go.Vam

def Zn:=And.intro (And.intro (And.intro (And.intro (And.intro (And.intro (And.intro (@Zvg) (And.intro (@Zvf) (@wp_ret))) (And.intro (@ZCK) (And.intro (@ZCN) (@ZCL)))) (And.intro (And.intro (@ZCM) (And.intro (@ZCO) (@ZFn))) (And.intro (@ZCJ) (And.intro (@ZFo) (@ZvN))))) (And.intro (And.intro (And.intro (@ZvM) (And.intro (@Zmp) (@Zmq))) (And.intro (@Zrq) (And.intro (@Zk6) (@Zha)))) (And.intro (And.intro (@Ziu) (And.intro (@ZCP) (@Zir))) (And.intro (And.intro (@Zg9) (@ZFm)) (And.intro (@ZFl) (@Zmn)))))) (And.intro (And.intro (And.intro (And.intro (@Zmo) (And.intro (@Zk5) (@Zrp))) (And.intro (@ZvJ) (And.intro (@Ziq) (@Zis)))) (And.intro (And.intro (@Zit) (And.intro (@Zio) (@Zg7))) (And.intro (And.intro (@Zip) (@Zg8)) (And.intro (@ZvI) (@Zim))))) (And.intro (And.intro (And.intro (@Zrm) (And.intro (@Zmm) (@ZeU))) (And.intro (@Zid) (And.intro (@ZgT) (@Zvb)))) (And.intro (And.intro (@Zp0) (And.intro (@Zp1) (@Zl6))) (And.intro (And.intro (@Zl7) (@Zvc)) (And.intro (@Zva) (@Zrf))))))) (And.intro (And.intro (And.intro (And.intro (And.intro (@Zre) (And.intro (@ZBv) (@Zvx))) (And.intro (@Zvy) (And.intro (@ZA4) (@ZA5)))) (And.intro (And.intro (@ZA2) (And.intro (@ZA6) (@ZA3))) (And.intro (And.intro (@ZpD) (@ZpE)) (And.intro (@ZpC) (@Zl0))))) (And.intro (And.intro (And.intro (@Zu2) (And.intro (@ZAK) (@ZAL))) (And.intro (@Zu4) (And.intro (@Zu3) (@ZpT)))) (And.intro (And.intro (@ZAm) (And.intro (@ZuN) (@ZlU))) (And.intro (And.intro (@ZlQ) (@Zpk)) (And.intro (@Zpl) (@ZlT)))))) (And.intro (And.intro (And.intro (And.intro (@ZlS) (And.intro (@ZlR) (@Zj9))) (And.intro (@ZEL) (And.intro (@ZEK) (@ZzL)))) (And.intro (And.intro (@ZlP) (And.intro (@ZzK) (@Zj8))) (And.intro (And.intro (@Zpj) (@ZpN)) (And.intro (@ZpM) (@Zl8))))) (And.intro (And.intro (And.intro (@Zl9) (And.intro (@Zmc) (@Zig))) (And.intro (@Zmd) (And.intro (@ZkG) (@Zp6)))) (And.intro (And.intro (@ZkI) (And.intro (@Zkg) (@Zkh))) (And.intro (And.intro (@Zeh) (@Zmb)) (And.intro (@ZkM) (@Zfz)))))))) (And.intro (And.intro (And.intro (And.intro (And.intro (And.intro (@ZkH) (And.intro (@Zp7) (@Zp8))) (And.intro (@ZgY) (And.intro (@Zpw) (@ZlY)))) (And.intro (And.intro (@Zpy) (And.intro (@Zpx) (@ZeZ))) (And.intro (@ZkL) (And.intro (@Zqr) (@Zmk))))) (And.intro (And.intro (And.intro (@ZkV) (And.intro (@Zmj) (@Zmi))) (And.intro (@ZeX) (And.intro (@Zu1) (@ZkK)))) (And.intro (And.intro (@ZkJ) (And.intro (@ZeY) (@ZpR))) (And.intro (And.intro (@ZpS) (@ZgZ)) (And.intro (@Zfy) (@ZgX)))))) (And.intro (And.intro (And.intro (And.intro (@Zma) (And.intro (@ZuC) (@Zug))) (And.intro (@ZuA) (And.intro (@Zur) (@Zut)))) (And.intro (And.intro (@Zuu) (And.intro (@Zui) (@ZzM))) (And.intro (And.intro (@ZuB) (@Zka)) (And.intro (@Zum) (@Zus))))) (And.intro (And.intro (And.intro (@Zuq) (And.intro (@Zup) (@Zuo))) (And.intro (@Zun) (And.intro (@Zux) (@Zuy)))) (And.intro (And.intro (@Zuk) (And.intro (@Zul) (@Zuw))) (And.intro (And.intro (@Zuv) (@Zuz)) (And.intro (@Zuh) (@Zuj))))))) (And.intro (And.intro (And.intro (And.intro (And.intro (@Zua) (And.intro (@Zpg) (@Zt8))) (And.intro (@ZAD) (And.intro (@ZuU) (@ZAt)))) (And.intro (And.intro (@ZuR) (And.intro (@ZAA) (@ZuT))) (And.intro (And.intro (@ZuS) (@ZpI)) (And.intro (@ZHx) (@ZAE))))) (And.intro (And.intro (And.intro (@ZAG) (And.intro (@ZE1) (@ZHy))) (And.intro (@ZHw) (And.intro (@ZAw) (@ZEY)))) (And.intro (And.intro (@ZAx) (And.intro (@ZAu) (@ZEX))) (And.intro (And.intro (@ZEU) (@ZEV)) (And.intro (@ZE0) (@ZAy)))))) (And.intro (And.intro (And.intro (And.intro (@ZEZ) (And.intro (@ZEW) (@Zks))) (And.intro (@ZuQ) (And.intro (@ZEH) (@Zt7)))) (And.intro (And.intro (@Zyx) (And.intro (@Zvt) (@Zmf))) (And.intro (And.intro (@Zqm) (@Zvs)) (And.intro (@Zme) (@Zqj))))) (And.intro (And.intro (And.intro (@ZuX) (And.intro (@ZpJ) (@ZE2))) (And.intro (@ZAI) (And.intro (@ZuW) (@ZuV)))) (And.intro (And.intro (@ZG3) (And.intro (@ZED) (@Zyq))) (And.intro (And.intro (@ZEE) (@ZG2)) (And.intro (@ZyG) (@ZEF))))))))
def Ze:=And.intro (And.intro (And.intro (And.intro (And.intro (And.intro (And.intro (And.intro (@Zvg) (And.intro (@Zvf) (@wp_ret))) (And.intro (@ZCK) (And.intro (@ZCN) (@ZCL)))) (And.intro (And.intro (@ZCM) (And.intro (@ZCO) (@ZFn))) (And.intro (@ZCJ) (And.intro (@ZFo) (@ZvN))))) (And.intro (And.intro (And.intro (@ZvM) (And.intro (@Zmp) (@Zmq))) (And.intro (@Zrq) (And.intro (@Zk6) (@Zha)))) (And.intro (And.intro (@Ziu) (And.intro (@ZCP) (@Zir))) (And.intro (And.intro (@Zg9) (@ZFm)) (And.intro (@ZFl) (@Zmn)))))) (And.intro (And.intro (And.intro (And.intro (@Zmo) (And.intro (@Zk5) (@Zrp))) (And.intro (@ZvJ) (And.intro (@Ziq) (@Zis)))) (And.intro (And.intro (@Zit) (And.intro (@Zio) (@Zg7))) (And.intro (@Zip) (And.intro (@Zg8) (@ZvI))))) (And.intro (And.intro (And.intro (@Zxa) (And.intro (@Zxb) (@Zim))) (And.intro (@Zrm) (And.intro (@Zmm) (@ZeU)))) (And.intro (And.intro (@Zid) (And.intro (@ZgT) (@ZGp))) (And.intro (And.intro (@ZGq) (@ZGs)) (And.intro (@ZGr) (@Zvb))))))) (And.intro (And.intro (And.intro (And.intro (And.intro (@Zp0) (And.intro (@Zp1) (@Zl6))) (And.intro (@Zl7) (And.intro (@Zvc) (@Zva)))) (And.intro (And.intro (@Zrf) (And.intro (@Zre) (@ZBv))) (And.intro (@Zvx) (And.intro (@Zvy) (@ZA4))))) (And.intro (And.intro (And.intro (@ZA5) (And.intro (@ZA2) (@ZA6))) (And.intro (@ZA3) (And.intro (@ZpD) (@ZpE)))) (And.intro (And.intro (@ZpC) (And.intro (@Zl0) (@ZDC))) (And.intro (And.intro (@ZAT) (@ZAU)) (And.intro (@ZDB) (@ZAS)))))) (And.intro (And.intro (And.intro (And.intro (@Zw5) (And.intro (@Zw6) (@ZAV))) (And.intro (@Zw8) (And.intro (@ZGJ) (@ZEt)))) (And.intro (And.intro (@ZEv) (And.intro (@Zst) (@Zss))) (And.intro (And.intro (@Zpq) (@ZmV)) (And.intro (@ZmU) (@Zlc))))) (And.intro (And.intro (And.intro (@Zu2) (And.intro (@ZAK) (@ZAL))) (And.intro (@Zu4) (And.intro (@Zu3) (@ZpT)))) (And.intro (And.intro (@ZAm) (And.intro (@ZEA) (@ZEB))) (And.intro (And.intro (@ZEy) (@ZEz)) (And.intro (@ZuN) (@ZlU)))))))) (And.intro (And.intro (And.intro (And.intro (And.intro (And.intro (@ZlQ) (And.intro (@Zpk) (@Zpl))) (And.intro (@ZlT) (And.intro (@ZlS) (@ZlR)))) (And.intro (And.intro (@Zj9) (And.intro (@ZEL) (@ZEK))) (And.intro (@ZzL) (And.intro (@ZlP) (@ZzK))))) (And.intro (And.intro (And.intro (@Zj8) (And.intro (@Zpj) (@ZpN))) (And.intro (@ZpM) (And.intro (@Zl8) (@Zl9)))) (And.intro (And.intro (@Zxo) (And.intro (@Zxn) (@Zmc))) (And.intro (And.intro (@Zig) (@Zmd)) (And.intro (@ZkG) (@Zp6)))))) (And.intro (And.intro (And.intro (And.intro (@ZkI) (And.intro (@Zkg) (@Zkh))) (And.intro (@Zeh) (And.intro (@Zmb) (@ZkM)))) (And.intro (And.intro (@Zfz) (And.intro (@ZkH) (@Zp7))) (And.intro (And.intro (@Zp8) (@ZgY)) (And.intro (@Zpw) (@ZlY))))) (And.intro (And.intro (And.intro (@Zpy) (And.intro (@Zpx) (@ZeZ))) (And.intro (@ZkL) (And.intro (@Zqr) (@Zmk)))) (And.intro (And.intro (@ZkV) (And.intro (@Zmj) (@Zmi))) (And.intro (And.intro (@ZeX) (@Zu1)) (And.intro (@ZkK) (@ZkJ))))))) (And.intro (And.intro (And.intro (And.intro (And.intro (@ZeY) (And.intro (@ZpR) (@ZpS))) (And.intro (@ZgZ) (And.intro (@Zfy) (@ZgX)))) (And.intro (And.intro (@Zma) (And.intro (@ZuC) (@ZwN))) (And.intro (@ZFI) (And.intro (@ZwM) (@ZFM))))) (And.intro (And.intro (And.intro (@ZFN) (And.intro (@Zz8) (@Zsw))) (And.intro (@Zxc) (And.intro (@ZwV) (@Zsx)))) (And.intro (And.intro (@ZwW) (And.intro (@ZwX) (@Zsy))) (And.intro (And.intro (@Zsz) (@ZC8)) (And.intro (@ZzH) (@Zug)))))) (And.intro (And.intro (And.intro (And.intro (@ZuA) (And.intro (@Zur) (@Zut))) (And.intro (@Zuu) (And.intro (@Zui) (@ZzM)))) (And.intro (And.intro (@ZuB) (And.intro (@Zka) (@Zum))) (And.intro (And.intro (@Zus) (@Zuq)) (And.intro (@Zup) (@Zuo))))) (And.intro (And.intro (And.intro (@Zun) (And.intro (@Zux) (@Zuy))) (And.intro (@Zuk) (And.intro (@Zul) (@Zuw)))) (And.intro (And.intro (@Zuv) (And.intro (@Zuz) (@Zuh))) (And.intro (And.intro (@Zuj) (@ZzT)) (And.intro (@ZwO) (@ZwQ))))))))) (And.intro (And.intro (And.intro (And.intro (And.intro (And.intro (And.intro (@ZzU) (And.intro (@ZGM) (@ZGe))) (And.intro (@ZzR) (And.intro (@ZGL) (@ZEw)))) (And.intro (And.intro (@ZEx) (And.intro (@ZGK) (@ZGd))) (And.intro (@ZDH) (And.intro (@ZDI) (@ZGc))))) (And.intro (And.intro (And.intro (@Zua) (And.intro (@Zpg) (@ZDr))) (And.intro (@Zt8) (And.intro (@ZC6) (@ZC7)))) (And.intro (And.intro (@ZAD) (And.intro (@ZuU) (@ZAt))) (And.intro (And.intro (@ZuR) (@ZAA)) (And.intro (@ZuT) (@ZuS)))))) (And.intro (And.intro (And.intro (And.intro (@ZpI) (And.intro (@ZHx) (@ZAE))) (And.intro (@ZAG) (And.intro (@ZE1) (@ZHy)))) (And.intro (And.intro (@ZHw) (And.intro (@ZAw) (@ZEY))) (And.intro (@ZAx) (And.intro (@ZAu) (@ZEX))))) (And.intro (And.intro (And.intro (@ZEU) (And.intro (@ZEV) (@ZE0))) (And.intro (@ZAy) (And.intro (@ZEZ) (@ZEW)))) (And.intro (And.intro (@Zks) (And.intro (@ZuQ) (@ZGv))) (And.intro (And.intro (@ZDT) (@Zqe)) (And.intro (@ZBl) (@Zxf))))))) (And.intro (And.intro (And.intro (And.intro (And.intro (@ZBm) (And.intro (@ZDV) (@ZGw))) (And.intro (@ZGQ) (And.intro (@ZL7) (@ZGP)))) (And.intro (And.intro (@ZGO) (And.intro (@ZL6) (@ZGN))) (And.intro (@ZBn) (And.intro (@ZDU) (@ZEj))))) (And.intro (And.intro (And.intro (@ZEk) (And.intro (@ZCv) (@ZCw))) (And.intro (@ZLR) (And.intro (@ZF5) (@ZF6)))) (And.intro (And.intro (@ZHI) (And.intro (@ZDz) (@ZAP))) (And.intro (And.intro (@ZF2) (@ZDx)) (And.intro (@ZDy) (@ZpZ)))))) (And.intro (And.intro (And.intro (And.intro (@ZpY) (And.intro (@ZF4) (@ZF3))) (And.intro (@ZHH) (And.intro (@ZHr) (@ZEH)))) (And.intro (And.intro (@Zt7) (And.intro (@Zyx) (@Zvt))) (And.intro (And.intro (@Zmf) (@Zqm)) (And.intro (@Zvs) (@Zme))))) (And.intro (And.intro (And.intro (@Zqj) (And.intro (@ZuX) (@ZpJ))) (And.intro (@ZE2) (And.intro (@ZAI) (@ZuW)))) (And.intro (And.intro (@ZuV) (And.intro (@ZFd) (@ZBp))) (And.intro (And.intro (@ZF8) (@ZDD)) (And.intro (@ZLU) (@ZLV)))))))) (And.intro (And.intro (And.intro (And.intro (And.intro (And.intro (@ZG3) (And.intro (@ZED) (@Zyq))) (And.intro (@ZEE) (And.intro (@ZG2) (@ZyG)))) (And.intro (And.intro (@ZEF) (And.intro (@Zxd) (@ZsU))) (And.intro (@ZDQ) (And.intro (@ZHd) (@Zzt))))) (And.intro (And.intro (And.intro (@ZFB) (And.intro (@Zzs) (@ZFC))) (And.intro (@ZHf) (And.intro (@ZFD) (@ZFA)))) (And.intro (And.intro (@ZC1) (And.intro (@ZHc) (@Zzv))) (And.intro (And.intro (@Zzu) (@Zp)) (And.intro (@ZFd) (@ZBp)))))) (And.intro (And.intro (And.intro (And.intro (@ZGC) (And.intro (@ZEi) (@ZtW))) (And.intro (@ZEg) (And.intro (@ZCu) (@ZzI)))) (And.intro (And.intro (@ZLG) (And.intro (@ZFr) (@Zpd))) (And.intro (And.intro (@ZG7) (@ZG9)) (And.intro (@Zj) (@ZHb))))) (And.intro (And.intro (And.intro (@Zzq) (And.intro (@ZFy) (@Zzp))) (And.intro (@ZFz) (And.intro (@ZC0) (@ZHa)))) (And.intro (And.intro (@Zzr) (And.intro (@ZwK) (@Zpe))) (And.intro (And.intro (@ZAM) (@ZDv)) (And.intro (@ZFt) (@ZGG))))))) (And.intro (And.intro (And.intro (And.intro (And.intro (@ZEo) (And.intro (@Zo) (@ZG6))) (And.intro (@Zzl) (And.intro (@ZFq) (@ZFs)))) (And.intro (And.intro (@ZFp) (And.intro (@Zzj) (@ZCZ))) (And.intro (@ZG5) (And.intro (@Zzm) (@Zzk))))) (And.intro (And.intro (And.intro (@Zi) (And.intro (@Zw) (@ZgM))) (And.intro (@ZFv) (And.intro (@ZFx) (@ZFu)))) (And.intro (And.intro (@Zzn) (And.intro (@ZFw) (@ZmO))) (And.intro (And.intro (@ZG8) (@Zzo)) (And.intro (@ZwJ) (@Zsn)))))) (And.intro (And.intro (And.intro (And.intro (@gi1) (And.intro (@gi2) (@gi3))) (And.intro (@gi4) (And.intro (@gi5) (@gi6)))) (And.intro (And.intro (@gi7) (And.intro (@gi8) (@gi9))) (And.intro (And.intro (@ZNH) (@ZDw)) (And.intro (@ZgU) (@ZDo))))) (And.intro (And.intro (And.intro (@ZAe) (And.intro (@ZsE) (@ZDq))) (And.intro (@ZAf) (And.intro (@Zw1) (@ZAh)))) (And.intro (And.intro (@ZAi) (And.intro (@ZAg) (@ZDp))) (And.intro (And.intro (@ZDA) (@ZAQ)) (And.intro (@ZEl) (@Zrj)))))))))
def Zd:=And.intro (And.intro (And.intro (And.intro (And.intro (And.intro (@List.set_cons_succ.{0}) (@List.set_cons_zero.{0})) (And.intro (@List.foldr_cons.{0,0}) (@List.foldr_nil.{0,0}))) (And.intro (And.intro (@List.append_eq.{0}) (@List.mem_cons.{0})) (And.intro (@List.flatMap_nil.{0,0}) (And.intro (@List.flatMap_cons.{0,0}) (@List.all_nil.{0}))))) (And.intro (And.intro (And.intro (@List.all_cons.{0}) (@List.map_nil.{0,0})) (And.intro (@List.map_cons.{0,0}) (@List.zip_cons_cons.{0,0}))) (And.intro (And.intro (@List.zip_nil_left.{0,0}) (@List.nil_append.{0})) (And.intro (@List.append_nil.{0}) (And.intro (@List.cons_append.{0}) (@List.drop_zero.{0})))))) (And.intro (And.intro (And.intro (And.intro (@List.drop_succ_cons.{0}) (@List.take_succ_cons.{0})) (And.intro (@List.take_zero.{0}) (@List.length_cons.{0}))) (And.intro (And.intro (@List.length_nil.{0}) (@List.getElem?_cons_succ.{0})) (And.intro (@List.getElem?_cons_zero.{0}) (And.intro (@Option.getD_some.{0}) (@Option.getD_none.{0}))))) (And.intro (And.intro (And.intro (@Option.map_some.{0,0}) (@Option.map_none.{0,0})) (And.intro (@Option.some.injEq.{0}) (@Option.isSome_none.{0}))) (And.intro (And.intro (@Option.isSome_some.{0}) (@Option.toList_some.{0})) (And.intro (@Option.toList_none.{0}) (And.intro (@List.not_mem_nil.{0}) (@false_implies))))))) (And.intro (And.intro (And.intro (And.intro (And.intro (@true_and) (@and_true)) (And.intro (@Nat.succ_ne_self) (@Bool.false_eq_true))) (And.intro (And.intro (@Bool.true_and) (@Bool.and_true)) (And.intro (@or_true) (And.intro (@true_or) (@and_self))))) (And.intro (And.intro (And.intro (@bne_self_eq_false.{0}) (@beq_self_eq_true.{0})) (And.intro (@Bool.or_false) (@Bool.false_or))) (And.intro (And.intro (@Bool.and_false) (@Bool.false_and)) (And.intro (@false_or) (And.intro (@or_false) (@beq_true)))))) (And.intro (And.intro (And.intro (And.intro (@beq_false) (@Name.mk.injEq)) (And.intro (@decide_true) (@decide_false))) (And.intro (And.intro (@Bool.or_true) (@Bool.true_or)) (And.intro (@Bool.or_self) (And.intro (@Bool.not_eq_true') (@Bool.not_true))))) (And.intro (And.intro (And.intro (@Bool.not_false) (@Bool.true_eq_false)) (And.intro (@Bool.cond_true_left) (And.intro (@Bool.cond_false_right) (@Nat.zero_add)))) (And.intro (And.intro (@List.range_succ) (@List.range_zero)) (And.intro (@Int.toNat_natCast) (And.intro (@List.mem_nil_iff.{0}) (@List.mem_append.{0})))))))
def Zm:=And.intro (And.intro (And.intro (And.intro (And.intro (And.intro (@fnA.eq_1) (@Zlf.eq_1)) (And.intro (@V.bufs.eq_1) (@V.bufs.eq_2))) (And.intro (And.intro (@V.bufs.eq_3) (@Zcy.eq_1)) (And.intro (@Zcy.eq_2) (@ZEu.eq_1)))) (And.intro (And.intro (And.intro (@ZEu.eq_2) (@ZEu.eq_3)) (And.intro (@ZLw.eq_1) (@ZLx.eq_1))) (And.intro (And.intro (@Zk7.eq_1) (@Zk7.eq_2)) (And.intro (@Zkj.eq_1) (And.intro (@ZBk.eq_1) (@ZpW.eq_1)))))) (And.intro (And.intro (And.intro (And.intro (@ZHR.eq_1) (@V.pure.eq_1)) (And.intro (@V.pure.eq_2) (@V.pure.eq_3))) (And.intro (And.intro (@C.pure.eq_1) (@C.pure.eq_2)) (And.intro (@C.pure.eq_3) (And.intro (@V.ptrs.eq_1) (@V.ptrs.eq_2))))) (And.intro (And.intro (And.intro (@C.ptrs.eq_1) (@C.ptrs.eq_2)) (And.intro (@C.ptrs.eq_3) (@C.ptrs.eq_4))) (And.intro (And.intro (@C.bufs.eq_1) (@C.bufs.eq_2)) (And.intro (@C.bufs.eq_3) (And.intro (@C.bufs.eq_4) (@C.bufs.eq_5))))))) (And.intro (And.intro (And.intro (And.intro (And.intro (@C.bufs.eq_6) (@ZgO.eq_1)) (And.intro (@Zd2.eq_1) (@Zd2.eq_2))) (And.intro (And.intro (@Zd2.eq_3) (@ZmQ.eq_1)) (And.intro (@dstOk.eq_1) (@lk.eq_1)))) (And.intro (And.intro (And.intro (@lk.eq_2) (@V.cells.eq_1)) (And.intro (@V.cells.eq_2) (@V.cells.eq_3))) (And.intro (And.intro (@Op.eff.eq_1) (@ZhI.eq_1)) (And.intro (@Ziy.eq_1) (And.intro (@cut.eq_1) (@lay.eq_1)))))) (And.intro (And.intro (And.intro (And.intro (@lay.eq_2) (@lay.eq_3)) (And.intro (@Zft.eq_1) (@C.toDs.eq_1))) (And.intro (And.intro (@C.toDs.eq_2) (@C.toD.eq_1)) (And.intro (@C.toD.eq_2) (And.intro (@C.toD.eq_3) (@C.toD.eq_4))))) (And.intro (And.intro (And.intro (@V.toD.eq_1) (@V.toD.eq_2)) (And.intro (@V.toD.eq_3) (@V.toD.eq_4))) (And.intro (And.intro (@V.toD.eq_5) (@toDs.eq_1)) (And.intro (@toDs.eq_2) (And.intro (@Zbc.eq_1) (@Zbc.eq_2)))))))

end Go.Vam
end
section
set_option linter.unusedVariables false
set_option linter.unusedSimpArgs false
namespace Go.Vam

def ren4 (i j l o:Nat) (n m p q:Name) (x:Name):Name:=bif Nat.beq x.s i then n else bif Nat.beq x.s j then m else bif Nat.beq x.s l then p else q
theorem Spec.ren4 {P:Program} {f:FuncId} {args:List V} {b b':Zf} {k k':Zr} {r:V} {lv:Nat} (h:Spec P 0 f args b k r b' k') (i j l o:Nat) {n m p q:Name}
  (hs:Za9 [⟨0,i⟩,⟨0,j⟩,⟨0,l⟩,⟨0,o⟩] args b k r b' k') (hn:n.lv≤lv) (hm:m.lv≤lv) (hp:p.lv≤lv) (hq:q.lv≤lv) (hd:m≠n) (hd2:p≠n) (hd3:p≠m) (hd4:q≠n) (hd5:q≠m) (hd6:q≠p) (hij:(Nat.beq j i || Nat.beq l i || Nat.beq l j || Nat.beq o i || Nat.beq o j || Nat.beq o l)=false:=by rfl) :
  Spec P lv f (args.map (V.ren (ren4 i j l o n m p q))) (Zih (ren4 i j l o n m p q) b) (Zii (ren4 i j l o n m p q) k) (r.ren (ren4 i j l o n m p q)) (Zih (ren4 i j l o n m p q) b') (Zii (ren4 i j l o n m p q) k'):=by
 simp only [Bool.or_eq_false_iff] at hij
 have e1:Go.Vam.ren4 i j l o n m p q ⟨0,i⟩=n:=by simp [Go.Vam.ren4]
 have e2:Go.Vam.ren4 i j l o n m p q ⟨0,j⟩=m:=by simp [Go.Vam.ren4,hij]
 have e3:Go.Vam.ren4 i j l o n m p q ⟨0,l⟩=p:=by simp [Go.Vam.ren4,hij]
 have e4:Go.Vam.ren4 i j l o n m p q ⟨0,o⟩=q:=by simp [Go.Vam.ren4,hij]
 refine h.ren lv _ [⟨0,i⟩,⟨0,j⟩,⟨0,l⟩,⟨0,o⟩] hs (by simp) ?_ ?_
 ·simp only [List.map_cons,List.map_nil,e1,e2,e3,e4,List.nodup_cons,List.mem_cons,List.not_mem_nil,or_false,not_false_eq_true,List.nodup_nil,and_true,not_or]
  exact ⟨⟨hd.symm,hd2.symm,hd4.symm⟩,⟨hd3.symm,hd5.symm⟩,hd6.symm⟩
 ·intro x hx
  simp only [List.mem_cons,List.not_mem_nil,or_false] at hx
  rcases hx with rfl | rfl | rfl | rfl
  ·rw [e1]; exact hn
  ·rw [e2]; exact hm
  ·rw [e3]; exact hp
  ·rw [e4]; exact hq

structure Inp where
 c:Int
 l:List Int
 a:Int
 b:Int
 m:List Int
 f:Int
 t:Int
 n:Int
 i:Int
def Zym:Inp:=⟨0,[],0,0,[],0,0,0,0⟩
def ZLO (x:Inp):D:=.agg [.int .i64 x.c,.list (LI .i32 x.l),.int .i64 x.a,.int .i64 x.b,.list (LI .i64 x.m),.int .i64 x.f,.int .i64 x.t,.int .i64 x.n,.int .i64 x.i]
def LX (l:List Inp):List D:=l.map ZLO
def ZLI:D→Inp
 | .agg [.int _ c,.list l,.int _ a,.int _ b,.list m,.int _ f,.int _ t,.int _ n,.int _ i]=>⟨c,Zc l,a,b,Zc m,f,t,n,i⟩
 | _=>Zym
def Zk9 (l:List D):List Inp:=l.map ZLI

section
variable {l m:List Inp} {n:Nat} {c a b f t k i:Int} {x y:List Int}
theorem Z4:Zk9 (LX l)=l:=by
 simp only [Zk9,LX,List.map_map]
 rw [show (ZLI ∘ ZLO)=id from ?_,List.map_id]
 funext p
 simp [ZLI,ZLO,Zi]
theorem ZFE {q:List D} (e:q=LX (Zk9 q)):∃ l,q=LX l:=⟨_,e⟩
theorem Zbe:LX []=[]:=rfl
theorem ZR:(LX l).length=l.length:=List.length_map ..
theorem Zaq:((LX l)[n]?).getD (D.agg [.int .i64 0,.list [],.int .i64 0,.int .i64 0,.list [],.int .i64 0,.int .i64 0,.int .i64 0,.int .i64 0])=.agg [.int .i64 (l[n]?.getD Zym).c,.list (LI .i32 (l[n]?.getD Zym).l),.int .i64 (l[n]?.getD Zym).a,.int .i64 (l[n]?.getD Zym).b,.list (LI .i64 (l[n]?.getD Zym).m),.int .i64 (l[n]?.getD Zym).f,.int .i64 (l[n]?.getD Zym).t,.int .i64 (l[n]?.getD Zym).n,.int .i64 (l[n]?.getD Zym).i]:=by
 simp only [LX,List.getElem?_map]
 cases l[n]? <;> rfl
theorem ZQ:LX l++LX m=LX (l++m):=(List.map_append ..).symm
theorem Zbf:[D.agg [.int .i64 c,.list (LI .i32 x),.int .i64 a,.int .i64 b,.list (LI .i64 y),.int .i64 f,.int .i64 t,.int .i64 k,.int .i64 i]]=LX [⟨c,x,a,b,y,f,t,k,i⟩]:=rfl
theorem Z5:(∀ y∈LX l,y.cells.length=9)=True:=by
 refine eq_true fun y hy=>?_
 obtain ⟨x,_,rfl⟩:=List.mem_map.1 hy
 rfl
theorem Zbd:(LX l=LX m)=(l=m):=by
 refine propext ⟨fun h=>?_,fun h=>by rw [h]⟩
 have:=congrArg Zk9 h
 rwa [Z4,Z4] at this
theorem ZS:(LX l=[])=(l=[]):=by cases l <;> simp [LX]
theorem ZL:(LX l=LX (Zk9 (LX l)))=True:=by rw [Z4]; exact eq_self _
theorem Zar:(LX l).take n=LX (l.take n):=(List.map_take ..).symm
theorem Zap:(LX l).drop n=LX (l.drop n):=(List.map_drop ..).symm
end

end Go.Vam
end
section
set_option linter.unusedVariables false
namespace Go.Vam

end Go.Vam
end
