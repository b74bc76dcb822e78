/- A part of the proof. Conditions: none. -/
import Derived.Test.YtmpbpijnbmpbhaaGreatSVk
section
set_option linter.unusedVariables false
set_option linter.unusedSimpArgs false
namespace Go.Vam

def ren3 (i j:Nat) (n m p:Name) (x:Name):Name:=bif Nat.beq x.s i then n else bif Nat.beq x.s j then m else p
theorem Spec.ren3 {P:Program} {f:FuncId} {args:List V} {b b':Zf} {k k':Zw} {r:V} {lv:Nat} (h:Spec P 0 f args b k r b' k') (i j l:Nat) {n m p:Name}
  (hs:Zbi [⟨0,i⟩,⟨0,j⟩,⟨0,l⟩] args b k r b' k') (hn:n.lv≤lv) (hm:m.lv≤lv) (hp:p.lv≤lv) (hd:m≠n) (hd2:p≠n) (hd3:p≠m) (hij:(Nat.beq j i || Nat.beq l i || Nat.beq l j)=false:=by rfl) :
  Spec P lv f (args.map (V.ren (ren3 i j n m p))) (Zic (ren3 i j n m p) b) (Zid (ren3 i j n m p) k) (r.ren (ren3 i j n m p)) (Zic (ren3 i j n m p) b') (Zid (ren3 i j n m p) k'):=by
 simp only [Bool.or_eq_false_iff] at hij
 have e1:Go.Vam.ren3 i j n m p ⟨0,i⟩=n:=by simp [Go.Vam.ren3]
 have e2:Go.Vam.ren3 i j n m p ⟨0,j⟩=m:=by simp [Go.Vam.ren3,hij]
 have e3:Go.Vam.ren3 i j n m p ⟨0,l⟩=p:=by simp [Go.Vam.ren3,hij]
 refine h.ren lv _ [⟨0,i⟩,⟨0,j⟩,⟨0,l⟩] hs (by simp) ?_ ?_
 ·simp only [List.map_cons,List.map_nil,e1,e2,e3,List.nodup_cons,List.mem_cons,List.not_mem_nil,or_false,not_false_eq_true,List.nodup_nil,and_true,not_or]
  exact ⟨⟨hd.symm,hd2.symm⟩,hd3.symm⟩
 ·intro x hx
  simp only [List.mem_cons,List.not_mem_nil,or_false] at hx
  rcases hx with rfl | rfl | rfl
  ·rw [e1]; exact hn
  ·rw [e2]; exact hm
  ·rw [e3]; exact hp

theorem ELoop_sub {X:Ctx} {M:List (Nat×List Nat)} {m:Nat} {c:Code} {Q:Exit→St→Prop} {st st':St} (h:Sub X st' st) (hl:Zmb X M m c Q st'):Zmb X M m c Q st:=by
 obtain ⟨G,T,J,μ,⟨g,hg,hs⟩,hr⟩:=hl
 exact ⟨G,T,J,μ,⟨g,hg,hs.trans h⟩,hr⟩

theorem Ze3 {X:Ctx} {M:List (Nat×List Nat)} {m:Nat} {c:Code} {Q:Exit→St→Prop} {t:List (Nat×V)} {b:Zf} {k:Zw} (a:Name) (j sz:Nat) (n:Name) {cs:List C} (hm:lk b a=some cs) (hj:cs[j]?=some .nil) (hf:FreeB ⟨t,b,k⟩ n) (hn:X.L≤n.lv)
  (hl:evS ⟨t,(a,cs.set j (.own n []))::b,(n,⟨false,sz,[]⟩)::k⟩ (Zmb X M m c Q)):Zmb X M m c Q ⟨t,b,k⟩ :=
 ELoop_sub (Sub.nilB sz hm hj hf hn) hl
theorem Ze4 {X:Ctx} {M:List (Nat×List Nat)} {m:Nat} {c:Code} {Q:Exit→St→Prop} {t:List (Nat×V)} {b:Zf} {k:Zw} (a sz:Nat) (n:Name) (hm:lk t a=some (.c .nil)) (hf:FreeB ⟨t,b,k⟩ n) (hn:X.L≤n.lv)
  (hl:evS ⟨(a,.c (.own n []))::t,b,(n,⟨false,sz,[]⟩)::k⟩ (Zmb X M m c Q)):Zmb X M m c Q ⟨t,b,k⟩ :=
 ELoop_sub (Sub.nilT sz hm hf hn) hl

theorem ZzE {k:IntKind} {a:Int} {l:List D}:Zc (D.int k a::l)=a::Zc l:=Eq.trans rfl rfl
theorem ZCj:Zc []=[]:=Eq.trans rfl rfl
theorem ZEc {k:IntKind} {a:Int} {l:List Int}:LI k (a::l)=D.int k a::LI k l:=Eq.trans rfl rfl

end Go.Vam
end
section
set_option linter.unusedVariables false
set_option linter.unusedSimpArgs false
namespace Go.Vam

def ZKt (p:Int×List Int):D:=.agg [.int .i64 p.1,.list (LI .i32 p.2)]
def LK (l:List (Int×List Int)):List D:=l.map ZKt
def ZKE:D→Int×List Int
 | .agg [.int _ n,.list l]=>(n,Zc l)
 | _=>(0,[])
def ZKu (l:List D):List (Int×List Int):=l.map ZKE

section
variable {l m:List (Int×List Int)} {n:Nat} {c:Int} {x:List Int}
theorem Zj:ZKu (LK l)=l:=by
 simp only [ZKu,LK,List.map_map]
 rw [show (ZKE ∘ ZKt)=id from ?_,List.map_id]
 funext p
 simp [ZKE,ZKt,Zi]
theorem ZF4:LK []=[]:=rfl
theorem Zyp:(LK l).length=l.length:=List.length_map ..
theorem ZEh:((LK l)[n]?).getD (D.agg [.int .i64 0,.list []])=.agg [.int .i64 (l[n]?.getD (0,[])).1,.list (LI .i32 (l[n]?.getD (0,[])).2)]:=by
 simp only [LK,List.getElem?_map]
 cases l[n]? <;> rfl
theorem Zyo:LK l++LK m=LK (l++m):=(List.map_append ..).symm
theorem ZEi:LK l++[D.agg [.int .i64 c,.list (LI .i32 x)]]=LK (l++[(c,x)]):=by simp [LK,ZKt]
theorem ZBP:(∀ y∈LK l,y.cells.length=2)=True:=by
 refine eq_true fun y hy=>?_
 obtain ⟨x,_,rfl⟩:=List.mem_map.1 hy
 rfl
theorem ZF3:(LK l=LK m)=(l=m):=by
 refine propext ⟨fun h=>?_,fun h=>by rw [h]⟩
 have:=congrArg ZKu h
 rwa [Zj,Zj] at this
theorem Zyq:(LK l=[])=(l=[]):=by cases l <;> simp [LK]
theorem ZvC:(LK l=LK (ZKu (LK l)))=True:=by rw [Zj]; exact eq_self _
end

end Go.Vam
end
section
set_option linter.unusedVariables false
set_option linter.unusedSimpArgs false
namespace Go.Vam

def LL (k:IntKind) (l:List (List Int)):List D:=l.map fun x=>D.list (LI k x)
def lls (q:List D):List (List Int):=q.map fun d=>Zc d.toL

section
variable {k:IntKind} {l m:List (List Int)} {n:Nat} {x:List Int}
theorem Zq:lls (LL k l)=l:=by
 simp only [lls,LL,List.map_map]
 rw [show ((fun d:D=>Zc d.toL) ∘ fun x=>D.list (LI k x))=id from ?_,List.map_id]
 funext p
 simp [D.toL,Zi]
theorem ZrQ {q:List D} (e:q=LL k (lls q)):∃ l,q=LL k l:=⟨_,e⟩
theorem ZF6:LL k []=[]:=rfl
theorem Zys:(LL k l).length=l.length:=List.length_map ..
theorem ZEk:((LL k l)[n]?).getD (D.list [])=.list (LI k (l[n]?.getD [])):=by
 simp only [LL,List.getElem?_map]
 cases l[n]? <;> rfl
theorem Zyr:LL k l++LL k m=LL k (l++m):=(List.map_append ..).symm
theorem ZEl:LL k l++[D.list (LI k x)]=LL k (l++[x]):=by simp [LL]
theorem ZF8:(LL k l).set n (D.list (LI k x))=LL k (l.set n x):=(List.map_set ..).symm
theorem ZEm:(LL k l).take n=LL k (l.take n):=(List.map_take ..).symm
theorem ZEj:(LL k l).drop n=LL k (l.drop n):=(List.map_drop ..).symm
theorem ZBQ:(∀ y∈LL k l,y.cells.length=1)=True:=by
 refine eq_true fun y hy=>?_
 obtain ⟨x,_,rfl⟩:=List.mem_map.1 hy
 rfl
theorem ZF5:(LL k l=LL k m)=(l=m):=by
 refine propext ⟨fun h=>?_,fun h=>by rw [h]⟩
 have:=congrArg lls h
 rwa [Zq,Zq] at this
theorem Zyu:(LL k l=[])=(l=[]):=by cases l <;> simp [LL]
theorem Zyt:(LL k l=LL k (lls (LL k l)))=True:=by rw [Zq]; exact eq_self _
theorem ZF7:LL k (List.replicate n [])=List.replicate n (D.list []):=by simp [LL,LI]
end

end Go.Vam
end
section
set_option linter.defProp false
set_option maxRecDepth 4000
namespace Go.Vam

def Zo:=And.intro (And.intro (And.intro (And.intro (And.intro (And.intro (And.intro (@Zuo) (And.intro (@Zun) (@wp_ret))) (And.intro (@ZBA) (And.intro (@ZBD) (@ZBB)))) (And.intro (And.intro (@ZBC) (And.intro (@ZBE) (@ZD6))) (And.intro (@ZBz) (And.intro (@ZD7) (@ZuS))))) (And.intro (And.intro (And.intro (@ZuR) (And.intro (@Zl8) (@Zl9))) (And.intro (@ZqP) (And.intro (@ZkT) (@Zhb)))) (And.intro (And.intro (@Ziq) (And.intro (@ZBF) (@Zin))) (And.intro (And.intro (@Zha) (@ZD5)) (And.intro (@ZD4) (@Zl6)))))) (And.intro (And.intro (And.intro (And.intro (@Zl7) (And.intro (@ZkS) (@ZqO))) (And.intro (@ZuO) (And.intro (@Zim) (@Zio)))) (And.intro (And.intro (@Zip) (And.intro (@Zik) (@Zg8))) (And.intro (And.intro (@Zil) (@Zg9)) (And.intro (@ZuN) (@Zii))))) (And.intro (And.intro (And.intro (@ZqL) (And.intro (@Zl5) (@ZeT))) (And.intro (@Zh8) (And.intro (@ZgS) (@Zuj)))) (And.intro (And.intro (@Zps) (And.intro (@Zpt) (@ZlO))) (And.intro (And.intro (@ZlP) (@Zuk)) (And.intro (@Zui) (@ZqG))))))) (And.intro (And.intro (And.intro (And.intro (And.intro (@ZqF) (And.intro (@ZAn) (@ZuC))) (And.intro (@ZuD) (And.intro (@ZzX) (@ZzY)))) (And.intro (And.intro (@ZzV) (And.intro (@ZzZ) (@ZzW))) (And.intro (And.intro (@Zo7) (@Zo8)) (And.intro (@Zo6) (@ZlK))))) (And.intro (And.intro (And.intro (@Zt9) (And.intro (@ZzB) (@ZzC))) (And.intro (@Zub) (And.intro (@Zua) (@Zpl)))) (And.intro (And.intro (@Zzf) (And.intro (@ZtS) (@ZlF))) (And.intro (And.intro (@ZlB) (@ZoP)) (And.intro (@ZoQ) (@ZlE)))))) (And.intro (And.intro (And.intro (And.intro (@ZlD) (And.intro (@ZlC) (@ZjR))) (And.intro (@ZDv) (And.intro (@ZDu) (@ZyG)))) (And.intro (And.intro (@ZlA) (And.intro (@ZyF) (@ZjQ))) (And.intro (And.intro (@ZoO) (@Zpg)) (And.intro (@Zpf) (@ZlS))))) (And.intro (And.intro (And.intro (@ZlT) (And.intro (@ZlW) (@Zib))) (And.intro (@ZlX) (And.intro (@Zks) (@Zpw)))) (And.intro (And.intro (@Zku) (And.intro (@ZjZ) (@Zj0))) (And.intro (And.intro (@Zd6) (@ZlV)) (And.intro (@Zky) (@Zfw)))))))) (And.intro (And.intro (And.intro (And.intro (And.intro (And.intro (@Zkt) (And.intro (@Zpx) (@Zpy))) (And.intro (@ZgW) (And.intro (@ZoY) (@ZlJ)))) (And.intro (And.intro (@Zo0) (And.intro (@ZoZ) (@ZeX))) (And.intro (@Zkx) (And.intro (@ZpL) (@Zl3))))) (And.intro (And.intro (And.intro (@ZkJ) (And.intro (@Zl2) (@Zl1))) (And.intro (@ZeV) (And.intro (@Zt8) (@Zkw)))) (And.intro (And.intro (@Zkv) (And.intro (@ZeW) (@Zpj))) (And.intro (And.intro (@Zpk) (@ZgX)) (And.intro (@Zfv) (@ZgV)))))) (And.intro (And.intro (And.intro (And.intro (@ZlU) (And.intro (@ZtO) (@Zts))) (And.intro (@ZtM) (And.intro (@ZtD) (@ZtF)))) (And.intro (And.intro (@ZtG) (And.intro (@Ztu) (@ZyH))) (And.intro (And.intro (@ZtN) (@ZjS)) (And.intro (@Zty) (@ZtE))))) (And.intro (And.intro (And.intro (@ZtC) (And.intro (@ZtB) (@ZtA))) (And.intro (@Ztz) (And.intro (@ZtJ) (@ZtK)))) (And.intro (And.intro (@Ztw) (And.intro (@Ztx) (@ZtI))) (And.intro (And.intro (@ZtH) (@ZtL)) (And.intro (@Ztt) (@Ztv))))))) (And.intro (And.intro (And.intro (And.intro (And.intro (@Ztq) (And.intro (@ZoM) (@Ztn))) (And.intro (@Zzs) (And.intro (@ZtZ) (@Zzi)))) (And.intro (And.intro (@ZtW) (And.intro (@Zzp) (@ZtY))) (And.intro (And.intro (@ZtX) (@Zpb)) (And.intro (@ZGp) (@Zzt))))) (And.intro (And.intro (And.intro (@Zzv) (And.intro (@ZDM) (@ZGq))) (And.intro (@ZGo) (And.intro (@Zzl) (@ZDJ)))) (And.intro (And.intro (@Zzm) (And.intro (@Zzj) (@ZDI))) (And.intro (And.intro (@ZDF) (@ZDG)) (And.intro (@ZDL) (@Zzn)))))) (And.intro (And.intro (And.intro (And.intro (@ZDK) (And.intro (@ZDH) (@Zkb))) (And.intro (@ZtV) (And.intro (@ZDq) (@Ztm)))) (And.intro (And.intro (@Zxz) (And.intro (@ZuA) (@ZlZ))) (And.intro (And.intro (@ZpI) (@Zuz)) (And.intro (@ZlY) (@ZpG))))) (And.intro (And.intro (And.intro (@Zt2) (And.intro (@Zpc) (@ZDN))) (And.intro (@Zzx) (And.intro (@Zt1) (@Zt0)))) (And.intro (And.intro (@ZFX) (And.intro (@ZDm) (@Zxq))) (And.intro (And.intro (@ZDn) (@ZFW)) (And.intro (@ZxJ) (@ZDo))))))))
def Ze:=And.intro (And.intro (And.intro (And.intro (And.intro (And.intro (And.intro (And.intro (@Zuo) (And.intro (@Zun) (@wp_ret))) (And.intro (@ZBA) (And.intro (@ZBD) (@ZBB)))) (And.intro (And.intro (@ZBC) (And.intro (@ZBE) (@ZD6))) (And.intro (@ZBz) (And.intro (@ZD7) (@ZuS))))) (And.intro (And.intro (And.intro (@ZuR) (And.intro (@Zl8) (@Zl9))) (And.intro (@ZqP) (And.intro (@ZkT) (@Zhb)))) (And.intro (And.intro (@Ziq) (And.intro (@ZBF) (@Zin))) (And.intro (And.intro (@Zha) (@ZD5)) (And.intro (@ZD4) (@Zl6)))))) (And.intro (And.intro (And.intro (And.intro (@Zl7) (And.intro (@ZkS) (@ZqO))) (And.intro (@ZuO) (And.intro (@Zim) (@Zio)))) (And.intro (And.intro (@Zip) (And.intro (@Zik) (@Zg8))) (And.intro (@Zil) (And.intro (@Zg9) (@ZuN))))) (And.intro (And.intro (And.intro (@Zv5) (And.intro (@Zv6) (@Zii))) (And.intro (@ZqL) (And.intro (@Zl5) (@ZeT)))) (And.intro (And.intro (@Zh8) (And.intro (@ZgS) (@ZFi))) (And.intro (And.intro (@ZFj) (@ZFl)) (And.intro (@ZFk) (@Zuj))))))) (And.intro (And.intro (And.intro (And.intro (And.intro (@Zps) (And.intro (@Zpt) (@ZlO))) (And.intro (@ZlP) (And.intro (@Zuk) (@Zui)))) (And.intro (And.intro (@ZqG) (And.intro (@ZqF) (@ZAn))) (And.intro (@ZuC) (And.intro (@ZuD) (@ZzX))))) (And.intro (And.intro (And.intro (@ZzY) (And.intro (@ZzV) (@ZzZ))) (And.intro (@ZzW) (And.intro (@Zo7) (@Zo8)))) (And.intro (And.intro (@Zo6) (And.intro (@ZlK) (@ZCq))) (And.intro (And.intro (@ZzL) (@ZzM)) (And.intro (@ZCp) (@ZzK)))))) (And.intro (And.intro (And.intro (And.intro (@ZvZ) (And.intro (@Zv0) (@ZzN))) (And.intro (@Zv2) (And.intro (@ZFD) (@ZDb)))) (And.intro (And.intro (@ZDd) (And.intro (@ZrT) (@ZrS))) (And.intro (And.intro (@ZoU) (@ZmF)) (And.intro (@ZmE) (@ZkW))))) (And.intro (And.intro (And.intro (@Zt9) (And.intro (@ZzB) (@ZzC))) (And.intro (@Zub) (And.intro (@Zua) (@Zpl)))) (And.intro (And.intro (@Zzf) (And.intro (@ZDi) (@ZDj))) (And.intro (And.intro (@ZDg) (@ZDh)) (And.intro (@ZtS) (@ZlF)))))))) (And.intro (And.intro (And.intro (And.intro (And.intro (And.intro (@ZlB) (And.intro (@ZoP) (@ZoQ))) (And.intro (@ZlE) (And.intro (@ZlD) (@ZlC)))) (And.intro (And.intro (@ZjR) (And.intro (@ZDv) (@ZDu))) (And.intro (@ZyG) (And.intro (@ZlA) (@ZyF))))) (And.intro (And.intro (And.intro (@ZjQ) (And.intro (@ZoO) (@Zpg))) (And.intro (@Zpf) (And.intro (@ZlS) (@ZlT)))) (And.intro (And.intro (@Zwi) (And.intro (@Zwh) (@ZlW))) (And.intro (And.intro (@Zib) (@ZlX)) (And.intro (@Zks) (@Zpw)))))) (And.intro (And.intro (And.intro (And.intro (@Zku) (And.intro (@ZjZ) (@Zj0))) (And.intro (@Zd6) (And.intro (@ZlV) (@Zky)))) (And.intro (And.intro (@Zfw) (And.intro (@Zkt) (@Zpx))) (And.intro (And.intro (@Zpy) (@ZgW)) (And.intro (@ZoY) (@ZlJ))))) (And.intro (And.intro (And.intro (@Zo0) (And.intro (@ZoZ) (@ZeX))) (And.intro (@Zkx) (And.intro (@ZpL) (@Zl3)))) (And.intro (And.intro (@ZkJ) (And.intro (@Zl2) (@Zl1))) (And.intro (And.intro (@ZeV) (@Zt8)) (And.intro (@Zkw) (@Zkv))))))) (And.intro (And.intro (And.intro (And.intro (And.intro (@ZeW) (And.intro (@Zpj) (@Zpk))) (And.intro (@ZgX) (And.intro (@Zfv) (@ZgV)))) (And.intro (And.intro (@ZlU) (And.intro (@ZtO) (@ZvG))) (And.intro (@ZEu) (And.intro (@ZvF) (@ZEz))))) (And.intro (And.intro (And.intro (@ZEA) (And.intro (@Zy0) (@ZrV))) (And.intro (@Zv7) (And.intro (@ZvP) (@ZrW)))) (And.intro (And.intro (@ZvQ) (And.intro (@ZvR) (@ZrX))) (And.intro (And.intro (@ZrY) (@ZBZ)) (And.intro (@ZyC) (@Zts)))))) (And.intro (And.intro (And.intro (And.intro (@ZtM) (And.intro (@ZtD) (@ZtF))) (And.intro (@ZtG) (And.intro (@Ztu) (@ZyH)))) (And.intro (And.intro (@ZtN) (And.intro (@ZjS) (@Zty))) (And.intro (And.intro (@ZtE) (@ZtC)) (And.intro (@ZtB) (@ZtA))))) (And.intro (And.intro (And.intro (@Ztz) (And.intro (@ZtJ) (@ZtK))) (And.intro (@Ztw) (And.intro (@Ztx) (@ZtI)))) (And.intro (And.intro (@ZtH) (And.intro (@ZtL) (@Ztt))) (And.intro (And.intro (@Ztv) (@ZyM)) (And.intro (@ZvI) (@ZvK))))))))) (And.intro (And.intro (And.intro (And.intro (And.intro (And.intro (And.intro (@ZyN) (And.intro (@ZFG) (@ZE7))) (And.intro (@ZyK) (And.intro (@ZFF) (@ZDe)))) (And.intro (And.intro (@ZDf) (And.intro (@ZFE) (@ZE6))) (And.intro (@ZCv) (And.intro (@ZCw) (@ZE5))))) (And.intro (And.intro (And.intro (@Ztq) (And.intro (@ZoM) (@ZCd))) (And.intro (@Ztn) (And.intro (@ZBU) (@ZBV)))) (And.intro (And.intro (@Zzs) (And.intro (@ZtZ) (@Zzi))) (And.intro (And.intro (@ZtW) (@Zzp)) (And.intro (@ZtY) (@ZtX)))))) (And.intro (And.intro (And.intro (And.intro (@Zpb) (And.intro (@ZGp) (@Zzt))) (And.intro (@Zzv) (And.intro (@ZDM) (@ZGq)))) (And.intro (And.intro (@ZGo) (And.intro (@Zzl) (@ZDJ))) (And.intro (@Zzm) (And.intro (@Zzj) (@ZDI))))) (And.intro (And.intro (And.intro (@ZDF) (And.intro (@ZDG) (@ZDL))) (And.intro (@Zzn) (And.intro (@ZDK) (@ZDH)))) (And.intro (And.intro (@Zkb) (And.intro (@ZtV) (@ZFm))) (And.intro (And.intro (@ZCC) (@ZpD)) (And.intro (@ZAe) (@Zwa))))))) (And.intro (And.intro (And.intro (And.intro (And.intro (@ZAf) (And.intro (@ZCE) (@ZFn))) (And.intro (@ZFK) (And.intro (@ZK7) (@ZFJ)))) (And.intro (And.intro (@ZFI) (And.intro (@ZK6) (@ZFH))) (And.intro (@ZAg) (And.intro (@ZCD) (@ZC1))))) (And.intro (And.intro (And.intro (@ZC2) (And.intro (@ZBl) (@ZBm))) (And.intro (@ZKQ) (And.intro (@ZE0) (@ZE1)))) (And.intro (And.intro (@ZGA) (And.intro (@ZCn) (@ZzH))) (And.intro (And.intro (@ZEX) (@ZCl)) (And.intro (@ZCm) (@Zpr)))))) (And.intro (And.intro (And.intro (And.intro (@Zpq) (And.intro (@ZEZ) (@ZEY))) (And.intro (@ZGz) (And.intro (@ZGj) (@ZDq)))) (And.intro (And.intro (@Ztm) (And.intro (@Zxz) (@ZuA))) (And.intro (And.intro (@ZlZ) (@ZpI)) (And.intro (@Zuz) (@ZlY))))) (And.intro (And.intro (And.intro (@ZpG) (And.intro (@Zt2) (@Zpc))) (And.intro (@ZDN) (And.intro (@Zzx) (@Zt1)))) (And.intro (And.intro (@Zt0) (And.intro (@ZDV) (@ZAh))) (And.intro (And.intro (@ZE2) (@ZCr)) (And.intro (@ZKV) (@ZKW)))))))) (And.intro (And.intro (And.intro (And.intro (And.intro (And.intro (@ZFX) (And.intro (@ZDm) (@Zxq))) (And.intro (@ZDn) (And.intro (@ZFW) (@ZxJ)))) (And.intro (And.intro (@ZDo) (And.intro (@Zv8) (@Zsb))) (And.intro (@ZCz) (And.intro (@ZF6) (@Zys))))) (And.intro (And.intro (And.intro (@ZEk) (And.intro (@Zyr) (@ZEl))) (And.intro (@ZF8) (And.intro (@ZEm) (@ZEj)))) (And.intro (And.intro (@ZBQ) (And.intro (@ZF5) (@Zyu))) (And.intro (And.intro (@Zyt) (@Zq)) (And.intro (@ZDV) (@ZAh)))))) (And.intro (And.intro (And.intro (And.intro (@ZFw) (And.intro (@ZC0) (@Ztc))) (And.intro (@ZCY) (And.intro (@ZBk) (@ZyD)))) (And.intro (And.intro (@ZKy) (And.intro (@ZEa) (@ZoJ))) (And.intro (And.intro (@ZF0) (@ZF2)) (And.intro (@Zj) (@ZF4))))) (And.intro (And.intro (And.intro (@Zyp) (And.intro (@ZEh) (@Zyo))) (And.intro (@ZEi) (And.intro (@ZBP) (@ZF3)))) (And.intro (And.intro (@Zyq) (And.intro (@ZvC) (@ZoK))) (And.intro (And.intro (@ZzE) (@ZCj)) (And.intro (@ZEc) (@ZFz))))))) (And.intro (And.intro (And.intro (And.intro (And.intro (@ZC9) (And.intro (@Zp) (@ZFZ))) (And.intro (@Zyk) (And.intro (@ZD9) (@ZEb)))) (And.intro (And.intro (@ZD8) (And.intro (@Zyh) (@ZBO))) (And.intro (@ZFY) (And.intro (@Zyl) (@Zyi))))) (And.intro (And.intro (And.intro (@Zi) (And.intro (@Zy) (@ZjM))) (And.intro (@ZEe) (And.intro (@ZEg) (@ZEd)))) (And.intro (And.intro (@Zym) (And.intro (@ZEf) (@Zto))) (And.intro (And.intro (@ZF1) (@Zyn)) (And.intro (@ZvB) (@ZrP)))))) (And.intro (And.intro (And.intro (And.intro (@gi1) (And.intro (@gi2) (@gi3))) (And.intro (@gi4) (And.intro (@gi5) (@gi6)))) (And.intro (And.intro (@gi7) (And.intro (@gi8) (@gi9))) (And.intro (And.intro (@ZMJ) (@ZCk)) (And.intro (@ZgT) (@ZCa))))) (And.intro (And.intro (And.intro (@Zy6) (And.intro (@Zr1) (@ZCc))) (And.intro (@Zy7) (And.intro (@ZvU) (@Zy9)))) (And.intro (And.intro (@Zza) (And.intro (@Zy8) (@ZCb))) (And.intro (And.intro (@ZCo) (@ZzI)) (And.intro (@ZC3) (@ZqK)))))))))
def Zd:=And.intro (And.intro (And.intro (And.intro (And.intro (And.intro (@List.set_cons_succ.{0}) (@List.set_cons_zero.{0})) (And.intro (@List.foldr_cons.{0,0}) (@List.foldr_nil.{0,0}))) (And.intro (And.intro (@List.append_eq.{0}) (@List.mem_cons.{0})) (And.intro (@List.flatMap_nil.{0,0}) (And.intro (@List.flatMap_cons.{0,0}) (@List.all_nil.{0}))))) (And.intro (And.intro (And.intro (@List.all_cons.{0}) (@List.map_nil.{0,0})) (And.intro (@List.map_cons.{0,0}) (@List.zip_cons_cons.{0,0}))) (And.intro (And.intro (@List.zip_nil_left.{0,0}) (@List.nil_append.{0})) (And.intro (@List.append_nil.{0}) (And.intro (@List.cons_append.{0}) (@List.drop_zero.{0})))))) (And.intro (And.intro (And.intro (And.intro (@List.drop_succ_cons.{0}) (@List.take_succ_cons.{0})) (And.intro (@List.take_zero.{0}) (@List.length_cons.{0}))) (And.intro (And.intro (@List.length_nil.{0}) (@List.getElem?_cons_succ.{0})) (And.intro (@List.getElem?_cons_zero.{0}) (And.intro (@Option.getD_some.{0}) (@Option.getD_none.{0}))))) (And.intro (And.intro (And.intro (@Option.map_some.{0,0}) (@Option.map_none.{0,0})) (And.intro (@Option.some.injEq.{0}) (@Option.isSome_none.{0}))) (And.intro (And.intro (@Option.isSome_some.{0}) (@Option.toList_some.{0})) (And.intro (@Option.toList_none.{0}) (And.intro (@List.not_mem_nil.{0}) (@false_implies))))))) (And.intro (And.intro (And.intro (And.intro (And.intro (@true_and) (@and_true)) (And.intro (@Nat.succ_ne_self) (@Bool.false_eq_true))) (And.intro (And.intro (@Bool.true_and) (@Bool.and_true)) (And.intro (@or_true) (And.intro (@true_or) (@and_self))))) (And.intro (And.intro (And.intro (@bne_self_eq_false.{0}) (@beq_self_eq_true.{0})) (And.intro (@Bool.or_false) (@Bool.false_or))) (And.intro (And.intro (@Bool.and_false) (@Bool.false_and)) (And.intro (@false_or) (And.intro (@or_false) (@beq_true)))))) (And.intro (And.intro (And.intro (And.intro (@beq_false) (@Name.mk.injEq)) (And.intro (@decide_true) (@decide_false))) (And.intro (And.intro (@Bool.or_true) (@Bool.true_or)) (And.intro (@Bool.or_self) (And.intro (@Bool.not_eq_true') (@Bool.not_true))))) (And.intro (And.intro (And.intro (@Bool.not_false) (@Bool.true_eq_false)) (And.intro (@Bool.cond_true_left) (And.intro (@Bool.cond_false_right) (@Nat.zero_add)))) (And.intro (And.intro (@List.range_succ) (@List.range_zero)) (And.intro (@Int.toNat_natCast) (And.intro (@List.mem_nil_iff.{0}) (@List.mem_append.{0})))))))
def Zn:=And.intro (And.intro (And.intro (And.intro (And.intro (And.intro (@fnA.eq_1) (@ZkY.eq_1)) (And.intro (@V.bufs.eq_1) (@V.bufs.eq_2))) (And.intro (And.intro (@V.bufs.eq_3) (@Zco.eq_1)) (And.intro (@Zco.eq_2) (@ZDc.eq_1)))) (And.intro (And.intro (And.intro (@ZDc.eq_2) (@ZDc.eq_3)) (And.intro (@ZKr.eq_1) (@ZKs.eq_1))) (And.intro (And.intro (@ZkU.eq_1) (@ZkU.eq_2)) (And.intro (@Zj2.eq_1) (And.intro (@ZAd.eq_1) (@Zpo.eq_1)))))) (And.intro (And.intro (And.intro (And.intro (@ZGM.eq_1) (@V.pure.eq_1)) (And.intro (@V.pure.eq_2) (@V.pure.eq_3))) (And.intro (And.intro (@C.pure.eq_1) (@C.pure.eq_2)) (And.intro (@C.pure.eq_3) (And.intro (@V.ptrs.eq_1) (@V.ptrs.eq_2))))) (And.intro (And.intro (And.intro (@C.ptrs.eq_1) (@C.ptrs.eq_2)) (And.intro (@C.ptrs.eq_3) (@C.ptrs.eq_4))) (And.intro (And.intro (@C.bufs.eq_1) (@C.bufs.eq_2)) (And.intro (@C.bufs.eq_3) (And.intro (@C.bufs.eq_4) (@C.bufs.eq_5))))))) (And.intro (And.intro (And.intro (And.intro (And.intro (@C.bufs.eq_6) (@ZgO.eq_1)) (And.intro (@ZdX.eq_1) (@ZdX.eq_2))) (And.intro (And.intro (@ZdX.eq_3) (@ZmA.eq_1)) (And.intro (@dstOk.eq_1) (@lk.eq_1)))) (And.intro (And.intro (And.intro (@lk.eq_2) (@V.cells.eq_1)) (And.intro (@V.cells.eq_2) (@V.cells.eq_3))) (And.intro (And.intro (@Op.eff.eq_1) (@ZhH.eq_1)) (And.intro (@Zir.eq_1) (And.intro (@cut.eq_1) (@lay.eq_1)))))) (And.intro (And.intro (And.intro (And.intro (@lay.eq_2) (@lay.eq_3)) (And.intro (@Zfp.eq_1) (@C.toDs.eq_1))) (And.intro (And.intro (@C.toDs.eq_2) (@C.toD.eq_1)) (And.intro (@C.toD.eq_2) (And.intro (@C.toD.eq_3) (@C.toD.eq_4))))) (And.intro (And.intro (And.intro (@V.toD.eq_1) (@V.toD.eq_2)) (And.intro (@V.toD.eq_3) (@V.toD.eq_4))) (And.intro (And.intro (@V.toD.eq_5) (@toDs.eq_1)) (And.intro (@toDs.eq_2) (And.intro (@Zbe.eq_1) (@Zbe.eq_2)))))))

end Go.Vam
end
section
set_option linter.unusedVariables false
set_option linter.unusedSimpArgs false
namespace Go.Vam

def ren4 (i j l o:Nat) (n m p q:Name) (x:Name):Name:=bif Nat.beq x.s i then n else bif Nat.beq x.s j then m else bif Nat.beq x.s l then p else q
theorem Spec.ren4 {P:Program} {f:FuncId} {args:List V} {b b':Zf} {k k':Zw} {r:V} {lv:Nat} (h:Spec P 0 f args b k r b' k') (i j l o:Nat) {n m p q:Name}
  (hs:Zbi [⟨0,i⟩,⟨0,j⟩,⟨0,l⟩,⟨0,o⟩] args b k r b' k') (hn:n.lv≤lv) (hm:m.lv≤lv) (hp:p.lv≤lv) (hq:q.lv≤lv) (hd:m≠n) (hd2:p≠n) (hd3:p≠m) (hd4:q≠n) (hd5:q≠m) (hd6:q≠p) (hij:(Nat.beq j i || Nat.beq l i || Nat.beq l j || Nat.beq o i || Nat.beq o j || Nat.beq o l)=false:=by rfl) :
  Spec P lv f (args.map (V.ren (ren4 i j l o n m p q))) (Zic (ren4 i j l o n m p q) b) (Zid (ren4 i j l o n m p q) k) (r.ren (ren4 i j l o n m p q)) (Zic (ren4 i j l o n m p q) b') (Zid (ren4 i j l o n m p q) k'):=by
 simp only [Bool.or_eq_false_iff] at hij
 have e1:Go.Vam.ren4 i j l o n m p q ⟨0,i⟩=n:=by simp [Go.Vam.ren4]
 have e2:Go.Vam.ren4 i j l o n m p q ⟨0,j⟩=m:=by simp [Go.Vam.ren4,hij]
 have e3:Go.Vam.ren4 i j l o n m p q ⟨0,l⟩=p:=by simp [Go.Vam.ren4,hij]
 have e4:Go.Vam.ren4 i j l o n m p q ⟨0,o⟩=q:=by simp [Go.Vam.ren4,hij]
 refine h.ren lv _ [⟨0,i⟩,⟨0,j⟩,⟨0,l⟩,⟨0,o⟩] hs (by simp) ?_ ?_
 ·simp only [List.map_cons,List.map_nil,e1,e2,e3,e4,List.nodup_cons,List.mem_cons,List.not_mem_nil,or_false,not_false_eq_true,List.nodup_nil,and_true,not_or]
  exact ⟨⟨hd.symm,hd2.symm,hd4.symm⟩,⟨hd3.symm,hd5.symm⟩,hd6.symm⟩
 ·intro x hx
  simp only [List.mem_cons,List.not_mem_nil,or_false] at hx
  rcases hx with rfl | rfl | rfl | rfl
  ·rw [e1]; exact hn
  ·rw [e2]; exact hm
  ·rw [e3]; exact hp
  ·rw [e4]; exact hq

structure Inp where
 c:Int
 l:List Int
 a:Int
 b:Int
 m:List Int
 f:Int
 t:Int
 n:Int
 i:Int
def Zxj:Inp:=⟨0,[],0,0,[],0,0,0,0⟩
def ZKN (x:Inp):D:=.agg [.int .i64 x.c,.list (LI .i32 x.l),.int .i64 x.a,.int .i64 x.b,.list (LI .i64 x.m),.int .i64 x.f,.int .i64 x.t,.int .i64 x.n,.int .i64 x.i]
def LX (l:List Inp):List D:=l.map ZKN
def ZKF:D→Inp
 | .agg [.int _ c,.list l,.int _ a,.int _ b,.list m,.int _ f,.int _ t,.int _ n,.int _ i]=>⟨c,Zc l,a,b,Zc m,f,t,n,i⟩
 | _=>Zxj
def Zkg (l:List D):List Inp:=l.map ZKF

section
variable {l m:List Inp} {n:Nat} {c a b f t k i:Int} {x y:List Int}
theorem ZC:Zkg (LX l)=l:=by
 simp only [Zkg,LX,List.map_map]
 rw [show (ZKF ∘ ZKN)=id from ?_,List.map_id]
 funext p
 simp [ZKF,ZKN,Zi]
theorem ZEn {q:List D} (e:q=LX (Zkg q)):∃ l,q=LX l:=⟨_,e⟩
theorem ZM:LX []=[]:=rfl
theorem Zs:(LX l).length=l.length:=List.length_map ..
theorem ZF:((LX l)[n]?).getD (D.agg [.int .i64 0,.list [],.int .i64 0,.int .i64 0,.list [],.int .i64 0,.int .i64 0,.int .i64 0,.int .i64 0])=.agg [.int .i64 (l[n]?.getD Zxj).c,.list (LI .i32 (l[n]?.getD Zxj).l),.int .i64 (l[n]?.getD Zxj).a,.int .i64 (l[n]?.getD Zxj).b,.list (LI .i64 (l[n]?.getD Zxj).m),.int .i64 (l[n]?.getD Zxj).f,.int .i64 (l[n]?.getD Zxj).t,.int .i64 (l[n]?.getD Zxj).n,.int .i64 (l[n]?.getD Zxj).i]:=by
 simp only [LX,List.getElem?_map]
 cases l[n]? <;> rfl
theorem Zr:LX l++LX m=LX (l++m):=(List.map_append ..).symm
theorem ZN:[D.agg [.int .i64 c,.list (LI .i32 x),.int .i64 a,.int .i64 b,.list (LI .i64 y),.int .i64 f,.int .i64 t,.int .i64 k,.int .i64 i]]=LX [⟨c,x,a,b,y,f,t,k,i⟩]:=rfl
theorem Zz:(∀ y∈LX l,y.cells.length=9)=True:=by
 refine eq_true fun y hy=>?_
 obtain ⟨x,_,rfl⟩:=List.mem_map.1 hy
 rfl
theorem ZL:(LX l=LX m)=(l=m):=by
 refine propext ⟨fun h=>?_,fun h=>by rw [h]⟩
 have:=congrArg Zkg h
 rwa [ZC,ZC] at this
theorem Zt:(LX l=[])=(l=[]):=by cases l <;> simp [LX]
theorem Zm:(LX l=LX (Zkg (LX l)))=True:=by rw [ZC]; exact eq_self _
theorem ZG:(LX l).take n=LX (l.take n):=(List.map_take ..).symm
theorem ZE:(LX l).drop n=LX (l.drop n):=(List.map_drop ..).symm
end

end Go.Vam
end
section
set_option linter.unusedVariables false
namespace Go.Vam

end Go.Vam
end
