/- A part of the proof. Conditions: none. -/
import Derived.Test.YtmpbpijnbmpbhaaGreatBDo
set_option linter.unusedVariables false
set_option linter.defProp false
set_option linter.unusedSimpArgs false
set_option maxRecDepth 40000
set_option maxHeartbeats 4000000
namespace Go.Vam
open Go.Proofs
open Nat renaming reduceShiftRight→Ya,reduceMod→Yb,reduceEqDiff→Yc,reduceLT→Yd,reduceLeDiff→Ye,reduceAdd→Yf,reduceMul→Yg
open Int renaming reduceLE→Yj,reduceLT→Yk,reduceNeg→Yl,reduceAdd→Ym,reduceToNat→Yn
theorem Zpm {m:List Int} (h:chV m=true):bnE (m.length:Nat) 1 1 ⟨29,4,16,0⟩ 37 13=0∧bnR (m.length:Nat) 1 1 ⟨29,4,16,0⟩ 37 13=⟨37,⟨29,4,16,0⟩,⟨(m.length:Nat),⟨1,1,0,0,0⟩,List.replicate ((m.length:Int)*13).toNat 0⟩,0,0⟩:=by
 have hl:=ZhC h
 obtain ⟨h1,h2⟩:=ZDF (c:=(m.length:Nat)) (n:=1) (d:=1) (by omega) (by decide)
 have hE:bnE (m.length:Nat) 1 1 ⟨29,4,16,0⟩ 37 13=0:=by
  unfold bnE
  rw [if_neg (by decide),h1,if_neg (by decide)]
 exact ⟨hE,by unfold bnR; rw [if_pos hE]⟩
theorem Ztj (di:Int) (s:ByteArray) (dd dm dl dt dj:Int) (bx:List D) (ck cr:Int) (mp:List Int) (cz:Int) (sg:List D) (ra pe:Int) (hs:ZhD s dd dm dl dt dj) (hv:ZgR bx ck cr mp cz ra pe sg):Spec Tryz.prog 0 44 [.agg [.d (.int .u64 di),.d (.str s),.d (.int .i64 dd),.d (.int .i64 dm),.d (.int .i64 dl),.d (.int .i64 dt),.d (.int .i64 dj),.d (.list bx)],.agg [.d (.int .i64 ck),.d (.int .i64 cr),.d (.list (LI .i64 mp)),.d (.int .i64 cz)],.agg [.d (.list sg)],vI .i64 ra,vI .i64 pe] [] [] (.tup [.agg [.int .u64 di,.str s,.int .i64 dd,.int .i64 dm,.int .i64 dl,.int .i64 dt,.int .i64 dj,.list bx,.int .i64 ck,.int .i64 cr,.list (LI .i64 mp),.int .i64 cz,.int .i64 ra,.int .i64 pe,.list sg,.bool false,.int .i64 0,.int .i64 ((bnR (mp.length:Nat) 1 1 ⟨29,4,16,0⟩ 37 13)).q,.int .i64 ((bnR (mp.length:Nat) 1 1 ⟨29,4,16,0⟩ 37 13)).c.t,.int .i64 ((bnR (mp.length:Nat) 1 1 ⟨29,4,16,0⟩ 37 13)).c.d,.int .i64 ((bnR (mp.length:Nat) 1 1 ⟨29,4,16,0⟩ 37 13)).c.g,.int .i64 ((bnR (mp.length:Nat) 1 1 ⟨29,4,16,0⟩ 37 13)).c.m,.int .i64 ((bnR (mp.length:Nat) 1 1 ⟨29,4,16,0⟩ 37 13)).r.c,.int .i64 ((bnR (mp.length:Nat) 1 1 ⟨29,4,16,0⟩ 37 13)).r.p.n,.int .i64 ((bnR (mp.length:Nat) 1 1 ⟨29,4,16,0⟩ 37 13)).r.p.d,.int .i64 ((bnR (mp.length:Nat) 1 1 ⟨29,4,16,0⟩ 37 13)).r.p.a,.int .i64 ((bnR (mp.length:Nat) 1 1 ⟨29,4,16,0⟩ 37 13)).r.p.p,.int .i64 ((bnR (mp.length:Nat) 1 1 ⟨29,4,16,0⟩ 37 13)).r.p.f,.list (LI .i32 ((bnR (mp.length:Nat) 1 1 ⟨29,4,16,0⟩ 37 13)).r.l),.int .i64 ((bnR (mp.length:Nat) 1 1 ⟨29,4,16,0⟩ 37 13)).lo,.int .i64 ((bnR (mp.length:Nat) 1 1 ⟨29,4,16,0⟩ 37 13)).mi],.int .i64 0]) [] []:=by
 refine spec_of_E (X:=⟨Tryz.prog,tt,Tryz.f44.ntmps,1,fun _=>0,(tab [(109,Zdp),(110,ZbY),(111,ZlN),(112,Zhi),(113,ZlM),(114,Zo5),(115,ZdA),(117,Zo6),(116,ZiV),(119,ZdZ),(120,ZfL),(118,ZnQ),(59,ZfE)])⟩) (M:=[(2,[0,0,0,0,0,40564838550121066404260388732159,0,0,0,0,0,40564838550121066404023091789055,0]),(7,[0,0,0,0,0,40564838550125660075333772049663,0,0,0,0,0,40564838550124705312212769504511,0,0]),(11,[0,0,0,0,0,40564848171942775250615977049343,0,0,0,0,0,40564847012601803706118077086975,0,0,0,0]),(14,[0,0,0,0,0,60845545986218719429783119133951,0,0,0,0,0,60213577596163532799447116217599,0,0,0,0,0,43100139750577525206707260554495,0])]) (m:=40564838550121066403713854143743) rfl rfl ⟨Z7,ZI (Za ZhS (Za ZdP (Za Zpa (Za Zly (Za Zo8 (Za Zzf (Za Zh4 (Za Zzh (Za ZvQ (Za ZfO (Za Zht (Za Zys (Za Zhg Zb))))))))))))) _ rfl rfl⟩ Zs Tryz.func44 rfl (by decide) (by show (5:Nat)≤_; exact Nat.le_of_ble_eq_true rfl) ⟨by simp [V.has,C.has,Zz],by simp [C.has],by simp⟩ ?_
 have hE:=(Zpm hv.2.1).1
 have hw:IntKind.i64.wrap 16=16:=by decide
 have hif:(if 0 < IntKind.i64.wrap (29 - 1*16) then IntKind.i64.wrap (29 - 1*16) else 0)=13:=by decide
 have h64:decide (IntKind.i64.wrap (1*64) < 1)=false:=by decide
 simp (maxSteps:=1000000) only [↓Zn,Ze,Zd,Zm,gSt,gS0,Ya,Yb,↓reduceIte,reduceCtorEq,Yc,Yd,Ye,Yf,Yg,Yj,Yk,Yl,Ym,Yn,ZhR,ZdO,Zo9,Zlx,Zo7,Zze,Zh3,Zzg,ZvP,ZfN,Zhs,Zyr,Zhf,gE1,gE2,gE3,hE,hw,hif,h64,Tryz.ntmps44,Tryz.results44,gTT]
 have hd:=hs
 obtain ⟨_,_,_,_,h5,_⟩:=hd
 have hbx:Zke bx:=⟨mp,hv.1,hv.2.1⟩
 have hlen:=ZhC hv.2.1
 refine ⟨⟨hs,hbx⟩,hv.2.2.2.2.2.2.2,⟨hs,hv⟩,⟨hv.1,hv.2.1,hv.2.2.1,hv.2.2.2.1,hv.2.2.2.2.1⟩,⟨hs,hv⟩,⟨hs,hv⟩,by decide +kernel,by kernel_rfl,⟨hs,hv⟩,by decide,⟨h5,by decide⟩,by kernel_rfl,⟨hs,hv⟩,hv,?_⟩
 rw [(Zpm hv.2.1).2]
 show (List.replicate _ 0).length≤_
 rw [List.length_replicate]
 omega
def Zgh:List V→Zf→Zr→Name→Option Ent
 | [.agg [.d (.int .u64 di),.d (.str s),.d (.int .i64 dd),.d (.int .i64 dm),.d (.int .i64 dl),.d (.int .i64 dt),.d (.int .i64 dj),.d (.list bx)],.agg [.d (.int .i64 ck),.d (.int .i64 cr),.d (.list q_mp),.d (.int .i64 cz)],.agg [.d (.list sg)],.c (.d (.int .i64 ra)),.c (.d (.int .i64 pe))],[],[],_=>some ⟨ZhD s dd dm dl dt dj∧ZgR bx ck cr (Zc q_mp) cz ra pe sg∧q_mp=LI .i64 (Zc q_mp),.tup [.agg [.int .u64 di,.str s,.int .i64 dd,.int .i64 dm,.int .i64 dl,.int .i64 dt,.int .i64 dj,.list bx,.int .i64 ck,.int .i64 cr,.list (LI .i64 (Zc q_mp)),.int .i64 cz,.int .i64 ra,.int .i64 pe,.list sg,.bool false,.int .i64 0,.int .i64 ((bnR ((Zc q_mp).length:Nat) 1 1 ⟨29,4,16,0⟩ 37 13)).q,.int .i64 ((bnR ((Zc q_mp).length:Nat) 1 1 ⟨29,4,16,0⟩ 37 13)).c.t,.int .i64 ((bnR ((Zc q_mp).length:Nat) 1 1 ⟨29,4,16,0⟩ 37 13)).c.d,.int .i64 ((bnR ((Zc q_mp).length:Nat) 1 1 ⟨29,4,16,0⟩ 37 13)).c.g,.int .i64 ((bnR ((Zc q_mp).length:Nat) 1 1 ⟨29,4,16,0⟩ 37 13)).c.m,.int .i64 ((bnR ((Zc q_mp).length:Nat) 1 1 ⟨29,4,16,0⟩ 37 13)).r.c,.int .i64 ((bnR ((Zc q_mp).length:Nat) 1 1 ⟨29,4,16,0⟩ 37 13)).r.p.n,.int .i64 ((bnR ((Zc q_mp).length:Nat) 1 1 ⟨29,4,16,0⟩ 37 13)).r.p.d,.int .i64 ((bnR ((Zc q_mp).length:Nat) 1 1 ⟨29,4,16,0⟩ 37 13)).r.p.a,.int .i64 ((bnR ((Zc q_mp).length:Nat) 1 1 ⟨29,4,16,0⟩ 37 13)).r.p.p,.int .i64 ((bnR ((Zc q_mp).length:Nat) 1 1 ⟨29,4,16,0⟩ 37 13)).r.p.f,.list (LI .i32 ((bnR ((Zc q_mp).length:Nat) 1 1 ⟨29,4,16,0⟩ 37 13)).r.l),.int .i64 ((bnR ((Zc q_mp).length:Nat) 1 1 ⟨29,4,16,0⟩ 37 13)).lo,.int .i64 ((bnR ((Zc q_mp).length:Nat) 1 1 ⟨29,4,16,0⟩ 37 13)).mi],.int .i64 0],[],[]⟩
 | _,_,_,_=>none
def ZrM:=And.intro (@Zgh.eq_1) (@Zgh.eq_1)
theorem ZrN:Snd Tryz.prog 44 Zgh:=by
 intro vs b k n e h hn hp
 unfold Zgh at h
 split at h
 ·cases h; obtain ⟨hp0,hp1,hq0⟩:=hp; obtain ⟨_,rfl⟩:=Zq hq0; simp only [Zi,Zo,Zj,Zp] at hp0 hp1 ⊢; exact (Ztj _ _ _ _ _ _ _ _ _ _ _ _ _ _ _ hp0 hp1).lift rfl _
 ·cases h
end Go.Vam
