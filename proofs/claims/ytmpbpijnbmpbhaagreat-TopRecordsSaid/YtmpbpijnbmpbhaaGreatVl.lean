/- A part of the proof. Conditions: none. -/
import Derived.Test.YtmpbpijnbmpbhaaGreatVk
section
set_option linter.unusedVariables false
set_option linter.unusedSimpArgs false
namespace Go.Vam

theorem ELoop_sub {X : Ctx} {M : List (Nat × List Nat)} {m : Nat} {c : Code} {Q : Exit → St → Prop} {st st' : St} (h : Sub X st' st) (hl : ELoop X M m c Q st') : ELoop X M m c Q st := by
  obtain ⟨G, T, J, μ, ⟨g, hg, hs⟩, hr⟩ := hl
  exact ⟨G, T, J, μ, ⟨g, hg, hs.trans h⟩, hr⟩

theorem ELoop_nilB {X : Ctx} {M : List (Nat × List Nat)} {m : Nat} {c : Code} {Q : Exit → St → Prop} {t : List (Nat × V)} {b : Boxes} {k : Toks} (a : Name) (j sz : Nat) (n : Name) {cs : List C} (hm : lk b a = some cs) (hj : cs[j]? = some .nil) (hf : FreeB ⟨t, b, k⟩ n) (hn : X.L ≤ n.lv)
    (hl : evS ⟨t, (a, cs.set j (.own n [])) :: b, (n, ⟨false, sz, []⟩) :: k⟩ (ELoop X M m c Q)) : ELoop X M m c Q ⟨t, b, k⟩ :=
  ELoop_sub (Sub.nilB sz hm hj hf hn) hl
theorem ELoop_nilT {X : Ctx} {M : List (Nat × List Nat)} {m : Nat} {c : Code} {Q : Exit → St → Prop} {t : List (Nat × V)} {b : Boxes} {k : Toks} (a sz : Nat) (n : Name) (hm : lk t a = some (.c .nil)) (hf : FreeB ⟨t, b, k⟩ n) (hn : X.L ≤ n.lv)
    (hl : evS ⟨(a, .c (.own n [])) :: t, b, (n, ⟨false, sz, []⟩) :: k⟩ (ELoop X M m c Q)) : ELoop X M m c Q ⟨t, b, k⟩ :=
  ELoop_sub (Sub.nilT sz hm hf hn) hl

theorem ints_cons {k : IntKind} {a : Int} {l : List D} : ints (D.int k a :: l) = a :: ints l := Eq.trans rfl rfl
theorem ints_nil : ints [] = [] := Eq.trans rfl rfl
theorem LI_cons {k : IntKind} {a : Int} {l : List Int} : LI k (a :: l) = D.int k a :: LI k l := Eq.trans rfl rfl

end Go.Vam
end
section
set_option linter.unusedVariables false
set_option linter.unusedSimpArgs false
namespace Go.Vam

def blkD (p : Int × List Int) : D := .agg [.int .i64 p.1, .list (LI .i32 p.2)]
def LK (l : List (Int × List Int)) : List D := l.map blkD
def dBlk : D → Int × List Int
  | .agg [.int _ n, .list l] => (n, ints l)
  | _ => (0, [])
def blks (l : List D) : List (Int × List Int) := l.map dBlk

section
variable {l m : List (Int × List Int)} {n : Nat} {c : Int} {x : List Int}
theorem blks_LK : blks (LK l) = l := by
  simp only [blks, LK, List.map_map]
  rw [show (dBlk ∘ blkD) = id from ?_, List.map_id]
  funext p
  simp [dBlk, blkD, ints_LI]
theorem LK_nil : LK [] = [] := rfl
theorem LK_length : (LK l).length = l.length := List.length_map ..
theorem LK_getD : ((LK l)[n]?).getD (D.agg [.int .i64 0, .list []]) = .agg [.int .i64 (l[n]?.getD (0, [])).1, .list (LI .i32 (l[n]?.getD (0, [])).2)] := by
  simp only [LK, List.getElem?_map]
  cases l[n]? <;> rfl
theorem LK_append : LK l ++ LK m = LK (l ++ m) := (List.map_append ..).symm
theorem LK_snoc : LK l ++ [D.agg [.int .i64 c, .list (LI .i32 x)]] = LK (l ++ [(c, x)]) := by simp [LK, blkD]
theorem LK_cells : (∀ y ∈ LK l, y.cells.length = 2) = True := by
  refine eq_true fun y hy => ?_
  obtain ⟨x, _, rfl⟩ := List.mem_map.1 hy
  rfl
theorem LK_inj : (LK l = LK m) = (l = m) := by
  refine propext ⟨fun h => ?_, fun h => by rw [h]⟩
  have := congrArg blks h
  rwa [blks_LK, blks_LK] at this
theorem LK_nil_eq : (LK l = []) = (l = []) := by cases l <;> simp [LK]
theorem LK_blks_LK : (LK l = LK (blks (LK l))) = True := by rw [blks_LK]; exact eq_self _
end

end Go.Vam
end
section
set_option linter.unusedVariables false
set_option linter.unusedSimpArgs false
namespace Go.Vam

def LL (k : IntKind) (l : List (List Int)) : List D := l.map fun x => D.list (LI k x)
def lls (q : List D) : List (List Int) := q.map fun d => ints d.toL

section
variable {k : IntKind} {l m : List (List Int)} {n : Nat} {x : List Int}
theorem lls_LL : lls (LL k l) = l := by
  simp only [lls, LL, List.map_map]
  rw [show ((fun d : D => ints d.toL) ∘ fun x => D.list (LI k x)) = id from ?_, List.map_id]
  funext p
  simp [D.toL, ints_LI]
theorem LL_ex {q : List D} (e : q = LL k (lls q)) : ∃ l, q = LL k l := ⟨_, e⟩
theorem LL_nil : LL k [] = [] := rfl
theorem LL_length : (LL k l).length = l.length := List.length_map ..
theorem LL_getD : ((LL k l)[n]?).getD (D.list []) = .list (LI k (l[n]?.getD [])) := by
  simp only [LL, List.getElem?_map]
  cases l[n]? <;> rfl
theorem LL_append : LL k l ++ LL k m = LL k (l ++ m) := (List.map_append ..).symm
theorem LL_snoc : LL k l ++ [D.list (LI k x)] = LL k (l ++ [x]) := by simp [LL]
theorem LL_set : (LL k l).set n (D.list (LI k x)) = LL k (l.set n x) := (List.map_set ..).symm
theorem LL_take : (LL k l).take n = LL k (l.take n) := (List.map_take ..).symm
theorem LL_drop : (LL k l).drop n = LL k (l.drop n) := (List.map_drop ..).symm
theorem LL_cells : (∀ y ∈ LL k l, y.cells.length = 1) = True := by
  refine eq_true fun y hy => ?_
  obtain ⟨x, _, rfl⟩ := List.mem_map.1 hy
  rfl
theorem LL_inj : (LL k l = LL k m) = (l = m) := by
  refine propext ⟨fun h => ?_, fun h => by rw [h]⟩
  have := congrArg lls h
  rwa [lls_LL, lls_LL] at this
theorem LL_nil_eq : (LL k l = []) = (l = []) := by cases l <;> simp [LL]
theorem LL_lls_LL : (LL k l = LL k (lls (LL k l))) = True := by rw [lls_LL]; exact eq_self _
end

end Go.Vam
end
section
set_option linter.defProp false
set_option maxRecDepth 4000
namespace Go.Vam

def gPre := And.intro (And.intro (And.intro (And.intro (And.intro (And.intro (And.intro (@oel_some) (And.intro (@oel_none) (@wp_ret))) (And.intro (@wp_fail) (And.intro (@wp_getT) (@wp_getB)))) (And.intro (And.intro (@wp_getK) (And.intro (@wp_need) (@wp_exD))) (And.intro (@wp_case) (And.intro (@wp_ite) (@wp_unG_g))))) (And.intro (And.intro (And.intro (@wp_unG_c) (And.intro (@wp_unG_agg) (@wp_unG_tup))) (And.intro (@wp_unG_ts) (And.intro (@wp_rawO_tmp) (@wp_rawO_const)))) (And.intro (And.intro (@wp_rawO_func) (And.intro (@wp_opnd) (@wp_opnds_nil))) (And.intro (And.intro (@wp_opnds_cons) (@wp_asI)) (And.intro (@wp_asB) (@wp_asL_nil)))))) (And.intro (And.intro (And.intro (And.intro (@wp_asL_own) (And.intro (@wp_asL_list) (@wp_orFail))) (And.intro (@wp_gNeed) (And.intro (@wp_noGd_none) (@wp_optI_none)))) (And.intro (And.intro (@wp_optI_some) (And.intro (@wp_getBs_nil) (@wp_getBs_cons))) (And.intro (And.intro (@wp_getKs_nil) (@wp_getKs_cons)) (And.intro (@wp_bindR) (@thenS_normal))))) (And.intro (And.intro (And.intro (@thenS_ret) (And.intro (@thenS_exit) (@inBlockS_normal))) (And.intro (@inBlockS_ret) (And.intro (@inBlockS_exit) (@loadV_lp)))) (And.intro (And.intro (@loadV_agg) (And.intro (@loadV_int) (@loadV_bool))) (And.intro (And.intro (@loadV_list) (@loadV_rp)) (And.intro (@loadV_ap) (@storeV_lp))))))) (And.intro (And.intro (And.intro (And.intro (And.intro (@storeV_ap) (And.intro (@scR_int) (@scR_bool))) (And.intro (@scR_list) (And.intro (@nilV_lp) (@nilV_pd)))) (And.intro (And.intro (@nilV_ap) (And.intro (@nilV_rp) (@nilV_fn))) (And.intro (And.intro (@faddrV_lp) (@faddrV_pd)) (And.intro (@faddrV_ap) (@fieldV_agg))))) (And.intro (And.intro (And.intro (@idxV_arr) (And.intro (@idxV_bs) (@idxV_vw))) (And.intro (@idxV_rws) (And.intro (@idxV_own) (@idxV_list)))) (And.intro (And.intro (@extV_ts) (And.intro (@extV_tup) (@bi_len_str))) (And.intro (And.intro (@bi_len_arr) (@bi_len_bs)) (And.intro (@bi_len_vw) (@bi_len_rws)))))) (And.intro (And.intro (And.intro (And.intro (@bi_len_own) (And.intro (@bi_len_nil) (@bi_len_list))) (And.intro (@bi_min) (And.intro (@bi_max) (@bi_max3)))) (And.intro (And.intro (@bi_appendZ) (And.intro (@bi_copy) (@bi_copy_arr))) (And.intro (And.intro (@bi_append) (@gdst_zero)) (And.intro (@gdst_succ) (@opRun_none))))) (And.intro (And.intro (And.intro (@opRun_some) (And.intro (@opSem_move) (@opSem_assign))) (And.intro (@opSem_pick) (And.intro (@opSem_alloc) (@opSem_box)))) (And.intro (And.intro (@opSem_build) (And.intro (@buildV_none) (@buildV_some))) (And.intro (And.intro (@opSem_buildSlice) (@opSem_load)) (And.intro (@opSem_store) (@opSem_nilCheck)))))))) (And.intro (And.intro (And.intro (And.intro (And.intro (And.intro (@opSem_binOp) (And.intro (@opSem_neg) (@opSem_not))) (And.intro (@opSem_convert) (And.intro (@convV_int) (@convV_list)))) (And.intro (And.intro (@convV_own) (And.intro (@convV_nil) (@opSem_makeSlice))) (And.intro (@opSem_slice) (And.intro (@sliceL_eq) (@sliceV_own))))) (And.intro (And.intro (And.intro (@sliceV_list) (And.intro (@sliceV_nil) (@sliceV_arr))) (And.intro (@opSem_fieldAddr) (And.intro (@idxS_str) (@opSem_index)))) (And.intro (And.intro (@opSem_field) (And.intro (@opSem_indexAddr) (@idxA_none))) (And.intro (And.intro (@idxA_some) (@opSem_extract)) (And.intro (@opSem_makeFunc) (@opSem_builtin)))))) (And.intro (And.intro (And.intro (And.intro (@opSem_call) (And.intro (@callV_fn) (@binV_add))) (And.intro (@binV_sub) (And.intro (@binV_mul) (@binV_quo)))) (And.intro (And.intro (@binV_rem) (And.intro (@binV_and) (@binV_or))) (And.intro (And.intro (@binV_xor) (@binV_andNot)) (And.intro (@binV_eql) (@binV_neq))))) (And.intro (And.intro (And.intro (@binV_lss) (And.intro (@binV_leq) (@binV_gtr))) (And.intro (@binV_geq) (And.intro (@binV_shl) (@binV_shr)))) (And.intro (And.intro (@binV_beq) (And.intro (@binV_bne) (@binV_seq))) (And.intro (And.intro (@binV_sad) (@binV_sne)) (And.intro (@binV_aeq) (@binV_ane))))))) (And.intro (And.intro (And.intro (And.intro (And.intro (@allD_nil) (And.intro (@allD_cons) (@FreeB_mk))) (And.intro (@frT_nil) (And.intro (@frT_cons) (@frB_nil)))) (And.intro (And.intro (@frB_cons) (And.intro (@frK_nil) (@frK_cons))) (And.intro (And.intro (@frCs_nil) (@frCs_cons)) (And.intro (@frV_c) (@frV_agg))))) (And.intro (And.intro (And.intro (@frV_tup) (And.intro (@frV_ts) (@frV_g))) (And.intro (@frC_d) (And.intro (@frC_nil) (@frC_pd)))) (And.intro (And.intro (@frC_own) (And.intro (@frC_arr) (@frC_lp))) (And.intro (And.intro (@frC_ap) (@frC_bs)) (And.intro (@frC_vw) (@frC_rws)))))) (And.intro (And.intro (And.intro (And.intro (@frC_rp) (And.intro (@frC_fn) (@finQ_normal))) (And.intro (@finQ_ret) (And.intro (@E_skip) (@E_region)))) (And.intro (And.intro (@E_drawn) (And.intro (@runP_nil) (@runP_cons0))) (And.intro (And.intro (@runP_cons) (@runN_nil)) (And.intro (@runN_cons0) (@runN_cons))))) (And.intro (And.intro (And.intro (@frzs_nil) (And.intro (@frzs_cons) (@frz_mk))) (And.intro (@frzT_bs) (And.intro (@frzT_arr) (@frzB_arr)))) (And.intro (And.intro (@E_seq) (And.intro (@E_cond) (@E_block))) (And.intro (And.intro (@E_exit) (@E_ret)) (And.intro (@E_label) (@E_loop))))))))
def gPost := And.intro (And.intro (And.intro (And.intro (And.intro (And.intro (And.intro (And.intro (@oel_some) (And.intro (@oel_none) (@wp_ret))) (And.intro (@wp_fail) (And.intro (@wp_getT) (@wp_getB)))) (And.intro (And.intro (@wp_getK) (And.intro (@wp_need) (@wp_exD))) (And.intro (@wp_case) (And.intro (@wp_ite) (@wp_unG_g))))) (And.intro (And.intro (And.intro (@wp_unG_c) (And.intro (@wp_unG_agg) (@wp_unG_tup))) (And.intro (@wp_unG_ts) (And.intro (@wp_rawO_tmp) (@wp_rawO_const)))) (And.intro (And.intro (@wp_rawO_func) (And.intro (@wp_opnd) (@wp_opnds_nil))) (And.intro (And.intro (@wp_opnds_cons) (@wp_asI)) (And.intro (@wp_asB) (@wp_asL_nil)))))) (And.intro (And.intro (And.intro (And.intro (@wp_asL_own) (And.intro (@wp_asL_list) (@wp_orFail))) (And.intro (@wp_gNeed) (And.intro (@wp_noGd_none) (@wp_optI_none)))) (And.intro (And.intro (@wp_optI_some) (And.intro (@wp_getBs_nil) (@wp_getBs_cons))) (And.intro (@wp_getKs_nil) (And.intro (@wp_getKs_cons) (@wp_bindR))))) (And.intro (And.intro (And.intro (@newsOk_nil) (And.intro (@newsOk_one) (@thenS_normal))) (And.intro (@thenS_ret) (And.intro (@thenS_exit) (@inBlockS_normal)))) (And.intro (And.intro (@inBlockS_ret) (And.intro (@inBlockS_exit) (@rcvV_lp))) (And.intro (And.intro (@rcv_nil) (@rcv_two)) (And.intro (@rcv_one) (@loadV_lp))))))) (And.intro (And.intro (And.intro (And.intro (And.intro (@loadV_agg) (And.intro (@loadV_int) (@loadV_bool))) (And.intro (@loadV_list) (And.intro (@loadV_rp) (@loadV_ap)))) (And.intro (And.intro (@storeV_lp) (And.intro (@storeV_ap) (@scR_int))) (And.intro (@scR_bool) (And.intro (@scR_list) (@nilV_lp))))) (And.intro (And.intro (And.intro (@nilV_pd) (And.intro (@nilV_ap) (@nilV_rp))) (And.intro (@nilV_fn) (And.intro (@faddrV_lp) (@faddrV_pd)))) (And.intro (And.intro (@faddrV_ap) (And.intro (@fieldV_agg) (@like_int))) (And.intro (And.intro (@like_bool) (@like_list)) (And.intro (@like_agg) (@like1_int)))))) (And.intro (And.intro (And.intro (And.intro (@like1_bool) (And.intro (@like1_list) (@likes_nil))) (And.intro (@likes_cons) (And.intro (@toI_int) (@toB_bool)))) (And.intro (And.intro (@toL_list) (And.intro (@cellsEq_nil) (@cellsEq_int))) (And.intro (And.intro (@cellsEq_bool) (@cellKinds_nil)) (And.intro (@cellKinds_int) (@cellKinds_bool))))) (And.intro (And.intro (And.intro (@idxV_arr) (And.intro (@idxV_bs) (@idxV_vw))) (And.intro (@idxV_rws) (And.intro (@idxV_own) (@idxV_list)))) (And.intro (And.intro (@extV_ts) (And.intro (@tsGet_c0) (@tsGet_cs))) (And.intro (And.intro (@tsGet_a0) (@tsGet_as)) (And.intro (@extV_tup) (@bi_len_str)))))))) (And.intro (And.intro (And.intro (And.intro (And.intro (And.intro (@bi_len_arr) (And.intro (@bi_len_bs) (@bi_len_vw))) (And.intro (@bi_len_rws) (And.intro (@bi_len_own) (@bi_len_nil)))) (And.intro (And.intro (@bi_len_list) (And.intro (@bi_min) (@bi_max))) (And.intro (@bi_max3) (And.intro (@bi_appendZ) (@bi_copy))))) (And.intro (And.intro (And.intro (@bi_copy_arr) (And.intro (@bi_append) (@gdst_zero))) (And.intro (@gdst_succ) (And.intro (@opRun_none) (@opRun_some)))) (And.intro (And.intro (@skipV_some) (And.intro (@skipV_none) (@opSem_move))) (And.intro (And.intro (@opSem_assign) (@opSem_pick)) (And.intro (@opSem_alloc) (@opSem_box)))))) (And.intro (And.intro (And.intro (And.intro (@opSem_build) (And.intro (@buildV_none) (@buildV_some))) (And.intro (@opSem_buildSlice) (And.intro (@opSem_load) (@opSem_store)))) (And.intro (And.intro (@opSem_nilCheck) (And.intro (@opSem_binOp) (@opSem_neg))) (And.intro (And.intro (@opSem_not) (@opSem_convert)) (And.intro (@convV_int) (@convV_list))))) (And.intro (And.intro (And.intro (@convV_own) (And.intro (@convV_nil) (@opSem_makeSlice))) (And.intro (@opSem_slice) (And.intro (@sliceL_eq) (@sliceV_own)))) (And.intro (And.intro (@sliceV_list) (And.intro (@sliceV_nil) (@sliceV_arr))) (And.intro (And.intro (@opSem_fieldAddr) (@idxS_str)) (And.intro (@opSem_index) (@opSem_field))))))) (And.intro (And.intro (And.intro (And.intro (And.intro (@opSem_indexAddr) (And.intro (@idxA_none) (@idxA_some))) (And.intro (@opSem_extract) (And.intro (@opSem_makeFunc) (@opSem_builtin)))) (And.intro (And.intro (@opSem_call) (And.intro (@callV_fn) (@apply_some))) (And.intro (@apply_g) (And.intro (@apply_none) (@boolG_b))))) (And.intro (And.intro (And.intro (@boolG_g) (And.intro (@condS_tmp) (@condS_const))) (And.intro (@obind_some) (And.intro (@constV_int) (@constV_bool)))) (And.intro (And.intro (@constV_nil) (And.intro (@constV_str) (@constV_nilF))) (And.intro (And.intro (@constV_nilP) (@argT_nil)) (And.intro (@argT_cons) (@binV_add)))))) (And.intro (And.intro (And.intro (And.intro (@binV_sub) (And.intro (@binV_mul) (@binV_quo))) (And.intro (@binV_rem) (And.intro (@binV_and) (@binV_or)))) (And.intro (And.intro (@binV_xor) (And.intro (@binV_andNot) (@binV_eql))) (And.intro (And.intro (@binV_neq) (@binV_lss)) (And.intro (@binV_leq) (@binV_gtr))))) (And.intro (And.intro (And.intro (@binV_geq) (And.intro (@binV_shl) (@binV_shr))) (And.intro (@binV_beq) (And.intro (@binV_bne) (@binV_seq)))) (And.intro (And.intro (@binV_sad) (And.intro (@binV_sne) (@binV_aeq))) (And.intro (And.intro (@binV_ane) (@cells_int)) (And.intro (@cells_bool) (@cells_list))))))))) (And.intro (And.intro (And.intro (And.intro (And.intro (And.intro (And.intro (@cells_str) (And.intro (@toV_str) (@okV_str))) (And.intro (@cells_agg) (And.intro (@toV_int) (@toV_bool)))) (And.intro (And.intro (@toV_list) (And.intro (@toV_agg) (@okV_int))) (And.intro (@okV_bool) (And.intro (@okV_list) (@okV_agg))))) (And.intro (And.intro (And.intro (@allD_nil) (And.intro (@allD_cons) (@exD_some))) (And.intro (@FreeB_mk) (And.intro (@allN_nil) (@allN_one)))) (And.intro (And.intro (@frT_nil) (And.intro (@frT_cons) (@frB_nil))) (And.intro (And.intro (@frB_cons) (@frK_nil)) (And.intro (@frK_cons) (@frCs_nil)))))) (And.intro (And.intro (And.intro (And.intro (@frCs_cons) (And.intro (@frV_c) (@frV_agg))) (And.intro (@frV_tup) (And.intro (@frV_ts) (@frV_g)))) (And.intro (And.intro (@frC_d) (And.intro (@frC_nil) (@frC_pd))) (And.intro (@frC_own) (And.intro (@frC_arr) (@frC_lp))))) (And.intro (And.intro (And.intro (@frC_ap) (And.intro (@frC_bs) (@frC_vw))) (And.intro (@frC_rws) (And.intro (@frC_rp) (@frC_fn)))) (And.intro (And.intro (@finQ_normal) (And.intro (@finQ_ret) (@retC_lp))) (And.intro (And.intro (@resV_tmp) (@resV_cell)) (And.intro (@resVs_nil) (@resVs_cons))))))) (And.intro (And.intro (And.intro (And.intro (And.intro (@retV_cell) (And.intro (@retV_two) (@retV_ts))) (And.intro (@tsS_nil) (And.intro (@tsS_c) (@tsS_agg)))) (And.intro (And.intro (@tsC_nil) (And.intro (@tsC_c) (@tsC_agg))) (And.intro (@retV_none) (And.intro (@retV_tmp) (@subB_nil))))) (And.intro (And.intro (And.intro (@subK_nil) (And.intro (@subB_cons) (@subK_cons))) (And.intro (@leV_c) (And.intro (@leV_agg) (@leV_tup)))) (And.intro (And.intro (@leV_ts) (And.intro (@leCs_nil) (@leCs_cons))) (And.intro (And.intro (@leC_int) (@leC_bool)) (And.intro (@leC_list) (@leC_list_own)))))) (And.intro (And.intro (And.intro (And.intro (@leC_list_nil) (And.intro (@leC_own) (@leC_nil))) (And.intro (@leC_lp) (And.intro (@evS_mk) (@E_skip)))) (And.intro (And.intro (@E_region) (And.intro (@E_drawn) (@runP_nil))) (And.intro (And.intro (@runP_cons0) (@runP_cons)) (And.intro (@runN_nil) (@runN_cons0))))) (And.intro (And.intro (And.intro (@runN_cons) (And.intro (@frzs_nil) (@frzs_cons))) (And.intro (@frz_mk) (And.intro (@frzT_bs) (@frzT_arr)))) (And.intro (And.intro (@frzB_arr) (And.intro (@rm_nil) (@rm_cons))) (And.intro (And.intro (@msk_nil) (@msk_cons)) (And.intro (@prM_0) (@prM_m)))))))) (And.intro (And.intro (And.intro (And.intro (And.intro (And.intro (@E_seq) (And.intro (@E_cond) (@E_block))) (And.intro (@E_exit) (And.intro (@E_ret) (@E_label)))) (And.intro (And.intro (@E_loop) (And.intro (@pruneT_nil) (@pruneT_cons))) (And.intro (@prune_mk) (And.intro (@LL_nil) (@LL_length))))) (And.intro (And.intro (And.intro (@LL_getD) (And.intro (@LL_append) (@LL_snoc))) (And.intro (@LL_set) (And.intro (@LL_take) (@LL_drop)))) (And.intro (And.intro (@LL_cells) (And.intro (@LL_inj) (@LL_nil_eq))) (And.intro (And.intro (@LL_lls_LL) (@lls_LL)) (And.intro (@rm_nil) (@rm_cons)))))) (And.intro (And.intro (And.intro (And.intro (@strD_LB) (And.intro (@strD_nil) (@strB_toList))) (And.intro (@strB_app) (And.intro (@strB_size) (@ba_toList)))) (And.intro (And.intro (@LB_u8) (And.intro (@LB_snoc) (@LB_replicate))) (And.intro (And.intro (@LB_set) (@LI_set)) (And.intro (@blks_LK) (@LK_nil))))) (And.intro (And.intro (And.intro (@LK_length) (And.intro (@LK_getD) (@LK_append))) (And.intro (@LK_snoc) (And.intro (@LK_cells) (@LK_inj)))) (And.intro (And.intro (@LK_nil_eq) (And.intro (@LK_blks_LK) (@LI_replicate))) (And.intro (And.intro (@ints_cons) (@ints_nil)) (And.intro (@LI_cons) (@tab_nil))))))) (And.intro (And.intro (And.intro (And.intro (And.intro (@tab_cons) (And.intro (@bys_LB) (@LB_nil))) (And.intro (@LB_length) (And.intro (@LB_getD) (@LB_take)))) (And.intro (And.intro (@LB_drop) (And.intro (@LB_append) (@LB_cells))) (And.intro (@LB_inj) (And.intro (@LB_nil_eq) (@LB_bys_LB))))) (And.intro (And.intro (And.intro (@ints_LI) (And.intro (@LI_nil) (@LI_length))) (And.intro (@LI_getD) (And.intro (@LI_take) (@LI_drop)))) (And.intro (And.intro (@LI_append) (And.intro (@LI_snoc) (@LI_cells))) (And.intro (And.intro (@LI_inj) (@LI_nil_eq)) (And.intro (@LI_ints_LI) (@LI_ints_nil)))))) (And.intro (And.intro (And.intro (And.intro (@gi1) (And.intro (@gi2) (@gi3))) (And.intro (@gi4) (And.intro (@gi5) (@gi6)))) (And.intro (And.intro (@gi7) (And.intro (@gi8) (@gi9))) (And.intro (And.intro (@gi10) (@keep_nil)) (And.intro (@keep_cons) (@dstL_nil))))) (And.intro (And.intro (And.intro (@dstL_cons) (And.intro (@dsts_region) (@dsts_seq))) (And.intro (@dsts_cond) (And.intro (@dsts_block) (@dsts_loop)))) (And.intro (And.intro (@dsts_skip) (And.intro (@dsts_exit) (@dsts_ret))) (And.intro (And.intro (@leV_same) (@leCs_same)) (And.intro (@subT_nil) (@subT_cons)))))))))
def gCore := And.intro (And.intro (And.intro (And.intro (And.intro (And.intro (@List.set_cons_succ.{0}) (@List.set_cons_zero.{0})) (And.intro (@List.foldr_cons.{0,0}) (@List.foldr_nil.{0,0}))) (And.intro (And.intro (@List.append_eq.{0}) (@List.mem_cons.{0})) (And.intro (@List.flatMap_nil.{0,0}) (And.intro (@List.flatMap_cons.{0,0}) (@List.all_nil.{0}))))) (And.intro (And.intro (And.intro (@List.all_cons.{0}) (@List.map_nil.{0,0})) (And.intro (@List.map_cons.{0,0}) (@List.zip_cons_cons.{0,0}))) (And.intro (And.intro (@List.zip_nil_left.{0,0}) (@List.nil_append.{0})) (And.intro (@List.append_nil.{0}) (And.intro (@List.cons_append.{0}) (@List.drop_zero.{0})))))) (And.intro (And.intro (And.intro (And.intro (@List.drop_succ_cons.{0}) (@List.take_succ_cons.{0})) (And.intro (@List.take_zero.{0}) (@List.length_cons.{0}))) (And.intro (And.intro (@List.length_nil.{0}) (@List.getElem?_cons_succ.{0})) (And.intro (@List.getElem?_cons_zero.{0}) (And.intro (@Option.getD_some.{0}) (@Option.getD_none.{0}))))) (And.intro (And.intro (And.intro (@Option.map_some.{0,0}) (@Option.map_none.{0,0})) (And.intro (@Option.some.injEq.{0}) (@Option.isSome_none.{0}))) (And.intro (And.intro (@Option.isSome_some.{0}) (@Option.toList_some.{0})) (And.intro (@Option.toList_none.{0}) (And.intro (@List.not_mem_nil.{0}) (@false_implies))))))) (And.intro (And.intro (And.intro (And.intro (And.intro (@true_and) (@and_true)) (And.intro (@Nat.succ_ne_self) (@Bool.false_eq_true))) (And.intro (And.intro (@Bool.true_and) (@Bool.and_true)) (And.intro (@or_true) (And.intro (@true_or) (@and_self))))) (And.intro (And.intro (And.intro (@bne_self_eq_false.{0}) (@beq_self_eq_true.{0})) (And.intro (@Bool.or_false) (@Bool.false_or))) (And.intro (And.intro (@Bool.and_false) (@Bool.false_and)) (And.intro (@false_or) (And.intro (@or_false) (@beq_true)))))) (And.intro (And.intro (And.intro (And.intro (@beq_false) (@Name.mk.injEq)) (And.intro (@decide_true) (@decide_false))) (And.intro (And.intro (@Bool.or_true) (@Bool.true_or)) (And.intro (@Bool.or_self) (And.intro (@Bool.not_eq_true') (@Bool.not_true))))) (And.intro (And.intro (And.intro (@Bool.not_false) (@Bool.true_eq_false)) (And.intro (@Bool.cond_true_left) (And.intro (@Bool.cond_false_right) (@Nat.zero_add)))) (And.intro (And.intro (@List.range_succ) (@List.range_zero)) (And.intro (@Int.toNat_natCast) (And.intro (@List.mem_nil_iff.{0}) (@List.mem_append.{0})))))))
def gDef := And.intro (And.intro (And.intro (And.intro (And.intro (And.intro (@fnA.eq_1) (@handV.eq_1)) (And.intro (@V.bufs.eq_1) (@V.bufs.eq_2))) (And.intro (And.intro (@V.bufs.eq_3) (@buildArr.eq_1)) (And.intro (@buildArr.eq_2) (@toCs.eq_1)))) (And.intro (And.intro (And.intro (@toCs.eq_2) (@toCs.eq_3)) (And.intro (@addB.eq_1) (@addK.eq_1))) (And.intro (And.intro (@zeroOp.eq_1) (@zeroOp.eq_2)) (And.intro (@callSem.eq_1) (And.intro (@resName.eq_1) (@keepsB.eq_1)))))) (And.intro (And.intro (And.intro (And.intro (@newB.eq_1) (@V.pure.eq_1)) (And.intro (@V.pure.eq_2) (@V.pure.eq_3))) (And.intro (And.intro (@C.pure.eq_1) (@C.pure.eq_2)) (And.intro (@C.pure.eq_3) (And.intro (@V.ptrs.eq_1) (@V.ptrs.eq_2))))) (And.intro (And.intro (And.intro (@C.ptrs.eq_1) (@C.ptrs.eq_2)) (And.intro (@C.ptrs.eq_3) (@C.ptrs.eq_4))) (And.intro (And.intro (@C.bufs.eq_1) (@C.bufs.eq_2)) (And.intro (@C.bufs.eq_3) (And.intro (@C.bufs.eq_4) (@C.bufs.eq_5))))))) (And.intro (And.intro (And.intro (And.intro (And.intro (@C.bufs.eq_6) (@appendSem.eq_1)) (And.intro (@appendTo.eq_1) (@appendTo.eq_2))) (And.intro (And.intro (@appendTo.eq_3) (@appendZ.eq_1)) (And.intro (@dstOk.eq_1) (@lk.eq_1)))) (And.intro (And.intro (And.intro (@lk.eq_2) (@V.cells.eq_1)) (And.intro (@V.cells.eq_2) (@V.cells.eq_3))) (And.intro (And.intro (@Op.eff.eq_1) (@partV.eq_1)) (And.intro (@partD.eq_1) (And.intro (@cut.eq_1) (@lay.eq_1)))))) (And.intro (And.intro (And.intro (And.intro (@lay.eq_2) (@lay.eq_3)) (And.intro (@zeroD.eq_1) (@C.toDs.eq_1))) (And.intro (And.intro (@C.toDs.eq_2) (@C.toD.eq_1)) (And.intro (@C.toD.eq_2) (And.intro (@C.toD.eq_3) (@C.toD.eq_4))))) (And.intro (And.intro (And.intro (@V.toD.eq_1) (@V.toD.eq_2)) (And.intro (@V.toD.eq_3) (@V.toD.eq_4))) (And.intro (And.intro (@V.toD.eq_5) (@toDs.eq_1)) (And.intro (@toDs.eq_2) (And.intro (@buildCells.eq_1) (@buildCells.eq_2)))))))

end Go.Vam
end
section
set_option linter.unusedVariables false
set_option linter.unusedSimpArgs false
namespace Go.Vam

structure Inp where
  c : Int
  l : List Int
  a : Int
  b : Int
  m : List Int
  f : Int
  t : Int
  n : Int
  i : Int
section
variable {l m : List Inp} {n : Nat} {c a b f t k i : Int} {x y : List Int}
end

end Go.Vam
end
section
set_option linter.unusedVariables false
namespace Go.Vam

end Go.Vam
end
