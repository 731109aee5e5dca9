/- A run on an abstract store, proved right for every world, and the functions of the law walked by it: part 5 of 7. -/
import Derived.Test.YtiinngafmlbgpaaSc3
import Derived.Shelf.SlSortCmp.NoneTotal
import Derived.KernelRfl
import Derived.Test.YtiinngafmlbgpaaSc1
import Derived.Test.YtiinngafmlbgpaaProg
set_option linter.unusedSimpArgs false
set_option linter.unusedVariables false
/- part Tn -/
section
namespace Go.Proofs.Sx
open Go Go.Ax Go.Proofs Go.RowKit
def insAll (l : List (Int × Int)) : List (Int × Int) := l.foldl insP []
theorem insAll_snoc (l : List (Int × Int)) (e : Int × Int) : insAll (l ++ [e]) = insP (insAll l) e := by simp [insAll]
theorem insP_len (l : List (Int × Int)) (e : Int × Int) : (insP l e).length = l.length + 1 := by
  unfold insP
  have := congrArg List.length (List.takeWhile_append_dropWhile (p := fun p => ltP p e) (l := l))
  rw [List.length_append] at this
  rw [List.length_append, List.length_cons]
  omega
theorem insAll_len (l : List (Int × Int)) : (insAll l).length = l.length := by
  unfold insAll
  have : ∀ (l k : List (Int × Int)), (l.foldl insP k).length = k.length + l.length := by
    intro l
    induction l with
    | nil => intro k; simp
    | cons e l ih => intro k; rw [List.foldl_cons, ih, insP_len]; simp; omega
  rw [this]; simp
theorem leaf_spec {l : List Int} {u : Nat} (h : leaf l = (u : Int)) : u < l.length ∧ l.getD u 0 = 1 ∧ ∀ i, i < u → l.getD i 0 ≠ 1 := by
  unfold leaf idx at h
  split at h
  · rename_i i hi
    have : i = u := by omega
    subst this
    rw [List.findIdx?_eq_some_iff_getElem] at hi
    obtain ⟨h1, h2, h3⟩ := hi
    refine ⟨h1, ?_, ?_⟩
    · rw [List.getD_eq_getElem?_getD, List.getElem?_eq_getElem h1]
      have : 1 = l[i] := by simpa using h2
      simp [← this]
    · intro j hj
      rw [List.getD_eq_getElem?_getD, List.getElem?_eq_getElem (by omega)]
      have := h3 j hj
      simp at this
      simp
      omega
  · omega
/-- a store with one array of the call's own -/
structure AR (S S' : St) (N : Nat) (deg : List Int) : Prop where
  ok : S'.ok
  mono : S'.mono = S.mono
  n : S.n + 1 ≤ S'.n
  arr : S'.get S.n = some (.cells (iv deg) 3 0)
  len : deg.length = N
  same : ∀ i, i < S.n → S'.get i = S.get i
theorem AR.set {S S' : St} {N : Nat} {deg : List Int} (h : AR S S' N deg) (i : Nat) (x : Int) : AR S (S'.set S.n (.cells (iv (deg.set i x)) 3 0)) N (deg.set i x) := by
  have hn := h.n
  exact ⟨by rw [ok_set_iff]; exact h.ok, h.mono, by rw [set_n]; exact hn, get_set_same _ h.ok (by omega) rfl, by simp [h.len],
    fun k hk => by rw [get_set_ne _ (by omega) (by omega)]; exact h.same k hk⟩
theorem AR.ext {S S' S'' : St} {N : Nat} {deg : List Int} (h : AR S S' N deg) (hE : Ext S' S'') : AR S S'' N deg := by
  have hn := h.n
  exact ⟨hE.ok, hE.mono.trans h.mono, Nat.le_trans hn hE.n, by rw [hE.same _ (by omega)]; exact h.arr, h.len, fun k hk => by rw [hE.same _ (by omega)]; exact h.same k hk⟩
theorem AR.get {S S' : St} {N : Nat} {deg : List Int} (h : AR S S' N deg) {i : Nat} (hi : i < N) : loadA TT S' 3 (.pointer (some ⟨S.n, i, none⟩)) = some (.int .i64 (deg.getD i 0)) := by
  rw [load_one (o := i) und3 info3 rfl h.arr, iv_getD _ _ (by rw [h.len]; exact hi)]
theorem AR.put {S S' : St} {N : Nat} {deg : List Int} (h : AR S S' N deg) {i : Nat} (hi : i < N) (x : Int) : storeA TT S' 3 (.int .i64 x) (.pointer (some ⟨S.n, i, none⟩)) = some (S'.set S.n (.cells (iv (deg.set i x)) 3 0)) := by
  have := store_one (o := i) (v := .int .i64 x) info3 h.arr rfl rfl (by rw [iv_len, h.len]; exact hi)
  rw [iv_set] at this
  exact this
theorem AR.idx {S S' : St} {N : Nat} {deg : List Int} (_ : AR S S' N deg) {i : Nat} (hi : i < N) {k : IntKind} : indexAddrA TT 22 (.int k i) (.slice (some ⟨S.n, 0, none⟩) N N) = some (.pointer (some ⟨S.n, i, none⟩)) := arr_index und22 info3 rfl hi
theorem AR.setMine {S S' : St} {N n : Nat} {deg d2 : List Int} {v : Value} {cs : List Value} {e : TypeId} {sz : Nat} (h : AR S S' N deg) (hm : Mine S' e sz (S.n + 1) v cs n) : Mine (S'.set S.n (.cells (iv d2) 3 0)) e sz (S.n + 1) v cs n :=
  hm.same fun b hb => get_set_ne _ (by have := h.n; omega) (by have := (hm.base hb).1; omega)
theorem bs22 (S : St) (a : Int) : buildSliceA TT S 22 1 [(0, .int .i64 a)] = some (.slice (some ⟨S.n, 0, none⟩) 1 1, S.push (.cells [.int .i64 a] 3 0)) := by
  intros; kernel_rfl
def ones1 (l : List Int) (n : Nat) : List Int := List.map (fun (j : Nat) => (j : Int)) ((List.range n).filter (fun j => l.getD j 0 == 1))
theorem ones1_succ (l : List Int) (n : Nat) : ones1 l (n + 1) = if l.getD n 0 == 1 then ones1 l n ++ [(n : Int)] else ones1 l n := by
  unfold ones1
  rw [List.range_succ, List.filter_append, List.map_append]
  by_cases h : (l.getD n 0 == 1) = true
  · rw [if_pos h, List.filter_cons, if_pos h]; rfl
  · rw [if_neg h, List.filter_cons, if_neg h]; simp
theorem fn12 : TT.fn 12 = some Try.f12 := by kernel_rfl
set_option maxHeartbeats 4000000 in
/-- the reference's Made -/
theorem made_call {S : St} (hok : S.ok) {vc : Value} {N : Nat} {xs : List Int} (hx : Sl S 1 vc (iv xs) xs.length) (hg : Good N xs) :
    CallW PP 12 [.int .i64 N, vc] S (fun v S' => Ext S S' ∧ ∃ u : List (Int × Int), Mine S' 35 2 S.n v (pv u) u.length ∧ ∀ (u0 y0 : Int), (∃ r, ones1 (run0 N xs xs.length).2 N = u0 :: y0 :: r) → u = insP (insAll (run0 N xs xs.length).1) (min u0 y0, max u0 y0)) := by
  have hlen := hg.len
  have h2 := hg.two
  have h20 := hg.most
  have mk := make_one (T := TT) (S := S) (k := .i64) (k' := .i64) (m := N) und22 info3 rfl rfl (by omega) (by omega)
  refine CallW_of hTT fn12 rfl (by simp [Try.f12]) ?_
  unfold Try.f12
  have hT0 : AR S (S.push (.cells (List.replicate N (.int .i64 0)) 3 0)) N (List.replicate N 0) := by
    refine ⟨by rw [ok_push_iff]; exact hok, rfl, Nat.le_refl _, ?_, by simp, fun k hk => get_push_ne _ (by omega)⟩
    rw [get_push_new _ rfl]
    simp [iv]
  (try simp only [und3, und4, und22, und24, und25, und35, und58, und61, info3, info4, info22, info24, info25, info35, info58, info61, aggT, VL_nil, VL_none, VX_false, VX_call, ic_value, VL_guard, VG_some, VG_none, gvV_bool, gvV_undef, VC_some, yieldedA_tl, gv, dstAt, VOp_some, ic_move, ic_assign, ic_pick, ic_alloc, ic_box, ic_build, ic_buildSlice, ic_load, ic_store, ic_nilCheck, ic_binOp, ic_unOp, ic_convert, ic_makeInterface, ic_makeFunc, ic_makeMap, ic_makeSlice, ic_slice, ic_fieldAddr, ic_field, ic_indexAddr, ic_index, ic_lookup, ic_mapUpdate, ic_insert, ic_extract, ic_builtin, KN_apply, Then_normal, Then_exit, Then_ret, Blk_normal, Blk_exit, Blk_ret, LoopQ_exit, LoopQ_ret, RetQ_ret, RetQ_normal, RetV_some, resA_nil, resA_tmp, tl_getD, tupA_one, tupA_two, VIf_true, VIf_false, aop, evalA_tmp, evalA_const, evalA_func, evalsA, partsA, evalO, plain_int, plain_bool, plain_string, plain_slnil, plain_nilFunc, plain_pnil, onev_some, one_some, oneu_some, updO, upd_def, ofArgs, bin_eq, binV, intBin, un_eq, unV, min_eq, max_eq, mmV, builtinA,  List.getElem?_toArray, List.getElem?_cons_succ, List.getElem?_cons_zero, List.getD_cons_zero, List.getD_cons_succ, List.size_toArray, List.toList_toArray, List.length_cons, List.length_nil, Option.bind_some, Option.map_some, Option.getD_some, Option.isSome_some, Nat.reduceLT, Nat.reduceEqDiff, Nat.reduceAdd, Nat.reduceSub, Nat.reduceMul, reduceIte, if_true, if_false, Bool.false_eq_true, reduceCtorEq, and_self, true_and, and_true, List.nil_append, List.cons_append, List.append_nil, Bool.not_true, Bool.not_false, mk]); repeat (first | with_reducible refine W_seq ?_ | with_reducible refine W_scope ?_ | ((first | with_reducible refine W_regionV hTT ?_ | with_reducible refine W_condV ?_ | with_reducible refine W_ret ?_ | with_reducible refine W_exit ?_ | with_reducible refine W_skip ?_ | with_reducible refine W_label ?_ | with_reducible refine W_drawV hTT (by kernel_rfl) ?_); simp only [und3, und4, und22, und24, und25, und35, und58, und61, info3, info4, info22, info24, info25, info35, info58, info61, aggT, VL_nil, VL_none, VX_false, VX_call, ic_value, VL_guard, VG_some, VG_none, gvV_bool, gvV_undef, VC_some, yieldedA_tl, gv, dstAt, VOp_some, ic_move, ic_assign, ic_pick, ic_alloc, ic_box, ic_build, ic_buildSlice, ic_load, ic_store, ic_nilCheck, ic_binOp, ic_unOp, ic_convert, ic_makeInterface, ic_makeFunc, ic_makeMap, ic_makeSlice, ic_slice, ic_fieldAddr, ic_field, ic_indexAddr, ic_index, ic_lookup, ic_mapUpdate, ic_insert, ic_extract, ic_builtin, KN_apply, Then_normal, Then_exit, Then_ret, Blk_normal, Blk_exit, Blk_ret, LoopQ_exit, LoopQ_ret, RetQ_ret, RetQ_normal, RetV_some, resA_nil, resA_tmp, tl_getD, tupA_one, tupA_two, VIf_true, VIf_false, aop, evalA_tmp, evalA_const, evalA_func, evalsA, partsA, evalO, plain_int, plain_bool, plain_string, plain_slnil, plain_nilFunc, plain_pnil, onev_some, one_some, oneu_some, updO, upd_def, ofArgs, bin_eq, binV, intBin, un_eq, unV, min_eq, max_eq, mmV, builtinA,  List.getElem?_toArray, List.getElem?_cons_succ, List.getElem?_cons_zero, List.getD_cons_zero, List.getD_cons_succ, List.size_toArray, List.toList_toArray, List.length_cons, List.length_nil, Option.bind_some, Option.map_some, Option.getD_some, Option.isSome_some, Nat.reduceLT, Nat.reduceEqDiff, Nat.reduceAdd, Nat.reduceSub, Nat.reduceMul, reduceIte, if_true, if_false, Bool.false_eq_true, reduceCtorEq, and_self, true_and, and_true, List.nil_append, List.cons_append, List.append_nil, Bool.not_true, Bool.not_false, mk]))
  generalize S.push (.cells (List.replicate N (.int .i64 0)) 3 0) = S0 at hT0 ⊢
  -- ones
  refine W_cut (fun τ ds S' => ds = [] ∧ τ 0 = .int .i64 N ∧ τ 1 = vc ∧ τ 5 = .slice (some ⟨S.n, 0, none⟩) N N ∧ AR S S' N (List.replicate N 1)) ?_ ?_
  · refine W_block ?_
    refine W_loopI (fun m τ ds S' => ds = [] ∧ ∃ k : Nat, m = N - k ∧ k ≤ N ∧ τ 0 = .int .i64 N ∧ τ 1 = vc ∧ τ 5 = .slice (some ⟨S.n, 0, none⟩) N N ∧ τ 6 = .int .i64 k ∧ AR S S' N (List.replicate k 1 ++ List.replicate (N - k) 0)) N ?_ ?_
    · refine ⟨rfl, 0, by simp, by simp, ?_, ?_, ?_, ?_, by simpa using hT0⟩ <;> first | rfl | simp only [und3, und4, und22, und24, und25, und35, und58, und61, info3, info4, info22, info24, info25, info35, info58, info61, aggT, VL_nil, VL_none, VX_false, VX_call, ic_value, VL_guard, VG_some, VG_none, gvV_bool, gvV_undef, VC_some, yieldedA_tl, gv, dstAt, VOp_some, ic_move, ic_assign, ic_pick, ic_alloc, ic_box, ic_build, ic_buildSlice, ic_load, ic_store, ic_nilCheck, ic_binOp, ic_unOp, ic_convert, ic_makeInterface, ic_makeFunc, ic_makeMap, ic_makeSlice, ic_slice, ic_fieldAddr, ic_field, ic_indexAddr, ic_index, ic_lookup, ic_mapUpdate, ic_insert, ic_extract, ic_builtin, KN_apply, Then_normal, Then_exit, Then_ret, Blk_normal, Blk_exit, Blk_ret, LoopQ_exit, LoopQ_ret, RetQ_ret, RetQ_normal, RetV_some, resA_nil, resA_tmp, tl_getD, tupA_one, tupA_two, VIf_true, VIf_false, aop, evalA_tmp, evalA_const, evalA_func, evalsA, partsA, evalO, plain_int, plain_bool, plain_string, plain_slnil, plain_nilFunc, plain_pnil, onev_some, one_some, oneu_some, updO, upd_def, ofArgs, bin_eq, binV, intBin, un_eq, unV, min_eq, max_eq, mmV, builtinA,  List.getElem?_toArray, List.getElem?_cons_succ, List.getElem?_cons_zero, List.getD_cons_zero, List.getD_cons_succ, List.size_toArray, List.toList_toArray, List.length_cons, List.length_nil, Option.bind_some, Option.map_some, Option.getD_some, Option.isSome_some, Nat.reduceLT, Nat.reduceEqDiff, Nat.reduceAdd, Nat.reduceSub, Nat.reduceMul, reduceIte, if_true, if_false, Bool.false_eq_true, reduceCtorEq, and_self, true_and, and_true, List.nil_append, List.cons_append, List.append_nil, Bool.not_true, Bool.not_false]
    rintro m τ ds S' ⟨rfl, k, rfl, hk, t0, t1, t5, t6, hT⟩
    by_cases hlt : k < N
    · have c1 : decide ((k : Int) < N) = true := by simpa using hlt
      have hw := wrap_succ (k := k) (by omega)
      have i1 := hT.idx hlt (k := .i64)
      have p1 := hT.put hlt 1
      rw [rep_step k N hlt] at p1
      repeat (first | with_reducible refine W_seq ?_ | with_reducible refine W_block ?_ | with_reducible refine W_scope ?_ | ((first | with_reducible refine W_regionV hTT ?_ | with_reducible refine W_condV ?_ | with_reducible refine W_ret ?_ | with_reducible refine W_exit ?_ | with_reducible refine W_skip ?_ | with_reducible refine W_label ?_ | with_reducible refine W_drawV hTT (by kernel_rfl) ?_); simp only [und3, und4, und22, und24, und25, und35, und58, und61, info3, info4, info22, info24, info25, info35, info58, info61, aggT, VL_nil, VL_none, VX_false, VX_call, ic_value, VL_guard, VG_some, VG_none, gvV_bool, gvV_undef, VC_some, yieldedA_tl, gv, dstAt, VOp_some, ic_move, ic_assign, ic_pick, ic_alloc, ic_box, ic_build, ic_buildSlice, ic_load, ic_store, ic_nilCheck, ic_binOp, ic_unOp, ic_convert, ic_makeInterface, ic_makeFunc, ic_makeMap, ic_makeSlice, ic_slice, ic_fieldAddr, ic_field, ic_indexAddr, ic_index, ic_lookup, ic_mapUpdate, ic_insert, ic_extract, ic_builtin, KN_apply, Then_normal, Then_exit, Then_ret, Blk_normal, Blk_exit, Blk_ret, LoopQ_exit, LoopQ_ret, RetQ_ret, RetQ_normal, RetV_some, resA_nil, resA_tmp, tl_getD, tupA_one, tupA_two, VIf_true, VIf_false, aop, evalA_tmp, evalA_const, evalA_func, evalsA, partsA, evalO, plain_int, plain_bool, plain_string, plain_slnil, plain_nilFunc, plain_pnil, onev_some, one_some, oneu_some, updO, upd_def, ofArgs, bin_eq, binV, intBin, un_eq, unV, min_eq, max_eq, mmV, builtinA,  List.getElem?_toArray, List.getElem?_cons_succ, List.getElem?_cons_zero, List.getD_cons_zero, List.getD_cons_succ, List.size_toArray, List.toList_toArray, List.length_cons, List.length_nil, Option.bind_some, Option.map_some, Option.getD_some, Option.isSome_some, Nat.reduceLT, Nat.reduceEqDiff, Nat.reduceAdd, Nat.reduceSub, Nat.reduceMul, reduceIte, if_true, if_false, Bool.false_eq_true, reduceCtorEq, and_self, true_and, and_true, List.nil_append, List.cons_append, List.append_nil, Bool.not_true, Bool.not_false, t0, t1, t5, t6, c1, hw, i1, p1]))
      refine LoopQ_intro (N - (k + 1)) (by omega) ⟨rfl, k + 1, rfl, by omega, by simp only [und3, und4, und22, und24, und25, und35, und58, und61, info3, info4, info22, info24, info25, info35, info58, info61, aggT, VL_nil, VL_none, VX_false, VX_call, ic_value, VL_guard, VG_some, VG_none, gvV_bool, gvV_undef, VC_some, yieldedA_tl, gv, dstAt, VOp_some, ic_move, ic_assign, ic_pick, ic_alloc, ic_box, ic_build, ic_buildSlice, ic_load, ic_store, ic_nilCheck, ic_binOp, ic_unOp, ic_convert, ic_makeInterface, ic_makeFunc, ic_makeMap, ic_makeSlice, ic_slice, ic_fieldAddr, ic_field, ic_indexAddr, ic_index, ic_lookup, ic_mapUpdate, ic_insert, ic_extract, ic_builtin, KN_apply, Then_normal, Then_exit, Then_ret, Blk_normal, Blk_exit, Blk_ret, LoopQ_exit, LoopQ_ret, RetQ_ret, RetQ_normal, RetV_some, resA_nil, resA_tmp, tl_getD, tupA_one, tupA_two, VIf_true, VIf_false, aop, evalA_tmp, evalA_const, evalA_func, evalsA, partsA, evalO, plain_int, plain_bool, plain_string, plain_slnil, plain_nilFunc, plain_pnil, onev_some, one_some, oneu_some, updO, upd_def, ofArgs, bin_eq, binV, intBin, un_eq, unV, min_eq, max_eq, mmV, builtinA,  List.getElem?_toArray, List.getElem?_cons_succ, List.getElem?_cons_zero, List.getD_cons_zero, List.getD_cons_succ, List.size_toArray, List.toList_toArray, List.length_cons, List.length_nil, Option.bind_some, Option.map_some, Option.getD_some, Option.isSome_some, Nat.reduceLT, Nat.reduceEqDiff, Nat.reduceAdd, Nat.reduceSub, Nat.reduceMul, reduceIte, if_true, if_false, Bool.false_eq_true, reduceCtorEq, and_self, true_and, and_true, List.nil_append, List.cons_append, List.append_nil, Bool.not_true, Bool.not_false, t0], by simp only [und3, und4, und22, und24, und25, und35, und58, und61, info3, info4, info22, info24, info25, info35, info58, info61, aggT, VL_nil, VL_none, VX_false, VX_call, ic_value, VL_guard, VG_some, VG_none, gvV_bool, gvV_undef, VC_some, yieldedA_tl, gv, dstAt, VOp_some, ic_move, ic_assign, ic_pick, ic_alloc, ic_box, ic_build, ic_buildSlice, ic_load, ic_store, ic_nilCheck, ic_binOp, ic_unOp, ic_convert, ic_makeInterface, ic_makeFunc, ic_makeMap, ic_makeSlice, ic_slice, ic_fieldAddr, ic_field, ic_indexAddr, ic_index, ic_lookup, ic_mapUpdate, ic_insert, ic_extract, ic_builtin, KN_apply, Then_normal, Then_exit, Then_ret, Blk_normal, Blk_exit, Blk_ret, LoopQ_exit, LoopQ_ret, RetQ_ret, RetQ_normal, RetV_some, resA_nil, resA_tmp, tl_getD, tupA_one, tupA_two, VIf_true, VIf_false, aop, evalA_tmp, evalA_const, evalA_func, evalsA, partsA, evalO, plain_int, plain_bool, plain_string, plain_slnil, plain_nilFunc, plain_pnil, onev_some, one_some, oneu_some, updO, upd_def, ofArgs, bin_eq, binV, intBin, un_eq, unV, min_eq, max_eq, mmV, builtinA,  List.getElem?_toArray, List.getElem?_cons_succ, List.getElem?_cons_zero, List.getD_cons_zero, List.getD_cons_succ, List.size_toArray, List.toList_toArray, List.length_cons, List.length_nil, Option.bind_some, Option.map_some, Option.getD_some, Option.isSome_some, Nat.reduceLT, Nat.reduceEqDiff, Nat.reduceAdd, Nat.reduceSub, Nat.reduceMul, reduceIte, if_true, if_false, Bool.false_eq_true, reduceCtorEq, and_self, true_and, and_true, List.nil_append, List.cons_append, List.append_nil, Bool.not_true, Bool.not_false, t1], by simp only [und3, und4, und22, und24, und25, und35, und58, und61, info3, info4, info22, info24, info25, info35, info58, info61, aggT, VL_nil, VL_none, VX_false, VX_call, ic_value, VL_guard, VG_some, VG_none, gvV_bool, gvV_undef, VC_some, yieldedA_tl, gv, dstAt, VOp_some, ic_move, ic_assign, ic_pick, ic_alloc, ic_box, ic_build, ic_buildSlice, ic_load, ic_store, ic_nilCheck, ic_binOp, ic_unOp, ic_convert, ic_makeInterface, ic_makeFunc, ic_makeMap, ic_makeSlice, ic_slice, ic_fieldAddr, ic_field, ic_indexAddr, ic_index, ic_lookup, ic_mapUpdate, ic_insert, ic_extract, ic_builtin, KN_apply, Then_normal, Then_exit, Then_ret, Blk_normal, Blk_exit, Blk_ret, LoopQ_exit, LoopQ_ret, RetQ_ret, RetQ_normal, RetV_some, resA_nil, resA_tmp, tl_getD, tupA_one, tupA_two, VIf_true, VIf_false, aop, evalA_tmp, evalA_const, evalA_func, evalsA, partsA, evalO, plain_int, plain_bool, plain_string, plain_slnil, plain_nilFunc, plain_pnil, onev_some, one_some, oneu_some, updO, upd_def, ofArgs, bin_eq, binV, intBin, un_eq, unV, min_eq, max_eq, mmV, builtinA,  List.getElem?_toArray, List.getElem?_cons_succ, List.getElem?_cons_zero, List.getD_cons_zero, List.getD_cons_succ, List.size_toArray, List.toList_toArray, List.length_cons, List.length_nil, Option.bind_some, Option.map_some, Option.getD_some, Option.isSome_some, Nat.reduceLT, Nat.reduceEqDiff, Nat.reduceAdd, Nat.reduceSub, Nat.reduceMul, reduceIte, if_true, if_false, Bool.false_eq_true, reduceCtorEq, and_self, true_and, and_true, List.nil_append, List.cons_append, List.append_nil, Bool.not_true, Bool.not_false, t5], by simp only [und3, und4, und22, und24, und25, und35, und58, und61, info3, info4, info22, info24, info25, info35, info58, info61, aggT, VL_nil, VL_none, VX_false, VX_call, ic_value, VL_guard, VG_some, VG_none, gvV_bool, gvV_undef, VC_some, yieldedA_tl, gv, dstAt, VOp_some, ic_move, ic_assign, ic_pick, ic_alloc, ic_box, ic_build, ic_buildSlice, ic_load, ic_store, ic_nilCheck, ic_binOp, ic_unOp, ic_convert, ic_makeInterface, ic_makeFunc, ic_makeMap, ic_makeSlice, ic_slice, ic_fieldAddr, ic_field, ic_indexAddr, ic_index, ic_lookup, ic_mapUpdate, ic_insert, ic_extract, ic_builtin, KN_apply, Then_normal, Then_exit, Then_ret, Blk_normal, Blk_exit, Blk_ret, LoopQ_exit, LoopQ_ret, RetQ_ret, RetQ_normal, RetV_some, resA_nil, resA_tmp, tl_getD, tupA_one, tupA_two, VIf_true, VIf_false, aop, evalA_tmp, evalA_const, evalA_func, evalsA, partsA, evalO, plain_int, plain_bool, plain_string, plain_slnil, plain_nilFunc, plain_pnil, onev_some, one_some, oneu_some, updO, upd_def, ofArgs, bin_eq, binV, intBin, un_eq, unV, min_eq, max_eq, mmV, builtinA,  List.getElem?_toArray, List.getElem?_cons_succ, List.getElem?_cons_zero, List.getD_cons_zero, List.getD_cons_succ, List.size_toArray, List.toList_toArray, List.length_cons, List.length_nil, Option.bind_some, Option.map_some, Option.getD_some, Option.isSome_some, Nat.reduceLT, Nat.reduceEqDiff, Nat.reduceAdd, Nat.reduceSub, Nat.reduceMul, reduceIte, if_true, if_false, Bool.false_eq_true, reduceCtorEq, and_self, true_and, and_true, List.nil_append, List.cons_append, List.append_nil, Bool.not_true, Bool.not_false, t6], ?_⟩
      have := hT.set k 1
      rw [rep_step k N hlt] at this
      exact this
    · have c1 : decide ((k : Int) < N) = false := by simpa using hlt
      repeat (first | with_reducible refine W_seq ?_ | with_reducible refine W_block ?_ | with_reducible refine W_scope ?_ | ((first | with_reducible refine W_regionV hTT ?_ | with_reducible refine W_condV ?_ | with_reducible refine W_ret ?_ | with_reducible refine W_exit ?_ | with_reducible refine W_skip ?_ | with_reducible refine W_label ?_ | with_reducible refine W_drawV hTT (by kernel_rfl) ?_); simp only [und3, und4, und22, und24, und25, und35, und58, und61, info3, info4, info22, info24, info25, info35, info58, info61, aggT, VL_nil, VL_none, VX_false, VX_call, ic_value, VL_guard, VG_some, VG_none, gvV_bool, gvV_undef, VC_some, yieldedA_tl, gv, dstAt, VOp_some, ic_move, ic_assign, ic_pick, ic_alloc, ic_box, ic_build, ic_buildSlice, ic_load, ic_store, ic_nilCheck, ic_binOp, ic_unOp, ic_convert, ic_makeInterface, ic_makeFunc, ic_makeMap, ic_makeSlice, ic_slice, ic_fieldAddr, ic_field, ic_indexAddr, ic_index, ic_lookup, ic_mapUpdate, ic_insert, ic_extract, ic_builtin, KN_apply, Then_normal, Then_exit, Then_ret, Blk_normal, Blk_exit, Blk_ret, LoopQ_exit, LoopQ_ret, RetQ_ret, RetQ_normal, RetV_some, resA_nil, resA_tmp, tl_getD, tupA_one, tupA_two, VIf_true, VIf_false, aop, evalA_tmp, evalA_const, evalA_func, evalsA, partsA, evalO, plain_int, plain_bool, plain_string, plain_slnil, plain_nilFunc, plain_pnil, onev_some, one_some, oneu_some, updO, upd_def, ofArgs, bin_eq, binV, intBin, un_eq, unV, min_eq, max_eq, mmV, builtinA,  List.getElem?_toArray, List.getElem?_cons_succ, List.getElem?_cons_zero, List.getD_cons_zero, List.getD_cons_succ, List.size_toArray, List.toList_toArray, List.length_cons, List.length_nil, Option.bind_some, Option.map_some, Option.getD_some, Option.isSome_some, Nat.reduceLT, Nat.reduceEqDiff, Nat.reduceAdd, Nat.reduceSub, Nat.reduceMul, reduceIte, if_true, if_false, Bool.false_eq_true, reduceCtorEq, and_self, true_and, and_true, List.nil_append, List.cons_append, List.append_nil, Bool.not_true, Bool.not_false, t0, t1, t5, t6, c1]))
      have : k = N := by omega
      subst this
      exact NQ_intro ⟨rfl, by simp only [und3, und4, und22, und24, und25, und35, und58, und61, info3, info4, info22, info24, info25, info35, info58, info61, aggT, VL_nil, VL_none, VX_false, VX_call, ic_value, VL_guard, VG_some, VG_none, gvV_bool, gvV_undef, VC_some, yieldedA_tl, gv, dstAt, VOp_some, ic_move, ic_assign, ic_pick, ic_alloc, ic_box, ic_build, ic_buildSlice, ic_load, ic_store, ic_nilCheck, ic_binOp, ic_unOp, ic_convert, ic_makeInterface, ic_makeFunc, ic_makeMap, ic_makeSlice, ic_slice, ic_fieldAddr, ic_field, ic_indexAddr, ic_index, ic_lookup, ic_mapUpdate, ic_insert, ic_extract, ic_builtin, KN_apply, Then_normal, Then_exit, Then_ret, Blk_normal, Blk_exit, Blk_ret, LoopQ_exit, LoopQ_ret, RetQ_ret, RetQ_normal, RetV_some, resA_nil, resA_tmp, tl_getD, tupA_one, tupA_two, VIf_true, VIf_false, aop, evalA_tmp, evalA_const, evalA_func, evalsA, partsA, evalO, plain_int, plain_bool, plain_string, plain_slnil, plain_nilFunc, plain_pnil, onev_some, one_some, oneu_some, updO, upd_def, ofArgs, bin_eq, binV, intBin, un_eq, unV, min_eq, max_eq, mmV, builtinA,  List.getElem?_toArray, List.getElem?_cons_succ, List.getElem?_cons_zero, List.getD_cons_zero, List.getD_cons_succ, List.size_toArray, List.toList_toArray, List.length_cons, List.length_nil, Option.bind_some, Option.map_some, Option.getD_some, Option.isSome_some, Nat.reduceLT, Nat.reduceEqDiff, Nat.reduceAdd, Nat.reduceSub, Nat.reduceMul, reduceIte, if_true, if_false, Bool.false_eq_true, reduceCtorEq, and_self, true_and, and_true, List.nil_append, List.cons_append, List.append_nil, Bool.not_true, Bool.not_false, t0], by simp only [und3, und4, und22, und24, und25, und35, und58, und61, info3, info4, info22, info24, info25, info35, info58, info61, aggT, VL_nil, VL_none, VX_false, VX_call, ic_value, VL_guard, VG_some, VG_none, gvV_bool, gvV_undef, VC_some, yieldedA_tl, gv, dstAt, VOp_some, ic_move, ic_assign, ic_pick, ic_alloc, ic_box, ic_build, ic_buildSlice, ic_load, ic_store, ic_nilCheck, ic_binOp, ic_unOp, ic_convert, ic_makeInterface, ic_makeFunc, ic_makeMap, ic_makeSlice, ic_slice, ic_fieldAddr, ic_field, ic_indexAddr, ic_index, ic_lookup, ic_mapUpdate, ic_insert, ic_extract, ic_builtin, KN_apply, Then_normal, Then_exit, Then_ret, Blk_normal, Blk_exit, Blk_ret, LoopQ_exit, LoopQ_ret, RetQ_ret, RetQ_normal, RetV_some, resA_nil, resA_tmp, tl_getD, tupA_one, tupA_two, VIf_true, VIf_false, aop, evalA_tmp, evalA_const, evalA_func, evalsA, partsA, evalO, plain_int, plain_bool, plain_string, plain_slnil, plain_nilFunc, plain_pnil, onev_some, one_some, oneu_some, updO, upd_def, ofArgs, bin_eq, binV, intBin, un_eq, unV, min_eq, max_eq, mmV, builtinA,  List.getElem?_toArray, List.getElem?_cons_succ, List.getElem?_cons_zero, List.getD_cons_zero, List.getD_cons_succ, List.size_toArray, List.toList_toArray, List.length_cons, List.length_nil, Option.bind_some, Option.map_some, Option.getD_some, Option.isSome_some, Nat.reduceLT, Nat.reduceEqDiff, Nat.reduceAdd, Nat.reduceSub, Nat.reduceMul, reduceIte, if_true, if_false, Bool.false_eq_true, reduceCtorEq, and_self, true_and, and_true, List.nil_append, List.cons_append, List.append_nil, Bool.not_true, Bool.not_false, t1], by simp only [und3, und4, und22, und24, und25, und35, und58, und61, info3, info4, info22, info24, info25, info35, info58, info61, aggT, VL_nil, VL_none, VX_false, VX_call, ic_value, VL_guard, VG_some, VG_none, gvV_bool, gvV_undef, VC_some, yieldedA_tl, gv, dstAt, VOp_some, ic_move, ic_assign, ic_pick, ic_alloc, ic_box, ic_build, ic_buildSlice, ic_load, ic_store, ic_nilCheck, ic_binOp, ic_unOp, ic_convert, ic_makeInterface, ic_makeFunc, ic_makeMap, ic_makeSlice, ic_slice, ic_fieldAddr, ic_field, ic_indexAddr, ic_index, ic_lookup, ic_mapUpdate, ic_insert, ic_extract, ic_builtin, KN_apply, Then_normal, Then_exit, Then_ret, Blk_normal, Blk_exit, Blk_ret, LoopQ_exit, LoopQ_ret, RetQ_ret, RetQ_normal, RetV_some, resA_nil, resA_tmp, tl_getD, tupA_one, tupA_two, VIf_true, VIf_false, aop, evalA_tmp, evalA_const, evalA_func, evalsA, partsA, evalO, plain_int, plain_bool, plain_string, plain_slnil, plain_nilFunc, plain_pnil, onev_some, one_some, oneu_some, updO, upd_def, ofArgs, bin_eq, binV, intBin, un_eq, unV, min_eq, max_eq, mmV, builtinA,  List.getElem?_toArray, List.getElem?_cons_succ, List.getElem?_cons_zero, List.getD_cons_zero, List.getD_cons_succ, List.size_toArray, List.toList_toArray, List.length_cons, List.length_nil, Option.bind_some, Option.map_some, Option.getD_some, Option.isSome_some, Nat.reduceLT, Nat.reduceEqDiff, Nat.reduceAdd, Nat.reduceSub, Nat.reduceMul, reduceIte, if_true, if_false, Bool.false_eq_true, reduceCtorEq, and_self, true_and, and_true, List.nil_append, List.cons_append, List.append_nil, Bool.not_true, Bool.not_false, t5], by simpa using hT⟩
  clear hT0
  rintro τ ds S1 ⟨rfl, t0, t1, t5, hT⟩
  (try simp only [und3, und4, und22, und24, und25, und35, und58, und61, info3, info4, info22, info24, info25, info35, info58, info61, aggT, VL_nil, VL_none, VX_false, VX_call, ic_value, VL_guard, VG_some, VG_none, gvV_bool, gvV_undef, VC_some, yieldedA_tl, gv, dstAt, VOp_some, ic_move, ic_assign, ic_pick, ic_alloc, ic_box, ic_build, ic_buildSlice, ic_load, ic_store, ic_nilCheck, ic_binOp, ic_unOp, ic_convert, ic_makeInterface, ic_makeFunc, ic_makeMap, ic_makeSlice, ic_slice, ic_fieldAddr, ic_field, ic_indexAddr, ic_index, ic_lookup, ic_mapUpdate, ic_insert, ic_extract, ic_builtin, KN_apply, Then_normal, Then_exit, Then_ret, Blk_normal, Blk_exit, Blk_ret, LoopQ_exit, LoopQ_ret, RetQ_ret, RetQ_normal, RetV_some, resA_nil, resA_tmp, tl_getD, tupA_one, tupA_two, VIf_true, VIf_false, aop, evalA_tmp, evalA_const, evalA_func, evalsA, partsA, evalO, plain_int, plain_bool, plain_string, plain_slnil, plain_nilFunc, plain_pnil, onev_some, one_some, oneu_some, updO, upd_def, ofArgs, bin_eq, binV, intBin, un_eq, unV, min_eq, max_eq, mmV, builtinA,  List.getElem?_toArray, List.getElem?_cons_succ, List.getElem?_cons_zero, List.getD_cons_zero, List.getD_cons_succ, List.size_toArray, List.toList_toArray, List.length_cons, List.length_nil, Option.bind_some, Option.map_some, Option.getD_some, Option.isSome_some, Nat.reduceLT, Nat.reduceEqDiff, Nat.reduceAdd, Nat.reduceSub, Nat.reduceMul, reduceIte, if_true, if_false, Bool.false_eq_true, reduceCtorEq, and_self, true_and, and_true, List.nil_append, List.cons_append, List.append_nil, Bool.not_true, Bool.not_false, t0, t1, t5]); repeat (first | with_reducible refine W_seq ?_ | with_reducible refine W_scope ?_ | ((first | with_reducible refine W_regionV hTT ?_ | with_reducible refine W_condV ?_ | with_reducible refine W_ret ?_ | with_reducible refine W_exit ?_ | with_reducible refine W_skip ?_ | with_reducible refine W_label ?_ | with_reducible refine W_drawV hTT (by kernel_rfl) ?_); simp only [und3, und4, und22, und24, und25, und35, und58, und61, info3, info4, info22, info24, info25, info35, info58, info61, aggT, VL_nil, VL_none, VX_false, VX_call, ic_value, VL_guard, VG_some, VG_none, gvV_bool, gvV_undef, VC_some, yieldedA_tl, gv, dstAt, VOp_some, ic_move, ic_assign, ic_pick, ic_alloc, ic_box, ic_build, ic_buildSlice, ic_load, ic_store, ic_nilCheck, ic_binOp, ic_unOp, ic_convert, ic_makeInterface, ic_makeFunc, ic_makeMap, ic_makeSlice, ic_slice, ic_fieldAddr, ic_field, ic_indexAddr, ic_index, ic_lookup, ic_mapUpdate, ic_insert, ic_extract, ic_builtin, KN_apply, Then_normal, Then_exit, Then_ret, Blk_normal, Blk_exit, Blk_ret, LoopQ_exit, LoopQ_ret, RetQ_ret, RetQ_normal, RetV_some, resA_nil, resA_tmp, tl_getD, tupA_one, tupA_two, VIf_true, VIf_false, aop, evalA_tmp, evalA_const, evalA_func, evalsA, partsA, evalO, plain_int, plain_bool, plain_string, plain_slnil, plain_nilFunc, plain_pnil, onev_some, one_some, oneu_some, updO, upd_def, ofArgs, bin_eq, binV, intBin, un_eq, unV, min_eq, max_eq, mmV, builtinA,  List.getElem?_toArray, List.getElem?_cons_succ, List.getElem?_cons_zero, List.getD_cons_zero, List.getD_cons_succ, List.size_toArray, List.toList_toArray, List.length_cons, List.length_nil, Option.bind_some, Option.map_some, Option.getD_some, Option.isSome_some, Nat.reduceLT, Nat.reduceEqDiff, Nat.reduceAdd, Nat.reduceSub, Nat.reduceMul, reduceIte, if_true, if_false, Bool.false_eq_true, reduceCtorEq, and_self, true_and, and_true, List.nil_append, List.cons_append, List.append_nil, Bool.not_true, Bool.not_false, t0, t1, t5]))
  -- the code's numbers
  refine W_cut (fun τ ds S' => ds = [] ∧ τ 0 = .int .i64 N ∧ τ 1 = vc ∧ τ 5 = .slice (some ⟨S.n, 0, none⟩) N N ∧ AR S S' N (deg0 N xs)) ?_ ?_
  · refine W_block ?_
    refine W_loopI (fun m τ ds S' => ds = [] ∧ ∃ j : Nat, m = xs.length - j ∧ j ≤ xs.length ∧ τ 0 = .int .i64 N ∧ τ 1 = vc ∧ τ 5 = .slice (some ⟨S.n, 0, none⟩) N N ∧ τ 7 = .int .i64 j ∧ AR S S' N ((xs.take j).foldl (fun l v => inc l v.toNat) (List.replicate N 1))) xs.length ?_ ?_
    · refine ⟨rfl, 0, by simp, by simp, ?_, ?_, ?_, ?_, by simpa using hT⟩ <;> first | rfl | simp only [und3, und4, und22, und24, und25, und35, und58, und61, info3, info4, info22, info24, info25, info35, info58, info61, aggT, VL_nil, VL_none, VX_false, VX_call, ic_value, VL_guard, VG_some, VG_none, gvV_bool, gvV_undef, VC_some, yieldedA_tl, gv, dstAt, VOp_some, ic_move, ic_assign, ic_pick, ic_alloc, ic_box, ic_build, ic_buildSlice, ic_load, ic_store, ic_nilCheck, ic_binOp, ic_unOp, ic_convert, ic_makeInterface, ic_makeFunc, ic_makeMap, ic_makeSlice, ic_slice, ic_fieldAddr, ic_field, ic_indexAddr, ic_index, ic_lookup, ic_mapUpdate, ic_insert, ic_extract, ic_builtin, KN_apply, Then_normal, Then_exit, Then_ret, Blk_normal, Blk_exit, Blk_ret, LoopQ_exit, LoopQ_ret, RetQ_ret, RetQ_normal, RetV_some, resA_nil, resA_tmp, tl_getD, tupA_one, tupA_two, VIf_true, VIf_false, aop, evalA_tmp, evalA_const, evalA_func, evalsA, partsA, evalO, plain_int, plain_bool, plain_string, plain_slnil, plain_nilFunc, plain_pnil, onev_some, one_some, oneu_some, updO, upd_def, ofArgs, bin_eq, binV, intBin, un_eq, unV, min_eq, max_eq, mmV, builtinA,  List.getElem?_toArray, List.getElem?_cons_succ, List.getElem?_cons_zero, List.getD_cons_zero, List.getD_cons_succ, List.size_toArray, List.toList_toArray, List.length_cons, List.length_nil, Option.bind_some, Option.map_some, Option.getD_some, Option.isSome_some, Nat.reduceLT, Nat.reduceEqDiff, Nat.reduceAdd, Nat.reduceSub, Nat.reduceMul, reduceIte, if_true, if_false, Bool.false_eq_true, reduceCtorEq, and_self, true_and, and_true, List.nil_append, List.cons_append, List.append_nil, Bool.not_true, Bool.not_false, t0, t1, t5]
    clear hT t0 t1 t5
    rintro m τ ds S' ⟨rfl, j, rfl, hj, t0, t1, t5, t7, hT⟩
    have hxS : Sl S' 1 vc (iv xs) xs.length := hx.same fun b hb => hT.same b (hx.base hb)
    have hlS := hxS.len (T := TT) und22
    by_cases hlt : j < xs.length
    · have c1 : decide ((j : Int) < xs.length) = true := by simpa using hlt
      have hw := wrap_succ (k := j) (by omega)
      obtain ⟨q, q1, q2, _⟩ := hxS.at1 (T := TT) (k := .i64) und22 info3 und3 rfl rfl hlt
      rw [iv_get, List.getElem?_eq_getElem hlt] at q2
      have hr := hg.rng j hlt
      obtain ⟨x, hx'⟩ : ∃ x : Nat, xs[j] = (x : Int) := ⟨xs[j].toNat, by omega⟩
      have hxN : x < N := by omega
      have i1 := hT.idx hxN (k := .i64)
      have g1 := hT.get hxN
      have hd := hg.deg j x
      have w2 : IntKind.i64.wrap (((xs.take j).foldl (fun l v => inc l v.toNat) (List.replicate N 1)).getD x 0 + 1) = ((xs.take j).foldl (fun l v => inc l v.toNat) (List.replicate N 1)).getD x 0 + 1 := wrap_id (by omega) (by omega)
      have p1 := hT.put hxN (((xs.take j).foldl (fun l v => inc l v.toNat) (List.replicate N 1)).getD x 0 + 1)
      rw [hx'] at q2
      repeat (first | with_reducible refine W_seq ?_ | with_reducible refine W_block ?_ | with_reducible refine W_scope ?_ | ((first | with_reducible refine W_regionV hTT ?_ | with_reducible refine W_condV ?_ | with_reducible refine W_ret ?_ | with_reducible refine W_exit ?_ | with_reducible refine W_skip ?_ | with_reducible refine W_label ?_ | with_reducible refine W_drawV hTT (by kernel_rfl) ?_); simp only [und3, und4, und22, und24, und25, und35, und58, und61, info3, info4, info22, info24, info25, info35, info58, info61, aggT, VL_nil, VL_none, VX_false, VX_call, ic_value, VL_guard, VG_some, VG_none, gvV_bool, gvV_undef, VC_some, yieldedA_tl, gv, dstAt, VOp_some, ic_move, ic_assign, ic_pick, ic_alloc, ic_box, ic_build, ic_buildSlice, ic_load, ic_store, ic_nilCheck, ic_binOp, ic_unOp, ic_convert, ic_makeInterface, ic_makeFunc, ic_makeMap, ic_makeSlice, ic_slice, ic_fieldAddr, ic_field, ic_indexAddr, ic_index, ic_lookup, ic_mapUpdate, ic_insert, ic_extract, ic_builtin, KN_apply, Then_normal, Then_exit, Then_ret, Blk_normal, Blk_exit, Blk_ret, LoopQ_exit, LoopQ_ret, RetQ_ret, RetQ_normal, RetV_some, resA_nil, resA_tmp, tl_getD, tupA_one, tupA_two, VIf_true, VIf_false, aop, evalA_tmp, evalA_const, evalA_func, evalsA, partsA, evalO, plain_int, plain_bool, plain_string, plain_slnil, plain_nilFunc, plain_pnil, onev_some, one_some, oneu_some, updO, upd_def, ofArgs, bin_eq, binV, intBin, un_eq, unV, min_eq, max_eq, mmV, builtinA,  List.getElem?_toArray, List.getElem?_cons_succ, List.getElem?_cons_zero, List.getD_cons_zero, List.getD_cons_succ, List.size_toArray, List.toList_toArray, List.length_cons, List.length_nil, Option.bind_some, Option.map_some, Option.getD_some, Option.isSome_some, Nat.reduceLT, Nat.reduceEqDiff, Nat.reduceAdd, Nat.reduceSub, Nat.reduceMul, reduceIte, if_true, if_false, Bool.false_eq_true, reduceCtorEq, and_self, true_and, and_true, List.nil_append, List.cons_append, List.append_nil, Bool.not_true, Bool.not_false, t0, t1, t5, t7, hlS, c1, hw, q1, q2, i1, g1, w2, p1]))
      refine LoopQ_intro (xs.length - (j + 1)) (by omega) ⟨rfl, j + 1, rfl, by omega, by simp only [und3, und4, und22, und24, und25, und35, und58, und61, info3, info4, info22, info24, info25, info35, info58, info61, aggT, VL_nil, VL_none, VX_false, VX_call, ic_value, VL_guard, VG_some, VG_none, gvV_bool, gvV_undef, VC_some, yieldedA_tl, gv, dstAt, VOp_some, ic_move, ic_assign, ic_pick, ic_alloc, ic_box, ic_build, ic_buildSlice, ic_load, ic_store, ic_nilCheck, ic_binOp, ic_unOp, ic_convert, ic_makeInterface, ic_makeFunc, ic_makeMap, ic_makeSlice, ic_slice, ic_fieldAddr, ic_field, ic_indexAddr, ic_index, ic_lookup, ic_mapUpdate, ic_insert, ic_extract, ic_builtin, KN_apply, Then_normal, Then_exit, Then_ret, Blk_normal, Blk_exit, Blk_ret, LoopQ_exit, LoopQ_ret, RetQ_ret, RetQ_normal, RetV_some, resA_nil, resA_tmp, tl_getD, tupA_one, tupA_two, VIf_true, VIf_false, aop, evalA_tmp, evalA_const, evalA_func, evalsA, partsA, evalO, plain_int, plain_bool, plain_string, plain_slnil, plain_nilFunc, plain_pnil, onev_some, one_some, oneu_some, updO, upd_def, ofArgs, bin_eq, binV, intBin, un_eq, unV, min_eq, max_eq, mmV, builtinA,  List.getElem?_toArray, List.getElem?_cons_succ, List.getElem?_cons_zero, List.getD_cons_zero, List.getD_cons_succ, List.size_toArray, List.toList_toArray, List.length_cons, List.length_nil, Option.bind_some, Option.map_some, Option.getD_some, Option.isSome_some, Nat.reduceLT, Nat.reduceEqDiff, Nat.reduceAdd, Nat.reduceSub, Nat.reduceMul, reduceIte, if_true, if_false, Bool.false_eq_true, reduceCtorEq, and_self, true_and, and_true, List.nil_append, List.cons_append, List.append_nil, Bool.not_true, Bool.not_false, t0], by simp only [und3, und4, und22, und24, und25, und35, und58, und61, info3, info4, info22, info24, info25, info35, info58, info61, aggT, VL_nil, VL_none, VX_false, VX_call, ic_value, VL_guard, VG_some, VG_none, gvV_bool, gvV_undef, VC_some, yieldedA_tl, gv, dstAt, VOp_some, ic_move, ic_assign, ic_pick, ic_alloc, ic_box, ic_build, ic_buildSlice, ic_load, ic_store, ic_nilCheck, ic_binOp, ic_unOp, ic_convert, ic_makeInterface, ic_makeFunc, ic_makeMap, ic_makeSlice, ic_slice, ic_fieldAddr, ic_field, ic_indexAddr, ic_index, ic_lookup, ic_mapUpdate, ic_insert, ic_extract, ic_builtin, KN_apply, Then_normal, Then_exit, Then_ret, Blk_normal, Blk_exit, Blk_ret, LoopQ_exit, LoopQ_ret, RetQ_ret, RetQ_normal, RetV_some, resA_nil, resA_tmp, tl_getD, tupA_one, tupA_two, VIf_true, VIf_false, aop, evalA_tmp, evalA_const, evalA_func, evalsA, partsA, evalO, plain_int, plain_bool, plain_string, plain_slnil, plain_nilFunc, plain_pnil, onev_some, one_some, oneu_some, updO, upd_def, ofArgs, bin_eq, binV, intBin, un_eq, unV, min_eq, max_eq, mmV, builtinA,  List.getElem?_toArray, List.getElem?_cons_succ, List.getElem?_cons_zero, List.getD_cons_zero, List.getD_cons_succ, List.size_toArray, List.toList_toArray, List.length_cons, List.length_nil, Option.bind_some, Option.map_some, Option.getD_some, Option.isSome_some, Nat.reduceLT, Nat.reduceEqDiff, Nat.reduceAdd, Nat.reduceSub, Nat.reduceMul, reduceIte, if_true, if_false, Bool.false_eq_true, reduceCtorEq, and_self, true_and, and_true, List.nil_append, List.cons_append, List.append_nil, Bool.not_true, Bool.not_false, t1], by simp only [und3, und4, und22, und24, und25, und35, und58, und61, info3, info4, info22, info24, info25, info35, info58, info61, aggT, VL_nil, VL_none, VX_false, VX_call, ic_value, VL_guard, VG_some, VG_none, gvV_bool, gvV_undef, VC_some, yieldedA_tl, gv, dstAt, VOp_some, ic_move, ic_assign, ic_pick, ic_alloc, ic_box, ic_build, ic_buildSlice, ic_load, ic_store, ic_nilCheck, ic_binOp, ic_unOp, ic_convert, ic_makeInterface, ic_makeFunc, ic_makeMap, ic_makeSlice, ic_slice, ic_fieldAddr, ic_field, ic_indexAddr, ic_index, ic_lookup, ic_mapUpdate, ic_insert, ic_extract, ic_builtin, KN_apply, Then_normal, Then_exit, Then_ret, Blk_normal, Blk_exit, Blk_ret, LoopQ_exit, LoopQ_ret, RetQ_ret, RetQ_normal, RetV_some, resA_nil, resA_tmp, tl_getD, tupA_one, tupA_two, VIf_true, VIf_false, aop, evalA_tmp, evalA_const, evalA_func, evalsA, partsA, evalO, plain_int, plain_bool, plain_string, plain_slnil, plain_nilFunc, plain_pnil, onev_some, one_some, oneu_some, updO, upd_def, ofArgs, bin_eq, binV, intBin, un_eq, unV, min_eq, max_eq, mmV, builtinA,  List.getElem?_toArray, List.getElem?_cons_succ, List.getElem?_cons_zero, List.getD_cons_zero, List.getD_cons_succ, List.size_toArray, List.toList_toArray, List.length_cons, List.length_nil, Option.bind_some, Option.map_some, Option.getD_some, Option.isSome_some, Nat.reduceLT, Nat.reduceEqDiff, Nat.reduceAdd, Nat.reduceSub, Nat.reduceMul, reduceIte, if_true, if_false, Bool.false_eq_true, reduceCtorEq, and_self, true_and, and_true, List.nil_append, List.cons_append, List.append_nil, Bool.not_true, Bool.not_false, t5], by simp only [und3, und4, und22, und24, und25, und35, und58, und61, info3, info4, info22, info24, info25, info35, info58, info61, aggT, VL_nil, VL_none, VX_false, VX_call, ic_value, VL_guard, VG_some, VG_none, gvV_bool, gvV_undef, VC_some, yieldedA_tl, gv, dstAt, VOp_some, ic_move, ic_assign, ic_pick, ic_alloc, ic_box, ic_build, ic_buildSlice, ic_load, ic_store, ic_nilCheck, ic_binOp, ic_unOp, ic_convert, ic_makeInterface, ic_makeFunc, ic_makeMap, ic_makeSlice, ic_slice, ic_fieldAddr, ic_field, ic_indexAddr, ic_index, ic_lookup, ic_mapUpdate, ic_insert, ic_extract, ic_builtin, KN_apply, Then_normal, Then_exit, Then_ret, Blk_normal, Blk_exit, Blk_ret, LoopQ_exit, LoopQ_ret, RetQ_ret, RetQ_normal, RetV_some, resA_nil, resA_tmp, tl_getD, tupA_one, tupA_two, VIf_true, VIf_false, aop, evalA_tmp, evalA_const, evalA_func, evalsA, partsA, evalO, plain_int, plain_bool, plain_string, plain_slnil, plain_nilFunc, plain_pnil, onev_some, one_some, oneu_some, updO, upd_def, ofArgs, bin_eq, binV, intBin, un_eq, unV, min_eq, max_eq, mmV, builtinA,  List.getElem?_toArray, List.getElem?_cons_succ, List.getElem?_cons_zero, List.getD_cons_zero, List.getD_cons_succ, List.size_toArray, List.toList_toArray, List.length_cons, List.length_nil, Option.bind_some, Option.map_some, Option.getD_some, Option.isSome_some, Nat.reduceLT, Nat.reduceEqDiff, Nat.reduceAdd, Nat.reduceSub, Nat.reduceMul, reduceIte, if_true, if_false, Bool.false_eq_true, reduceCtorEq, and_self, true_and, and_true, List.nil_append, List.cons_append, List.append_nil, Bool.not_true, Bool.not_false, t7], ?_⟩
      have := hT.set x (((xs.take j).foldl (fun l v => inc l v.toNat) (List.replicate N 1)).getD x 0 + 1)
      rw [List.take_succ_eq_append_getElem hlt, List.foldl_append, List.foldl_cons, List.foldl_nil, hx']
      exact this
    · have c1 : decide ((j : Int) < xs.length) = false := by simpa using hlt
      repeat (first | with_reducible refine W_seq ?_ | with_reducible refine W_block ?_ | with_reducible refine W_scope ?_ | ((first | with_reducible refine W_regionV hTT ?_ | with_reducible refine W_condV ?_ | with_reducible refine W_ret ?_ | with_reducible refine W_exit ?_ | with_reducible refine W_skip ?_ | with_reducible refine W_label ?_ | with_reducible refine W_drawV hTT (by kernel_rfl) ?_); simp only [und3, und4, und22, und24, und25, und35, und58, und61, info3, info4, info22, info24, info25, info35, info58, info61, aggT, VL_nil, VL_none, VX_false, VX_call, ic_value, VL_guard, VG_some, VG_none, gvV_bool, gvV_undef, VC_some, yieldedA_tl, gv, dstAt, VOp_some, ic_move, ic_assign, ic_pick, ic_alloc, ic_box, ic_build, ic_buildSlice, ic_load, ic_store, ic_nilCheck, ic_binOp, ic_unOp, ic_convert, ic_makeInterface, ic_makeFunc, ic_makeMap, ic_makeSlice, ic_slice, ic_fieldAddr, ic_field, ic_indexAddr, ic_index, ic_lookup, ic_mapUpdate, ic_insert, ic_extract, ic_builtin, KN_apply, Then_normal, Then_exit, Then_ret, Blk_normal, Blk_exit, Blk_ret, LoopQ_exit, LoopQ_ret, RetQ_ret, RetQ_normal, RetV_some, resA_nil, resA_tmp, tl_getD, tupA_one, tupA_two, VIf_true, VIf_false, aop, evalA_tmp, evalA_const, evalA_func, evalsA, partsA, evalO, plain_int, plain_bool, plain_string, plain_slnil, plain_nilFunc, plain_pnil, onev_some, one_some, oneu_some, updO, upd_def, ofArgs, bin_eq, binV, intBin, un_eq, unV, min_eq, max_eq, mmV, builtinA,  List.getElem?_toArray, List.getElem?_cons_succ, List.getElem?_cons_zero, List.getD_cons_zero, List.getD_cons_succ, List.size_toArray, List.toList_toArray, List.length_cons, List.length_nil, Option.bind_some, Option.map_some, Option.getD_some, Option.isSome_some, Nat.reduceLT, Nat.reduceEqDiff, Nat.reduceAdd, Nat.reduceSub, Nat.reduceMul, reduceIte, if_true, if_false, Bool.false_eq_true, reduceCtorEq, and_self, true_and, and_true, List.nil_append, List.cons_append, List.append_nil, Bool.not_true, Bool.not_false, t0, t1, t5, t7, hlS, c1]))
      have : j = xs.length := by omega
      subst this
      rw [List.take_length] at hT
      exact NQ_intro ⟨rfl, by simp only [und3, und4, und22, und24, und25, und35, und58, und61, info3, info4, info22, info24, info25, info35, info58, info61, aggT, VL_nil, VL_none, VX_false, VX_call, ic_value, VL_guard, VG_some, VG_none, gvV_bool, gvV_undef, VC_some, yieldedA_tl, gv, dstAt, VOp_some, ic_move, ic_assign, ic_pick, ic_alloc, ic_box, ic_build, ic_buildSlice, ic_load, ic_store, ic_nilCheck, ic_binOp, ic_unOp, ic_convert, ic_makeInterface, ic_makeFunc, ic_makeMap, ic_makeSlice, ic_slice, ic_fieldAddr, ic_field, ic_indexAddr, ic_index, ic_lookup, ic_mapUpdate, ic_insert, ic_extract, ic_builtin, KN_apply, Then_normal, Then_exit, Then_ret, Blk_normal, Blk_exit, Blk_ret, LoopQ_exit, LoopQ_ret, RetQ_ret, RetQ_normal, RetV_some, resA_nil, resA_tmp, tl_getD, tupA_one, tupA_two, VIf_true, VIf_false, aop, evalA_tmp, evalA_const, evalA_func, evalsA, partsA, evalO, plain_int, plain_bool, plain_string, plain_slnil, plain_nilFunc, plain_pnil, onev_some, one_some, oneu_some, updO, upd_def, ofArgs, bin_eq, binV, intBin, un_eq, unV, min_eq, max_eq, mmV, builtinA,  List.getElem?_toArray, List.getElem?_cons_succ, List.getElem?_cons_zero, List.getD_cons_zero, List.getD_cons_succ, List.size_toArray, List.toList_toArray, List.length_cons, List.length_nil, Option.bind_some, Option.map_some, Option.getD_some, Option.isSome_some, Nat.reduceLT, Nat.reduceEqDiff, Nat.reduceAdd, Nat.reduceSub, Nat.reduceMul, reduceIte, if_true, if_false, Bool.false_eq_true, reduceCtorEq, and_self, true_and, and_true, List.nil_append, List.cons_append, List.append_nil, Bool.not_true, Bool.not_false, t0], by simp only [und3, und4, und22, und24, und25, und35, und58, und61, info3, info4, info22, info24, info25, info35, info58, info61, aggT, VL_nil, VL_none, VX_false, VX_call, ic_value, VL_guard, VG_some, VG_none, gvV_bool, gvV_undef, VC_some, yieldedA_tl, gv, dstAt, VOp_some, ic_move, ic_assign, ic_pick, ic_alloc, ic_box, ic_build, ic_buildSlice, ic_load, ic_store, ic_nilCheck, ic_binOp, ic_unOp, ic_convert, ic_makeInterface, ic_makeFunc, ic_makeMap, ic_makeSlice, ic_slice, ic_fieldAddr, ic_field, ic_indexAddr, ic_index, ic_lookup, ic_mapUpdate, ic_insert, ic_extract, ic_builtin, KN_apply, Then_normal, Then_exit, Then_ret, Blk_normal, Blk_exit, Blk_ret, LoopQ_exit, LoopQ_ret, RetQ_ret, RetQ_normal, RetV_some, resA_nil, resA_tmp, tl_getD, tupA_one, tupA_two, VIf_true, VIf_false, aop, evalA_tmp, evalA_const, evalA_func, evalsA, partsA, evalO, plain_int, plain_bool, plain_string, plain_slnil, plain_nilFunc, plain_pnil, onev_some, one_some, oneu_some, updO, upd_def, ofArgs, bin_eq, binV, intBin, un_eq, unV, min_eq, max_eq, mmV, builtinA,  List.getElem?_toArray, List.getElem?_cons_succ, List.getElem?_cons_zero, List.getD_cons_zero, List.getD_cons_succ, List.size_toArray, List.toList_toArray, List.length_cons, List.length_nil, Option.bind_some, Option.map_some, Option.getD_some, Option.isSome_some, Nat.reduceLT, Nat.reduceEqDiff, Nat.reduceAdd, Nat.reduceSub, Nat.reduceMul, reduceIte, if_true, if_false, Bool.false_eq_true, reduceCtorEq, and_self, true_and, and_true, List.nil_append, List.cons_append, List.append_nil, Bool.not_true, Bool.not_false, t1], by simp only [und3, und4, und22, und24, und25, und35, und58, und61, info3, info4, info22, info24, info25, info35, info58, info61, aggT, VL_nil, VL_none, VX_false, VX_call, ic_value, VL_guard, VG_some, VG_none, gvV_bool, gvV_undef, VC_some, yieldedA_tl, gv, dstAt, VOp_some, ic_move, ic_assign, ic_pick, ic_alloc, ic_box, ic_build, ic_buildSlice, ic_load, ic_store, ic_nilCheck, ic_binOp, ic_unOp, ic_convert, ic_makeInterface, ic_makeFunc, ic_makeMap, ic_makeSlice, ic_slice, ic_fieldAddr, ic_field, ic_indexAddr, ic_index, ic_lookup, ic_mapUpdate, ic_insert, ic_extract, ic_builtin, KN_apply, Then_normal, Then_exit, Then_ret, Blk_normal, Blk_exit, Blk_ret, LoopQ_exit, LoopQ_ret, RetQ_ret, RetQ_normal, RetV_some, resA_nil, resA_tmp, tl_getD, tupA_one, tupA_two, VIf_true, VIf_false, aop, evalA_tmp, evalA_const, evalA_func, evalsA, partsA, evalO, plain_int, plain_bool, plain_string, plain_slnil, plain_nilFunc, plain_pnil, onev_some, one_some, oneu_some, updO, upd_def, ofArgs, bin_eq, binV, intBin, un_eq, unV, min_eq, max_eq, mmV, builtinA,  List.getElem?_toArray, List.getElem?_cons_succ, List.getElem?_cons_zero, List.getD_cons_zero, List.getD_cons_succ, List.size_toArray, List.toList_toArray, List.length_cons, List.length_nil, Option.bind_some, Option.map_some, Option.getD_some, Option.isSome_some, Nat.reduceLT, Nat.reduceEqDiff, Nat.reduceAdd, Nat.reduceSub, Nat.reduceMul, reduceIte, if_true, if_false, Bool.false_eq_true, reduceCtorEq, and_self, true_and, and_true, List.nil_append, List.cons_append, List.append_nil, Bool.not_true, Bool.not_false, t5], hT⟩
  clear hT t0 t1 t5
  rintro τ ds S2 ⟨rfl, t0, t1, t5, hT⟩
  (try simp only [und3, und4, und22, und24, und25, und35, und58, und61, info3, info4, info22, info24, info25, info35, info58, info61, aggT, VL_nil, VL_none, VX_false, VX_call, ic_value, VL_guard, VG_some, VG_none, gvV_bool, gvV_undef, VC_some, yieldedA_tl, gv, dstAt, VOp_some, ic_move, ic_assign, ic_pick, ic_alloc, ic_box, ic_build, ic_buildSlice, ic_load, ic_store, ic_nilCheck, ic_binOp, ic_unOp, ic_convert, ic_makeInterface, ic_makeFunc, ic_makeMap, ic_makeSlice, ic_slice, ic_fieldAddr, ic_field, ic_indexAddr, ic_index, ic_lookup, ic_mapUpdate, ic_insert, ic_extract, ic_builtin, KN_apply, Then_normal, Then_exit, Then_ret, Blk_normal, Blk_exit, Blk_ret, LoopQ_exit, LoopQ_ret, RetQ_ret, RetQ_normal, RetV_some, resA_nil, resA_tmp, tl_getD, tupA_one, tupA_two, VIf_true, VIf_false, aop, evalA_tmp, evalA_const, evalA_func, evalsA, partsA, evalO, plain_int, plain_bool, plain_string, plain_slnil, plain_nilFunc, plain_pnil, onev_some, one_some, oneu_some, updO, upd_def, ofArgs, bin_eq, binV, intBin, un_eq, unV, min_eq, max_eq, mmV, builtinA,  List.getElem?_toArray, List.getElem?_cons_succ, List.getElem?_cons_zero, List.getD_cons_zero, List.getD_cons_succ, List.size_toArray, List.toList_toArray, List.length_cons, List.length_nil, Option.bind_some, Option.map_some, Option.getD_some, Option.isSome_some, Nat.reduceLT, Nat.reduceEqDiff, Nat.reduceAdd, Nat.reduceSub, Nat.reduceMul, reduceIte, if_true, if_false, Bool.false_eq_true, reduceCtorEq, and_self, true_and, and_true, List.nil_append, List.cons_append, List.append_nil, Bool.not_true, Bool.not_false, t0, t1, t5]); repeat (first | with_reducible refine W_seq ?_ | with_reducible refine W_scope ?_ | ((first | with_reducible refine W_regionV hTT ?_ | with_reducible refine W_condV ?_ | with_reducible refine W_ret ?_ | with_reducible refine W_exit ?_ | with_reducible refine W_skip ?_ | with_reducible refine W_label ?_ | with_reducible refine W_drawV hTT (by kernel_rfl) ?_); simp only [und3, und4, und22, und24, und25, und35, und58, und61, info3, info4, info22, info24, info25, info35, info58, info61, aggT, VL_nil, VL_none, VX_false, VX_call, ic_value, VL_guard, VG_some, VG_none, gvV_bool, gvV_undef, VC_some, yieldedA_tl, gv, dstAt, VOp_some, ic_move, ic_assign, ic_pick, ic_alloc, ic_box, ic_build, ic_buildSlice, ic_load, ic_store, ic_nilCheck, ic_binOp, ic_unOp, ic_convert, ic_makeInterface, ic_makeFunc, ic_makeMap, ic_makeSlice, ic_slice, ic_fieldAddr, ic_field, ic_indexAddr, ic_index, ic_lookup, ic_mapUpdate, ic_insert, ic_extract, ic_builtin, KN_apply, Then_normal, Then_exit, Then_ret, Blk_normal, Blk_exit, Blk_ret, LoopQ_exit, LoopQ_ret, RetQ_ret, RetQ_normal, RetV_some, resA_nil, resA_tmp, tl_getD, tupA_one, tupA_two, VIf_true, VIf_false, aop, evalA_tmp, evalA_const, evalA_func, evalsA, partsA, evalO, plain_int, plain_bool, plain_string, plain_slnil, plain_nilFunc, plain_pnil, onev_some, one_some, oneu_some, updO, upd_def, ofArgs, bin_eq, binV, intBin, un_eq, unV, min_eq, max_eq, mmV, builtinA,  List.getElem?_toArray, List.getElem?_cons_succ, List.getElem?_cons_zero, List.getD_cons_zero, List.getD_cons_succ, List.size_toArray, List.toList_toArray, List.length_cons, List.length_nil, Option.bind_some, Option.map_some, Option.getD_some, Option.isSome_some, Nat.reduceLT, Nat.reduceEqDiff, Nat.reduceAdd, Nat.reduceSub, Nat.reduceMul, reduceIte, if_true, if_false, Bool.false_eq_true, reduceCtorEq, and_self, true_and, and_true, List.nil_append, List.cons_append, List.append_nil, Bool.not_true, Bool.not_false, t0, t1, t5]))
  -- the edges
  refine W_cut (fun τ ds S' => ds = [] ∧ τ 0 = .int .i64 N ∧ τ 5 = .slice (some ⟨S.n, 0, none⟩) N N ∧ AR S S' N (run0 N xs xs.length).2 ∧ ∃ vo, τ 9 = vo ∧ Mine S' 35 2 (S.n + 1) vo (pv (insAll (run0 N xs xs.length).1)) (insAll (run0 N xs xs.length).1).length) ?_ ?_
  · refine W_block ?_
    refine W_loopI (fun m τ ds S' => ds = [] ∧ ∃ j : Nat, m = xs.length - j ∧ j ≤ xs.length ∧ τ 0 = .int .i64 N ∧ τ 1 = vc ∧ τ 5 = .slice (some ⟨S.n, 0, none⟩) N N ∧ τ 10 = .int .i64 j ∧ AR S S' N (run0 N xs j).2 ∧ ∃ vo, τ 9 = vo ∧ Mine S' 35 2 (S.n + 1) vo (pv (insAll (run0 N xs j).1)) (insAll (run0 N xs j).1).length) xs.length ?_ ?_
    · refine ⟨rfl, 0, by simp, by simp, ?_, ?_, ?_, ?_, by simpa [run0] using hT, _, rfl, ?_⟩ <;> first | rfl | (simp only [und3, und4, und22, und24, und25, und35, und58, und61, info3, info4, info22, info24, info25, info35, info58, info61, aggT, VL_nil, VL_none, VX_false, VX_call, ic_value, VL_guard, VG_some, VG_none, gvV_bool, gvV_undef, VC_some, yieldedA_tl, gv, dstAt, VOp_some, ic_move, ic_assign, ic_pick, ic_alloc, ic_box, ic_build, ic_buildSlice, ic_load, ic_store, ic_nilCheck, ic_binOp, ic_unOp, ic_convert, ic_makeInterface, ic_makeFunc, ic_makeMap, ic_makeSlice, ic_slice, ic_fieldAddr, ic_field, ic_indexAddr, ic_index, ic_lookup, ic_mapUpdate, ic_insert, ic_extract, ic_builtin, KN_apply, Then_normal, Then_exit, Then_ret, Blk_normal, Blk_exit, Blk_ret, LoopQ_exit, LoopQ_ret, RetQ_ret, RetQ_normal, RetV_some, resA_nil, resA_tmp, tl_getD, tupA_one, tupA_two, VIf_true, VIf_false, aop, evalA_tmp, evalA_const, evalA_func, evalsA, partsA, evalO, plain_int, plain_bool, plain_string, plain_slnil, plain_nilFunc, plain_pnil, onev_some, one_some, oneu_some, updO, upd_def, ofArgs, bin_eq, binV, intBin, un_eq, unV, min_eq, max_eq, mmV, builtinA,  List.getElem?_toArray, List.getElem?_cons_succ, List.getElem?_cons_zero, List.getD_cons_zero, List.getD_cons_succ, List.size_toArray, List.toList_toArray, List.length_cons, List.length_nil, Option.bind_some, Option.map_some, Option.getD_some, Option.isSome_some, Nat.reduceLT, Nat.reduceEqDiff, Nat.reduceAdd, Nat.reduceSub, Nat.reduceMul, reduceIte, if_true, if_false, Bool.false_eq_true, reduceCtorEq, and_self, true_and, and_true, List.nil_append, List.cons_append, List.append_nil, Bool.not_true, Bool.not_false, t0, t1, t5]; done) | (simp only [und3, und4, und22, und24, und25, und35, und58, und61, info3, info4, info22, info24, info25, info35, info58, info61, aggT, VL_nil, VL_none, VX_false, VX_call, ic_value, VL_guard, VG_some, VG_none, gvV_bool, gvV_undef, VC_some, yieldedA_tl, gv, dstAt, VOp_some, ic_move, ic_assign, ic_pick, ic_alloc, ic_box, ic_build, ic_buildSlice, ic_load, ic_store, ic_nilCheck, ic_binOp, ic_unOp, ic_convert, ic_makeInterface, ic_makeFunc, ic_makeMap, ic_makeSlice, ic_slice, ic_fieldAddr, ic_field, ic_indexAddr, ic_index, ic_lookup, ic_mapUpdate, ic_insert, ic_extract, ic_builtin, KN_apply, Then_normal, Then_exit, Then_ret, Blk_normal, Blk_exit, Blk_ret, LoopQ_exit, LoopQ_ret, RetQ_ret, RetQ_normal, RetV_some, resA_nil, resA_tmp, tl_getD, tupA_one, tupA_two, VIf_true, VIf_false, aop, evalA_tmp, evalA_const, evalA_func, evalsA, partsA, evalO, plain_int, plain_bool, plain_string, plain_slnil, plain_nilFunc, plain_pnil, onev_some, one_some, oneu_some, updO, upd_def, ofArgs, bin_eq, binV, intBin, un_eq, unV, min_eq, max_eq, mmV, builtinA,  List.getElem?_toArray, List.getElem?_cons_succ, List.getElem?_cons_zero, List.getD_cons_zero, List.getD_cons_succ, List.size_toArray, List.toList_toArray, List.length_cons, List.length_nil, Option.bind_some, Option.map_some, Option.getD_some, Option.isSome_some, Nat.reduceLT, Nat.reduceEqDiff, Nat.reduceAdd, Nat.reduceSub, Nat.reduceMul, reduceIte, if_true, if_false, Bool.false_eq_true, reduceCtorEq, and_self, true_and, and_true, List.nil_append, List.cons_append, List.append_nil, Bool.not_true, Bool.not_false]; exact Mine.nil _ _ _ _)
    clear hT t0 t1 t5
    rintro m τ ds S' ⟨rfl, j, rfl, hj, t0, t1, t5, t10, hT, vo, t9, hM⟩
    have hxS : Sl S' 1 vc (iv xs) xs.length := hx.same fun b hb => hT.same b (hx.base hb)
    have hlS := hxS.len (T := TT) und22
    by_cases hlt : j < xs.length
    · have c1 : decide ((j : Int) < xs.length) = true := by simpa using hlt
      have hw := wrap_succ (k := j) (by omega)
      obtain ⟨q, q1, q2, _⟩ := hxS.at1 (T := TT) (k := .i64) und22 info3 und3 rfl rfl hlt
      rw [iv_get, List.getElem?_eq_getElem hlt] at q2
      have hr := hg.rng j hlt
      obtain ⟨x, hx'⟩ : ∃ x : Nat, xs[j] = (x : Int) := ⟨xs[j].toNat, by omega⟩
      have hxN : x < N := by omega
      rw [hx'] at q2
      have hlf := hg.leaf1 j hj
      obtain ⟨u, hu⟩ : ∃ u : Nat, leaf (run0 N xs j).2 = (u : Int) := ⟨(leaf (run0 N xs j).2).toNat, by omega⟩
      obtain ⟨s1, s2, s3⟩ := leaf_spec hu
      rw [hT.len] at s1
      (try simp only [und3, und4, und22, und24, und25, und35, und58, und61, info3, info4, info22, info24, info25, info35, info58, info61, aggT, VL_nil, VL_none, VX_false, VX_call, ic_value, VL_guard, VG_some, VG_none, gvV_bool, gvV_undef, VC_some, yieldedA_tl, gv, dstAt, VOp_some, ic_move, ic_assign, ic_pick, ic_alloc, ic_box, ic_build, ic_buildSlice, ic_load, ic_store, ic_nilCheck, ic_binOp, ic_unOp, ic_convert, ic_makeInterface, ic_makeFunc, ic_makeMap, ic_makeSlice, ic_slice, ic_fieldAddr, ic_field, ic_indexAddr, ic_index, ic_lookup, ic_mapUpdate, ic_insert, ic_extract, ic_builtin, KN_apply, Then_normal, Then_exit, Then_ret, Blk_normal, Blk_exit, Blk_ret, LoopQ_exit, LoopQ_ret, RetQ_ret, RetQ_normal, RetV_some, resA_nil, resA_tmp, tl_getD, tupA_one, tupA_two, VIf_true, VIf_false, aop, evalA_tmp, evalA_const, evalA_func, evalsA, partsA, evalO, plain_int, plain_bool, plain_string, plain_slnil, plain_nilFunc, plain_pnil, onev_some, one_some, oneu_some, updO, upd_def, ofArgs, bin_eq, binV, intBin, un_eq, unV, min_eq, max_eq, mmV, builtinA,  List.getElem?_toArray, List.getElem?_cons_succ, List.getElem?_cons_zero, List.getD_cons_zero, List.getD_cons_succ, List.size_toArray, List.toList_toArray, List.length_cons, List.length_nil, Option.bind_some, Option.map_some, Option.getD_some, Option.isSome_some, Nat.reduceLT, Nat.reduceEqDiff, Nat.reduceAdd, Nat.reduceSub, Nat.reduceMul, reduceIte, if_true, if_false, Bool.false_eq_true, reduceCtorEq, and_self, true_and, and_true, List.nil_append, List.cons_append, List.append_nil, Bool.not_true, Bool.not_false, t0, t1, t5, t9, t10, hlS, c1, hw]); repeat (first | with_reducible refine W_seq ?_ | with_reducible refine W_scope ?_ | ((first | with_reducible refine W_regionV hTT ?_ | with_reducible refine W_condV ?_ | with_reducible refine W_ret ?_ | with_reducible refine W_exit ?_ | with_reducible refine W_skip ?_ | with_reducible refine W_label ?_ | with_reducible refine W_drawV hTT (by kernel_rfl) ?_); simp only [und3, und4, und22, und24, und25, und35, und58, und61, info3, info4, info22, info24, info25, info35, info58, info61, aggT, VL_nil, VL_none, VX_false, VX_call, ic_value, VL_guard, VG_some, VG_none, gvV_bool, gvV_undef, VC_some, yieldedA_tl, gv, dstAt, VOp_some, ic_move, ic_assign, ic_pick, ic_alloc, ic_box, ic_build, ic_buildSlice, ic_load, ic_store, ic_nilCheck, ic_binOp, ic_unOp, ic_convert, ic_makeInterface, ic_makeFunc, ic_makeMap, ic_makeSlice, ic_slice, ic_fieldAddr, ic_field, ic_indexAddr, ic_index, ic_lookup, ic_mapUpdate, ic_insert, ic_extract, ic_builtin, KN_apply, Then_normal, Then_exit, Then_ret, Blk_normal, Blk_exit, Blk_ret, LoopQ_exit, LoopQ_ret, RetQ_ret, RetQ_normal, RetV_some, resA_nil, resA_tmp, tl_getD, tupA_one, tupA_two, VIf_true, VIf_false, aop, evalA_tmp, evalA_const, evalA_func, evalsA, partsA, evalO, plain_int, plain_bool, plain_string, plain_slnil, plain_nilFunc, plain_pnil, onev_some, one_some, oneu_some, updO, upd_def, ofArgs, bin_eq, binV, intBin, un_eq, unV, min_eq, max_eq, mmV, builtinA,  List.getElem?_toArray, List.getElem?_cons_succ, List.getElem?_cons_zero, List.getD_cons_zero, List.getD_cons_succ, List.size_toArray, List.toList_toArray, List.length_cons, List.length_nil, Option.bind_some, Option.map_some, Option.getD_some, Option.isSome_some, Nat.reduceLT, Nat.reduceEqDiff, Nat.reduceAdd, Nat.reduceSub, Nat.reduceMul, reduceIte, if_true, if_false, Bool.false_eq_true, reduceCtorEq, and_self, true_and, and_true, List.nil_append, List.cons_append, List.append_nil, Bool.not_true, Bool.not_false, t0, t1, t5, t9, t10, hlS, c1, hw]))
      refine W_block ?_
      (try simp only [und3, und4, und22, und24, und25, und35, und58, und61, info3, info4, info22, info24, info25, info35, info58, info61, aggT, VL_nil, VL_none, VX_false, VX_call, ic_value, VL_guard, VG_some, VG_none, gvV_bool, gvV_undef, VC_some, yieldedA_tl, gv, dstAt, VOp_some, ic_move, ic_assign, ic_pick, ic_alloc, ic_box, ic_build, ic_buildSlice, ic_load, ic_store, ic_nilCheck, ic_binOp, ic_unOp, ic_convert, ic_makeInterface, ic_makeFunc, ic_makeMap, ic_makeSlice, ic_slice, ic_fieldAddr, ic_field, ic_indexAddr, ic_index, ic_lookup, ic_mapUpdate, ic_insert, ic_extract, ic_builtin, KN_apply, Then_normal, Then_exit, Then_ret, Blk_normal, Blk_exit, Blk_ret, LoopQ_exit, LoopQ_ret, RetQ_ret, RetQ_normal, RetV_some, resA_nil, resA_tmp, tl_getD, tupA_one, tupA_two, VIf_true, VIf_false, aop, evalA_tmp, evalA_const, evalA_func, evalsA, partsA, evalO, plain_int, plain_bool, plain_string, plain_slnil, plain_nilFunc, plain_pnil, onev_some, one_some, oneu_some, updO, upd_def, ofArgs, bin_eq, binV, intBin, un_eq, unV, min_eq, max_eq, mmV, builtinA,  List.getElem?_toArray, List.getElem?_cons_succ, List.getElem?_cons_zero, List.getD_cons_zero, List.getD_cons_succ, List.size_toArray, List.toList_toArray, List.length_cons, List.length_nil, Option.bind_some, Option.map_some, Option.getD_some, Option.isSome_some, Nat.reduceLT, Nat.reduceEqDiff, Nat.reduceAdd, Nat.reduceSub, Nat.reduceMul, reduceIte, if_true, if_false, Bool.false_eq_true, reduceCtorEq, and_self, true_and, and_true, List.nil_append, List.cons_append, List.append_nil, Bool.not_true, Bool.not_false, t0, t1, t5, t9, t10]); repeat (first | with_reducible refine W_seq ?_ | with_reducible refine W_scope ?_ | ((first | with_reducible refine W_regionV hTT ?_ | with_reducible refine W_condV ?_ | with_reducible refine W_ret ?_ | with_reducible refine W_exit ?_ | with_reducible refine W_skip ?_ | with_reducible refine W_label ?_ | with_reducible refine W_drawV hTT (by kernel_rfl) ?_); simp only [und3, und4, und22, und24, und25, und35, und58, und61, info3, info4, info22, info24, info25, info35, info58, info61, aggT, VL_nil, VL_none, VX_false, VX_call, ic_value, VL_guard, VG_some, VG_none, gvV_bool, gvV_undef, VC_some, yieldedA_tl, gv, dstAt, VOp_some, ic_move, ic_assign, ic_pick, ic_alloc, ic_box, ic_build, ic_buildSlice, ic_load, ic_store, ic_nilCheck, ic_binOp, ic_unOp, ic_convert, ic_makeInterface, ic_makeFunc, ic_makeMap, ic_makeSlice, ic_slice, ic_fieldAddr, ic_field, ic_indexAddr, ic_index, ic_lookup, ic_mapUpdate, ic_insert, ic_extract, ic_builtin, KN_apply, Then_normal, Then_exit, Then_ret, Blk_normal, Blk_exit, Blk_ret, LoopQ_exit, LoopQ_ret, RetQ_ret, RetQ_normal, RetV_some, resA_nil, resA_tmp, tl_getD, tupA_one, tupA_two, VIf_true, VIf_false, aop, evalA_tmp, evalA_const, evalA_func, evalsA, partsA, evalO, plain_int, plain_bool, plain_string, plain_slnil, plain_nilFunc, plain_pnil, onev_some, one_some, oneu_some, updO, upd_def, ofArgs, bin_eq, binV, intBin, un_eq, unV, min_eq, max_eq, mmV, builtinA,  List.getElem?_toArray, List.getElem?_cons_succ, List.getElem?_cons_zero, List.getD_cons_zero, List.getD_cons_succ, List.size_toArray, List.toList_toArray, List.length_cons, List.length_nil, Option.bind_some, Option.map_some, Option.getD_some, Option.isSome_some, Nat.reduceLT, Nat.reduceEqDiff, Nat.reduceAdd, Nat.reduceSub, Nat.reduceMul, reduceIte, if_true, if_false, Bool.false_eq_true, reduceCtorEq, and_self, true_and, and_true, List.nil_append, List.cons_append, List.append_nil, Bool.not_true, Bool.not_false, t0, t1, t5, t9, t10]))
      refine W_cut (fun τ ds S2 => S2 = S' ∧ ds = [] ∧ τ 0 = .int .i64 N ∧ τ 1 = vc ∧ τ 5 = .slice (some ⟨S.n, 0, none⟩) N N ∧ τ 10 = .int .i64 j ∧ τ 9 = vo ∧ τ 11 = .int .i64 u) ?_ ?_
      · refine W_block ?_
        refine W_loopI (fun m τ ds S2 => S2 = S' ∧ ds = [] ∧ ∃ i : Nat, m = u - i ∧ i ≤ u ∧ τ 0 = .int .i64 N ∧ τ 1 = vc ∧ τ 5 = .slice (some ⟨S.n, 0, none⟩) N N ∧ τ 10 = .int .i64 j ∧ τ 9 = vo ∧ τ 11 = .int .i64 i) u ?_ ?_
        · refine ⟨rfl, rfl, 0, by simp, by simp, ?_, ?_, ?_, ?_, ?_, ?_⟩ <;> first | rfl | simp only [und3, und4, und22, und24, und25, und35, und58, und61, info3, info4, info22, info24, info25, info35, info58, info61, aggT, VL_nil, VL_none, VX_false, VX_call, ic_value, VL_guard, VG_some, VG_none, gvV_bool, gvV_undef, VC_some, yieldedA_tl, gv, dstAt, VOp_some, ic_move, ic_assign, ic_pick, ic_alloc, ic_box, ic_build, ic_buildSlice, ic_load, ic_store, ic_nilCheck, ic_binOp, ic_unOp, ic_convert, ic_makeInterface, ic_makeFunc, ic_makeMap, ic_makeSlice, ic_slice, ic_fieldAddr, ic_field, ic_indexAddr, ic_index, ic_lookup, ic_mapUpdate, ic_insert, ic_extract, ic_builtin, KN_apply, Then_normal, Then_exit, Then_ret, Blk_normal, Blk_exit, Blk_ret, LoopQ_exit, LoopQ_ret, RetQ_ret, RetQ_normal, RetV_some, resA_nil, resA_tmp, tl_getD, tupA_one, tupA_two, VIf_true, VIf_false, aop, evalA_tmp, evalA_const, evalA_func, evalsA, partsA, evalO, plain_int, plain_bool, plain_string, plain_slnil, plain_nilFunc, plain_pnil, onev_some, one_some, oneu_some, updO, upd_def, ofArgs, bin_eq, binV, intBin, un_eq, unV, min_eq, max_eq, mmV, builtinA,  List.getElem?_toArray, List.getElem?_cons_succ, List.getElem?_cons_zero, List.getD_cons_zero, List.getD_cons_succ, List.size_toArray, List.toList_toArray, List.length_cons, List.length_nil, Option.bind_some, Option.map_some, Option.getD_some, Option.isSome_some, Nat.reduceLT, Nat.reduceEqDiff, Nat.reduceAdd, Nat.reduceSub, Nat.reduceMul, reduceIte, if_true, if_false, Bool.false_eq_true, reduceCtorEq, and_self, true_and, and_true, List.nil_append, List.cons_append, List.append_nil, Bool.not_true, Bool.not_false, t0, t1, t5, t9, t10]
        clear t0 t1 t5 t9 t10
        rintro m τ ds S2 ⟨rfl, rfl, i, rfl, hi, t0, t1, t5, t10, t9, t11⟩
        have i1 := hT.idx (i := i) (by omega) (k := .i64)
        have g1 := hT.get (i := i) (by omega)
        have hw2 := wrap_succ (k := i) (by omega)
        by_cases hiu : i < u
        · have c2 : ((run0 N xs j).2.getD i 0 != 1) = true := by simpa using s3 i hiu
          repeat (first | with_reducible refine W_seq ?_ | with_reducible refine W_block ?_ | with_reducible refine W_scope ?_ | ((first | with_reducible refine W_regionV hTT ?_ | with_reducible refine W_condV ?_ | with_reducible refine W_ret ?_ | with_reducible refine W_exit ?_ | with_reducible refine W_skip ?_ | with_reducible refine W_label ?_ | with_reducible refine W_drawV hTT (by kernel_rfl) ?_); simp only [und3, und4, und22, und24, und25, und35, und58, und61, info3, info4, info22, info24, info25, info35, info58, info61, aggT, VL_nil, VL_none, VX_false, VX_call, ic_value, VL_guard, VG_some, VG_none, gvV_bool, gvV_undef, VC_some, yieldedA_tl, gv, dstAt, VOp_some, ic_move, ic_assign, ic_pick, ic_alloc, ic_box, ic_build, ic_buildSlice, ic_load, ic_store, ic_nilCheck, ic_binOp, ic_unOp, ic_convert, ic_makeInterface, ic_makeFunc, ic_makeMap, ic_makeSlice, ic_slice, ic_fieldAddr, ic_field, ic_indexAddr, ic_index, ic_lookup, ic_mapUpdate, ic_insert, ic_extract, ic_builtin, KN_apply, Then_normal, Then_exit, Then_ret, Blk_normal, Blk_exit, Blk_ret, LoopQ_exit, LoopQ_ret, RetQ_ret, RetQ_normal, RetV_some, resA_nil, resA_tmp, tl_getD, tupA_one, tupA_two, VIf_true, VIf_false, aop, evalA_tmp, evalA_const, evalA_func, evalsA, partsA, evalO, plain_int, plain_bool, plain_string, plain_slnil, plain_nilFunc, plain_pnil, onev_some, one_some, oneu_some, updO, upd_def, ofArgs, bin_eq, binV, intBin, un_eq, unV, min_eq, max_eq, mmV, builtinA,  List.getElem?_toArray, List.getElem?_cons_succ, List.getElem?_cons_zero, List.getD_cons_zero, List.getD_cons_succ, List.size_toArray, List.toList_toArray, List.length_cons, List.length_nil, Option.bind_some, Option.map_some, Option.getD_some, Option.isSome_some, Nat.reduceLT, Nat.reduceEqDiff, Nat.reduceAdd, Nat.reduceSub, Nat.reduceMul, reduceIte, if_true, if_false, Bool.false_eq_true, reduceCtorEq, and_self, true_and, and_true, List.nil_append, List.cons_append, List.append_nil, Bool.not_true, Bool.not_false, t0, t1, t5, t9, t10, t11, i1, g1, c2, hw2]))
          exact LoopQ_intro (u - (i + 1)) (by omega) ⟨rfl, rfl, i + 1, rfl, by omega, by simp only [und3, und4, und22, und24, und25, und35, und58, und61, info3, info4, info22, info24, info25, info35, info58, info61, aggT, VL_nil, VL_none, VX_false, VX_call, ic_value, VL_guard, VG_some, VG_none, gvV_bool, gvV_undef, VC_some, yieldedA_tl, gv, dstAt, VOp_some, ic_move, ic_assign, ic_pick, ic_alloc, ic_box, ic_build, ic_buildSlice, ic_load, ic_store, ic_nilCheck, ic_binOp, ic_unOp, ic_convert, ic_makeInterface, ic_makeFunc, ic_makeMap, ic_makeSlice, ic_slice, ic_fieldAddr, ic_field, ic_indexAddr, ic_index, ic_lookup, ic_mapUpdate, ic_insert, ic_extract, ic_builtin, KN_apply, Then_normal, Then_exit, Then_ret, Blk_normal, Blk_exit, Blk_ret, LoopQ_exit, LoopQ_ret, RetQ_ret, RetQ_normal, RetV_some, resA_nil, resA_tmp, tl_getD, tupA_one, tupA_two, VIf_true, VIf_false, aop, evalA_tmp, evalA_const, evalA_func, evalsA, partsA, evalO, plain_int, plain_bool, plain_string, plain_slnil, plain_nilFunc, plain_pnil, onev_some, one_some, oneu_some, updO, upd_def, ofArgs, bin_eq, binV, intBin, un_eq, unV, min_eq, max_eq, mmV, builtinA,  List.getElem?_toArray, List.getElem?_cons_succ, List.getElem?_cons_zero, List.getD_cons_zero, List.getD_cons_succ, List.size_toArray, List.toList_toArray, List.length_cons, List.length_nil, Option.bind_some, Option.map_some, Option.getD_some, Option.isSome_some, Nat.reduceLT, Nat.reduceEqDiff, Nat.reduceAdd, Nat.reduceSub, Nat.reduceMul, reduceIte, if_true, if_false, Bool.false_eq_true, reduceCtorEq, and_self, true_and, and_true, List.nil_append, List.cons_append, List.append_nil, Bool.not_true, Bool.not_false, t0], by simp only [und3, und4, und22, und24, und25, und35, und58, und61, info3, info4, info22, info24, info25, info35, info58, info61, aggT, VL_nil, VL_none, VX_false, VX_call, ic_value, VL_guard, VG_some, VG_none, gvV_bool, gvV_undef, VC_some, yieldedA_tl, gv, dstAt, VOp_some, ic_move, ic_assign, ic_pick, ic_alloc, ic_box, ic_build, ic_buildSlice, ic_load, ic_store, ic_nilCheck, ic_binOp, ic_unOp, ic_convert, ic_makeInterface, ic_makeFunc, ic_makeMap, ic_makeSlice, ic_slice, ic_fieldAddr, ic_field, ic_indexAddr, ic_index, ic_lookup, ic_mapUpdate, ic_insert, ic_extract, ic_builtin, KN_apply, Then_normal, Then_exit, Then_ret, Blk_normal, Blk_exit, Blk_ret, LoopQ_exit, LoopQ_ret, RetQ_ret, RetQ_normal, RetV_some, resA_nil, resA_tmp, tl_getD, tupA_one, tupA_two, VIf_true, VIf_false, aop, evalA_tmp, evalA_const, evalA_func, evalsA, partsA, evalO, plain_int, plain_bool, plain_string, plain_slnil, plain_nilFunc, plain_pnil, onev_some, one_some, oneu_some, updO, upd_def, ofArgs, bin_eq, binV, intBin, un_eq, unV, min_eq, max_eq, mmV, builtinA,  List.getElem?_toArray, List.getElem?_cons_succ, List.getElem?_cons_zero, List.getD_cons_zero, List.getD_cons_succ, List.size_toArray, List.toList_toArray, List.length_cons, List.length_nil, Option.bind_some, Option.map_some, Option.getD_some, Option.isSome_some, Nat.reduceLT, Nat.reduceEqDiff, Nat.reduceAdd, Nat.reduceSub, Nat.reduceMul, reduceIte, if_true, if_false, Bool.false_eq_true, reduceCtorEq, and_self, true_and, and_true, List.nil_append, List.cons_append, List.append_nil, Bool.not_true, Bool.not_false, t1], by simp only [und3, und4, und22, und24, und25, und35, und58, und61, info3, info4, info22, info24, info25, info35, info58, info61, aggT, VL_nil, VL_none, VX_false, VX_call, ic_value, VL_guard, VG_some, VG_none, gvV_bool, gvV_undef, VC_some, yieldedA_tl, gv, dstAt, VOp_some, ic_move, ic_assign, ic_pick, ic_alloc, ic_box, ic_build, ic_buildSlice, ic_load, ic_store, ic_nilCheck, ic_binOp, ic_unOp, ic_convert, ic_makeInterface, ic_makeFunc, ic_makeMap, ic_makeSlice, ic_slice, ic_fieldAddr, ic_field, ic_indexAddr, ic_index, ic_lookup, ic_mapUpdate, ic_insert, ic_extract, ic_builtin, KN_apply, Then_normal, Then_exit, Then_ret, Blk_normal, Blk_exit, Blk_ret, LoopQ_exit, LoopQ_ret, RetQ_ret, RetQ_normal, RetV_some, resA_nil, resA_tmp, tl_getD, tupA_one, tupA_two, VIf_true, VIf_false, aop, evalA_tmp, evalA_const, evalA_func, evalsA, partsA, evalO, plain_int, plain_bool, plain_string, plain_slnil, plain_nilFunc, plain_pnil, onev_some, one_some, oneu_some, updO, upd_def, ofArgs, bin_eq, binV, intBin, un_eq, unV, min_eq, max_eq, mmV, builtinA,  List.getElem?_toArray, List.getElem?_cons_succ, List.getElem?_cons_zero, List.getD_cons_zero, List.getD_cons_succ, List.size_toArray, List.toList_toArray, List.length_cons, List.length_nil, Option.bind_some, Option.map_some, Option.getD_some, Option.isSome_some, Nat.reduceLT, Nat.reduceEqDiff, Nat.reduceAdd, Nat.reduceSub, Nat.reduceMul, reduceIte, if_true, if_false, Bool.false_eq_true, reduceCtorEq, and_self, true_and, and_true, List.nil_append, List.cons_append, List.append_nil, Bool.not_true, Bool.not_false, t5], by simp only [und3, und4, und22, und24, und25, und35, und58, und61, info3, info4, info22, info24, info25, info35, info58, info61, aggT, VL_nil, VL_none, VX_false, VX_call, ic_value, VL_guard, VG_some, VG_none, gvV_bool, gvV_undef, VC_some, yieldedA_tl, gv, dstAt, VOp_some, ic_move, ic_assign, ic_pick, ic_alloc, ic_box, ic_build, ic_buildSlice, ic_load, ic_store, ic_nilCheck, ic_binOp, ic_unOp, ic_convert, ic_makeInterface, ic_makeFunc, ic_makeMap, ic_makeSlice, ic_slice, ic_fieldAddr, ic_field, ic_indexAddr, ic_index, ic_lookup, ic_mapUpdate, ic_insert, ic_extract, ic_builtin, KN_apply, Then_normal, Then_exit, Then_ret, Blk_normal, Blk_exit, Blk_ret, LoopQ_exit, LoopQ_ret, RetQ_ret, RetQ_normal, RetV_some, resA_nil, resA_tmp, tl_getD, tupA_one, tupA_two, VIf_true, VIf_false, aop, evalA_tmp, evalA_const, evalA_func, evalsA, partsA, evalO, plain_int, plain_bool, plain_string, plain_slnil, plain_nilFunc, plain_pnil, onev_some, one_some, oneu_some, updO, upd_def, ofArgs, bin_eq, binV, intBin, un_eq, unV, min_eq, max_eq, mmV, builtinA,  List.getElem?_toArray, List.getElem?_cons_succ, List.getElem?_cons_zero, List.getD_cons_zero, List.getD_cons_succ, List.size_toArray, List.toList_toArray, List.length_cons, List.length_nil, Option.bind_some, Option.map_some, Option.getD_some, Option.isSome_some, Nat.reduceLT, Nat.reduceEqDiff, Nat.reduceAdd, Nat.reduceSub, Nat.reduceMul, reduceIte, if_true, if_false, Bool.false_eq_true, reduceCtorEq, and_self, true_and, and_true, List.nil_append, List.cons_append, List.append_nil, Bool.not_true, Bool.not_false, t10], by simp only [und3, und4, und22, und24, und25, und35, und58, und61, info3, info4, info22, info24, info25, info35, info58, info61, aggT, VL_nil, VL_none, VX_false, VX_call, ic_value, VL_guard, VG_some, VG_none, gvV_bool, gvV_undef, VC_some, yieldedA_tl, gv, dstAt, VOp_some, ic_move, ic_assign, ic_pick, ic_alloc, ic_box, ic_build, ic_buildSlice, ic_load, ic_store, ic_nilCheck, ic_binOp, ic_unOp, ic_convert, ic_makeInterface, ic_makeFunc, ic_makeMap, ic_makeSlice, ic_slice, ic_fieldAddr, ic_field, ic_indexAddr, ic_index, ic_lookup, ic_mapUpdate, ic_insert, ic_extract, ic_builtin, KN_apply, Then_normal, Then_exit, Then_ret, Blk_normal, Blk_exit, Blk_ret, LoopQ_exit, LoopQ_ret, RetQ_ret, RetQ_normal, RetV_some, resA_nil, resA_tmp, tl_getD, tupA_one, tupA_two, VIf_true, VIf_false, aop, evalA_tmp, evalA_const, evalA_func, evalsA, partsA, evalO, plain_int, plain_bool, plain_string, plain_slnil, plain_nilFunc, plain_pnil, onev_some, one_some, oneu_some, updO, upd_def, ofArgs, bin_eq, binV, intBin, un_eq, unV, min_eq, max_eq, mmV, builtinA,  List.getElem?_toArray, List.getElem?_cons_succ, List.getElem?_cons_zero, List.getD_cons_zero, List.getD_cons_succ, List.size_toArray, List.toList_toArray, List.length_cons, List.length_nil, Option.bind_some, Option.map_some, Option.getD_some, Option.isSome_some, Nat.reduceLT, Nat.reduceEqDiff, Nat.reduceAdd, Nat.reduceSub, Nat.reduceMul, reduceIte, if_true, if_false, Bool.false_eq_true, reduceCtorEq, and_self, true_and, and_true, List.nil_append, List.cons_append, List.append_nil, Bool.not_true, Bool.not_false, t9], by simp only [und3, und4, und22, und24, und25, und35, und58, und61, info3, info4, info22, info24, info25, info35, info58, info61, aggT, VL_nil, VL_none, VX_false, VX_call, ic_value, VL_guard, VG_some, VG_none, gvV_bool, gvV_undef, VC_some, yieldedA_tl, gv, dstAt, VOp_some, ic_move, ic_assign, ic_pick, ic_alloc, ic_box, ic_build, ic_buildSlice, ic_load, ic_store, ic_nilCheck, ic_binOp, ic_unOp, ic_convert, ic_makeInterface, ic_makeFunc, ic_makeMap, ic_makeSlice, ic_slice, ic_fieldAddr, ic_field, ic_indexAddr, ic_index, ic_lookup, ic_mapUpdate, ic_insert, ic_extract, ic_builtin, KN_apply, Then_normal, Then_exit, Then_ret, Blk_normal, Blk_exit, Blk_ret, LoopQ_exit, LoopQ_ret, RetQ_ret, RetQ_normal, RetV_some, resA_nil, resA_tmp, tl_getD, tupA_one, tupA_two, VIf_true, VIf_false, aop, evalA_tmp, evalA_const, evalA_func, evalsA, partsA, evalO, plain_int, plain_bool, plain_string, plain_slnil, plain_nilFunc, plain_pnil, onev_some, one_some, oneu_some, updO, upd_def, ofArgs, bin_eq, binV, intBin, un_eq, unV, min_eq, max_eq, mmV, builtinA,  List.getElem?_toArray, List.getElem?_cons_succ, List.getElem?_cons_zero, List.getD_cons_zero, List.getD_cons_succ, List.size_toArray, List.toList_toArray, List.length_cons, List.length_nil, Option.bind_some, Option.map_some, Option.getD_some, Option.isSome_some, Nat.reduceLT, Nat.reduceEqDiff, Nat.reduceAdd, Nat.reduceSub, Nat.reduceMul, reduceIte, if_true, if_false, Bool.false_eq_true, reduceCtorEq, and_self, true_and, and_true, List.nil_append, List.cons_append, List.append_nil, Bool.not_true, Bool.not_false, t11]⟩
        · have : i = u := by omega
          subst this
          have c2 : ((run0 N xs j).2.getD i 0 != 1) = false := by simpa using s2
          repeat (first | with_reducible refine W_seq ?_ | with_reducible refine W_block ?_ | with_reducible refine W_scope ?_ | ((first | with_reducible refine W_regionV hTT ?_ | with_reducible refine W_condV ?_ | with_reducible refine W_ret ?_ | with_reducible refine W_exit ?_ | with_reducible refine W_skip ?_ | with_reducible refine W_label ?_ | with_reducible refine W_drawV hTT (by kernel_rfl) ?_); simp only [und3, und4, und22, und24, und25, und35, und58, und61, info3, info4, info22, info24, info25, info35, info58, info61, aggT, VL_nil, VL_none, VX_false, VX_call, ic_value, VL_guard, VG_some, VG_none, gvV_bool, gvV_undef, VC_some, yieldedA_tl, gv, dstAt, VOp_some, ic_move, ic_assign, ic_pick, ic_alloc, ic_box, ic_build, ic_buildSlice, ic_load, ic_store, ic_nilCheck, ic_binOp, ic_unOp, ic_convert, ic_makeInterface, ic_makeFunc, ic_makeMap, ic_makeSlice, ic_slice, ic_fieldAddr, ic_field, ic_indexAddr, ic_index, ic_lookup, ic_mapUpdate, ic_insert, ic_extract, ic_builtin, KN_apply, Then_normal, Then_exit, Then_ret, Blk_normal, Blk_exit, Blk_ret, LoopQ_exit, LoopQ_ret, RetQ_ret, RetQ_normal, RetV_some, resA_nil, resA_tmp, tl_getD, tupA_one, tupA_two, VIf_true, VIf_false, aop, evalA_tmp, evalA_const, evalA_func, evalsA, partsA, evalO, plain_int, plain_bool, plain_string, plain_slnil, plain_nilFunc, plain_pnil, onev_some, one_some, oneu_some, updO, upd_def, ofArgs, bin_eq, binV, intBin, un_eq, unV, min_eq, max_eq, mmV, builtinA,  List.getElem?_toArray, List.getElem?_cons_succ, List.getElem?_cons_zero, List.getD_cons_zero, List.getD_cons_succ, List.size_toArray, List.toList_toArray, List.length_cons, List.length_nil, Option.bind_some, Option.map_some, Option.getD_some, Option.isSome_some, Nat.reduceLT, Nat.reduceEqDiff, Nat.reduceAdd, Nat.reduceSub, Nat.reduceMul, reduceIte, if_true, if_false, Bool.false_eq_true, reduceCtorEq, and_self, true_and, and_true, List.nil_append, List.cons_append, List.append_nil, Bool.not_true, Bool.not_false, t0, t1, t5, t9, t10, t11, i1, g1, c2, hw2]))
          exact NQ_intro ⟨rfl, rfl, by simp only [und3, und4, und22, und24, und25, und35, und58, und61, info3, info4, info22, info24, info25, info35, info58, info61, aggT, VL_nil, VL_none, VX_false, VX_call, ic_value, VL_guard, VG_some, VG_none, gvV_bool, gvV_undef, VC_some, yieldedA_tl, gv, dstAt, VOp_some, ic_move, ic_assign, ic_pick, ic_alloc, ic_box, ic_build, ic_buildSlice, ic_load, ic_store, ic_nilCheck, ic_binOp, ic_unOp, ic_convert, ic_makeInterface, ic_makeFunc, ic_makeMap, ic_makeSlice, ic_slice, ic_fieldAddr, ic_field, ic_indexAddr, ic_index, ic_lookup, ic_mapUpdate, ic_insert, ic_extract, ic_builtin, KN_apply, Then_normal, Then_exit, Then_ret, Blk_normal, Blk_exit, Blk_ret, LoopQ_exit, LoopQ_ret, RetQ_ret, RetQ_normal, RetV_some, resA_nil, resA_tmp, tl_getD, tupA_one, tupA_two, VIf_true, VIf_false, aop, evalA_tmp, evalA_const, evalA_func, evalsA, partsA, evalO, plain_int, plain_bool, plain_string, plain_slnil, plain_nilFunc, plain_pnil, onev_some, one_some, oneu_some, updO, upd_def, ofArgs, bin_eq, binV, intBin, un_eq, unV, min_eq, max_eq, mmV, builtinA,  List.getElem?_toArray, List.getElem?_cons_succ, List.getElem?_cons_zero, List.getD_cons_zero, List.getD_cons_succ, List.size_toArray, List.toList_toArray, List.length_cons, List.length_nil, Option.bind_some, Option.map_some, Option.getD_some, Option.isSome_some, Nat.reduceLT, Nat.reduceEqDiff, Nat.reduceAdd, Nat.reduceSub, Nat.reduceMul, reduceIte, if_true, if_false, Bool.false_eq_true, reduceCtorEq, and_self, true_and, and_true, List.nil_append, List.cons_append, List.append_nil, Bool.not_true, Bool.not_false, t0], by simp only [und3, und4, und22, und24, und25, und35, und58, und61, info3, info4, info22, info24, info25, info35, info58, info61, aggT, VL_nil, VL_none, VX_false, VX_call, ic_value, VL_guard, VG_some, VG_none, gvV_bool, gvV_undef, VC_some, yieldedA_tl, gv, dstAt, VOp_some, ic_move, ic_assign, ic_pick, ic_alloc, ic_box, ic_build, ic_buildSlice, ic_load, ic_store, ic_nilCheck, ic_binOp, ic_unOp, ic_convert, ic_makeInterface, ic_makeFunc, ic_makeMap, ic_makeSlice, ic_slice, ic_fieldAddr, ic_field, ic_indexAddr, ic_index, ic_lookup, ic_mapUpdate, ic_insert, ic_extract, ic_builtin, KN_apply, Then_normal, Then_exit, Then_ret, Blk_normal, Blk_exit, Blk_ret, LoopQ_exit, LoopQ_ret, RetQ_ret, RetQ_normal, RetV_some, resA_nil, resA_tmp, tl_getD, tupA_one, tupA_two, VIf_true, VIf_false, aop, evalA_tmp, evalA_const, evalA_func, evalsA, partsA, evalO, plain_int, plain_bool, plain_string, plain_slnil, plain_nilFunc, plain_pnil, onev_some, one_some, oneu_some, updO, upd_def, ofArgs, bin_eq, binV, intBin, un_eq, unV, min_eq, max_eq, mmV, builtinA,  List.getElem?_toArray, List.getElem?_cons_succ, List.getElem?_cons_zero, List.getD_cons_zero, List.getD_cons_succ, List.size_toArray, List.toList_toArray, List.length_cons, List.length_nil, Option.bind_some, Option.map_some, Option.getD_some, Option.isSome_some, Nat.reduceLT, Nat.reduceEqDiff, Nat.reduceAdd, Nat.reduceSub, Nat.reduceMul, reduceIte, if_true, if_false, Bool.false_eq_true, reduceCtorEq, and_self, true_and, and_true, List.nil_append, List.cons_append, List.append_nil, Bool.not_true, Bool.not_false, t1], by simp only [und3, und4, und22, und24, und25, und35, und58, und61, info3, info4, info22, info24, info25, info35, info58, info61, aggT, VL_nil, VL_none, VX_false, VX_call, ic_value, VL_guard, VG_some, VG_none, gvV_bool, gvV_undef, VC_some, yieldedA_tl, gv, dstAt, VOp_some, ic_move, ic_assign, ic_pick, ic_alloc, ic_box, ic_build, ic_buildSlice, ic_load, ic_store, ic_nilCheck, ic_binOp, ic_unOp, ic_convert, ic_makeInterface, ic_makeFunc, ic_makeMap, ic_makeSlice, ic_slice, ic_fieldAddr, ic_field, ic_indexAddr, ic_index, ic_lookup, ic_mapUpdate, ic_insert, ic_extract, ic_builtin, KN_apply, Then_normal, Then_exit, Then_ret, Blk_normal, Blk_exit, Blk_ret, LoopQ_exit, LoopQ_ret, RetQ_ret, RetQ_normal, RetV_some, resA_nil, resA_tmp, tl_getD, tupA_one, tupA_two, VIf_true, VIf_false, aop, evalA_tmp, evalA_const, evalA_func, evalsA, partsA, evalO, plain_int, plain_bool, plain_string, plain_slnil, plain_nilFunc, plain_pnil, onev_some, one_some, oneu_some, updO, upd_def, ofArgs, bin_eq, binV, intBin, un_eq, unV, min_eq, max_eq, mmV, builtinA,  List.getElem?_toArray, List.getElem?_cons_succ, List.getElem?_cons_zero, List.getD_cons_zero, List.getD_cons_succ, List.size_toArray, List.toList_toArray, List.length_cons, List.length_nil, Option.bind_some, Option.map_some, Option.getD_some, Option.isSome_some, Nat.reduceLT, Nat.reduceEqDiff, Nat.reduceAdd, Nat.reduceSub, Nat.reduceMul, reduceIte, if_true, if_false, Bool.false_eq_true, reduceCtorEq, and_self, true_and, and_true, List.nil_append, List.cons_append, List.append_nil, Bool.not_true, Bool.not_false, t5], by simp only [und3, und4, und22, und24, und25, und35, und58, und61, info3, info4, info22, info24, info25, info35, info58, info61, aggT, VL_nil, VL_none, VX_false, VX_call, ic_value, VL_guard, VG_some, VG_none, gvV_bool, gvV_undef, VC_some, yieldedA_tl, gv, dstAt, VOp_some, ic_move, ic_assign, ic_pick, ic_alloc, ic_box, ic_build, ic_buildSlice, ic_load, ic_store, ic_nilCheck, ic_binOp, ic_unOp, ic_convert, ic_makeInterface, ic_makeFunc, ic_makeMap, ic_makeSlice, ic_slice, ic_fieldAddr, ic_field, ic_indexAddr, ic_index, ic_lookup, ic_mapUpdate, ic_insert, ic_extract, ic_builtin, KN_apply, Then_normal, Then_exit, Then_ret, Blk_normal, Blk_exit, Blk_ret, LoopQ_exit, LoopQ_ret, RetQ_ret, RetQ_normal, RetV_some, resA_nil, resA_tmp, tl_getD, tupA_one, tupA_two, VIf_true, VIf_false, aop, evalA_tmp, evalA_const, evalA_func, evalsA, partsA, evalO, plain_int, plain_bool, plain_string, plain_slnil, plain_nilFunc, plain_pnil, onev_some, one_some, oneu_some, updO, upd_def, ofArgs, bin_eq, binV, intBin, un_eq, unV, min_eq, max_eq, mmV, builtinA,  List.getElem?_toArray, List.getElem?_cons_succ, List.getElem?_cons_zero, List.getD_cons_zero, List.getD_cons_succ, List.size_toArray, List.toList_toArray, List.length_cons, List.length_nil, Option.bind_some, Option.map_some, Option.getD_some, Option.isSome_some, Nat.reduceLT, Nat.reduceEqDiff, Nat.reduceAdd, Nat.reduceSub, Nat.reduceMul, reduceIte, if_true, if_false, Bool.false_eq_true, reduceCtorEq, and_self, true_and, and_true, List.nil_append, List.cons_append, List.append_nil, Bool.not_true, Bool.not_false, t10], by simp only [und3, und4, und22, und24, und25, und35, und58, und61, info3, info4, info22, info24, info25, info35, info58, info61, aggT, VL_nil, VL_none, VX_false, VX_call, ic_value, VL_guard, VG_some, VG_none, gvV_bool, gvV_undef, VC_some, yieldedA_tl, gv, dstAt, VOp_some, ic_move, ic_assign, ic_pick, ic_alloc, ic_box, ic_build, ic_buildSlice, ic_load, ic_store, ic_nilCheck, ic_binOp, ic_unOp, ic_convert, ic_makeInterface, ic_makeFunc, ic_makeMap, ic_makeSlice, ic_slice, ic_fieldAddr, ic_field, ic_indexAddr, ic_index, ic_lookup, ic_mapUpdate, ic_insert, ic_extract, ic_builtin, KN_apply, Then_normal, Then_exit, Then_ret, Blk_normal, Blk_exit, Blk_ret, LoopQ_exit, LoopQ_ret, RetQ_ret, RetQ_normal, RetV_some, resA_nil, resA_tmp, tl_getD, tupA_one, tupA_two, VIf_true, VIf_false, aop, evalA_tmp, evalA_const, evalA_func, evalsA, partsA, evalO, plain_int, plain_bool, plain_string, plain_slnil, plain_nilFunc, plain_pnil, onev_some, one_some, oneu_some, updO, upd_def, ofArgs, bin_eq, binV, intBin, un_eq, unV, min_eq, max_eq, mmV, builtinA,  List.getElem?_toArray, List.getElem?_cons_succ, List.getElem?_cons_zero, List.getD_cons_zero, List.getD_cons_succ, List.size_toArray, List.toList_toArray, List.length_cons, List.length_nil, Option.bind_some, Option.map_some, Option.getD_some, Option.isSome_some, Nat.reduceLT, Nat.reduceEqDiff, Nat.reduceAdd, Nat.reduceSub, Nat.reduceMul, reduceIte, if_true, if_false, Bool.false_eq_true, reduceCtorEq, and_self, true_and, and_true, List.nil_append, List.cons_append, List.append_nil, Bool.not_true, Bool.not_false, t9], by simp only [und3, und4, und22, und24, und25, und35, und58, und61, info3, info4, info22, info24, info25, info35, info58, info61, aggT, VL_nil, VL_none, VX_false, VX_call, ic_value, VL_guard, VG_some, VG_none, gvV_bool, gvV_undef, VC_some, yieldedA_tl, gv, dstAt, VOp_some, ic_move, ic_assign, ic_pick, ic_alloc, ic_box, ic_build, ic_buildSlice, ic_load, ic_store, ic_nilCheck, ic_binOp, ic_unOp, ic_convert, ic_makeInterface, ic_makeFunc, ic_makeMap, ic_makeSlice, ic_slice, ic_fieldAddr, ic_field, ic_indexAddr, ic_index, ic_lookup, ic_mapUpdate, ic_insert, ic_extract, ic_builtin, KN_apply, Then_normal, Then_exit, Then_ret, Blk_normal, Blk_exit, Blk_ret, LoopQ_exit, LoopQ_ret, RetQ_ret, RetQ_normal, RetV_some, resA_nil, resA_tmp, tl_getD, tupA_one, tupA_two, VIf_true, VIf_false, aop, evalA_tmp, evalA_const, evalA_func, evalsA, partsA, evalO, plain_int, plain_bool, plain_string, plain_slnil, plain_nilFunc, plain_pnil, onev_some, one_some, oneu_some, updO, upd_def, ofArgs, bin_eq, binV, intBin, un_eq, unV, min_eq, max_eq, mmV, builtinA,  List.getElem?_toArray, List.getElem?_cons_succ, List.getElem?_cons_zero, List.getD_cons_zero, List.getD_cons_succ, List.size_toArray, List.toList_toArray, List.length_cons, List.length_nil, Option.bind_some, Option.map_some, Option.getD_some, Option.isSome_some, Nat.reduceLT, Nat.reduceEqDiff, Nat.reduceAdd, Nat.reduceSub, Nat.reduceMul, reduceIte, if_true, if_false, Bool.false_eq_true, reduceCtorEq, and_self, true_and, and_true, List.nil_append, List.cons_append, List.append_nil, Bool.not_true, Bool.not_false, t11]⟩
      clear t0 t1 t5 t9 t10
      rintro τ ds S2 ⟨rfl, rfl, t0, t1, t5, t10, t9, t11⟩
      (try simp only [und3, und4, und22, und24, und25, und35, und58, und61, info3, info4, info22, info24, info25, info35, info58, info61, aggT, VL_nil, VL_none, VX_false, VX_call, ic_value, VL_guard, VG_some, VG_none, gvV_bool, gvV_undef, VC_some, yieldedA_tl, gv, dstAt, VOp_some, ic_move, ic_assign, ic_pick, ic_alloc, ic_box, ic_build, ic_buildSlice, ic_load, ic_store, ic_nilCheck, ic_binOp, ic_unOp, ic_convert, ic_makeInterface, ic_makeFunc, ic_makeMap, ic_makeSlice, ic_slice, ic_fieldAddr, ic_field, ic_indexAddr, ic_index, ic_lookup, ic_mapUpdate, ic_insert, ic_extract, ic_builtin, KN_apply, Then_normal, Then_exit, Then_ret, Blk_normal, Blk_exit, Blk_ret, LoopQ_exit, LoopQ_ret, RetQ_ret, RetQ_normal, RetV_some, resA_nil, resA_tmp, tl_getD, tupA_one, tupA_two, VIf_true, VIf_false, aop, evalA_tmp, evalA_const, evalA_func, evalsA, partsA, evalO, plain_int, plain_bool, plain_string, plain_slnil, plain_nilFunc, plain_pnil, onev_some, one_some, oneu_some, updO, upd_def, ofArgs, bin_eq, binV, intBin, un_eq, unV, min_eq, max_eq, mmV, builtinA,  List.getElem?_toArray, List.getElem?_cons_succ, List.getElem?_cons_zero, List.getD_cons_zero, List.getD_cons_succ, List.size_toArray, List.toList_toArray, List.length_cons, List.length_nil, Option.bind_some, Option.map_some, Option.getD_some, Option.isSome_some, Nat.reduceLT, Nat.reduceEqDiff, Nat.reduceAdd, Nat.reduceSub, Nat.reduceMul, reduceIte, if_true, if_false, Bool.false_eq_true, reduceCtorEq, and_self, true_and, and_true, List.nil_append, List.cons_append, List.append_nil, Bool.not_true, Bool.not_false, t0, t1, t5, t9, t10, t11, q1, q2]); repeat (first | with_reducible refine W_seq ?_ | with_reducible refine W_block ?_ | with_reducible refine W_scope ?_ | ((first | with_reducible refine W_regionV hTT ?_ | with_reducible refine W_condV ?_ | with_reducible refine W_ret ?_ | with_reducible refine W_exit ?_ | with_reducible refine W_skip ?_ | with_reducible refine W_label ?_ | with_reducible refine W_drawV hTT (by kernel_rfl) ?_); simp only [und3, und4, und22, und24, und25, und35, und58, und61, info3, info4, info22, info24, info25, info35, info58, info61, aggT, VL_nil, VL_none, VX_false, VX_call, ic_value, VL_guard, VG_some, VG_none, gvV_bool, gvV_undef, VC_some, yieldedA_tl, gv, dstAt, VOp_some, ic_move, ic_assign, ic_pick, ic_alloc, ic_box, ic_build, ic_buildSlice, ic_load, ic_store, ic_nilCheck, ic_binOp, ic_unOp, ic_convert, ic_makeInterface, ic_makeFunc, ic_makeMap, ic_makeSlice, ic_slice, ic_fieldAddr, ic_field, ic_indexAddr, ic_index, ic_lookup, ic_mapUpdate, ic_insert, ic_extract, ic_builtin, KN_apply, Then_normal, Then_exit, Then_ret, Blk_normal, Blk_exit, Blk_ret, LoopQ_exit, LoopQ_ret, RetQ_ret, RetQ_normal, RetV_some, resA_nil, resA_tmp, tl_getD, tupA_one, tupA_two, VIf_true, VIf_false, aop, evalA_tmp, evalA_const, evalA_func, evalsA, partsA, evalO, plain_int, plain_bool, plain_string, plain_slnil, plain_nilFunc, plain_pnil, onev_some, one_some, oneu_some, updO, upd_def, ofArgs, bin_eq, binV, intBin, un_eq, unV, min_eq, max_eq, mmV, builtinA,  List.getElem?_toArray, List.getElem?_cons_succ, List.getElem?_cons_zero, List.getD_cons_zero, List.getD_cons_succ, List.size_toArray, List.toList_toArray, List.length_cons, List.length_nil, Option.bind_some, Option.map_some, Option.getD_some, Option.isSome_some, Nat.reduceLT, Nat.reduceEqDiff, Nat.reduceAdd, Nat.reduceSub, Nat.reduceMul, reduceIte, if_true, if_false, Bool.false_eq_true, reduceCtorEq, and_self, true_and, and_true, List.nil_append, List.cons_append, List.append_nil, Bool.not_true, Bool.not_false, t0, t1, t5, t9, t10, t11, q1, q2]))
      refine VCall_intro (edge_call hT.ok hM.sl hM.plain (by rw [insAll_len, run0_len _ _ _ hj]; omega) u x) ?_
      rintro v S3 ⟨hM3, hE3⟩
      have hT3 := hT.ext hE3
      have hb := hg.deg2 j x
      have i1 := hT3.idx s1 (k := .i64)
      have p1 := hT3.put s1 0
      have ed : (run0 N xs j).2.set u 0 = dec (run0 N xs j).2 u := by unfold dec; rw [s2]; rfl
      rw [ed] at p1
      have hT4 := hT3.set u 0
      rw [ed] at hT4
      have i2 := hT4.idx hxN (k := .i64)
      have g2 := hT4.get hxN
      have hb2 : -2000 < (dec (run0 N xs j).2 u).getD x 0 ∧ (dec (run0 N xs j).2 u).getD x 0 < 2000 := by rw [dec_getD]; split <;> omega
      have w2 : IntKind.i64.wrap ((dec (run0 N xs j).2 u).getD x 0 - 1) = (dec (run0 N xs j).2 u).getD x 0 - 1 := wrap_id (by omega) (by omega)
      have p2 := hT4.put hxN ((dec (run0 N xs j).2 u).getD x 0 - 1)
      have hT5 : AR S _ N (dec (dec (run0 N xs j).2 u) x) := hT4.set x ((dec (run0 N xs j).2 u).getD x 0 - 1)
      change _ = some (St.set _ _ (.cells (iv (dec (dec (run0 N xs j).2 u) x)) 3 0)) at p2
      (try simp only [und3, und4, und22, und24, und25, und35, und58, und61, info3, info4, info22, info24, info25, info35, info58, info61, aggT, VL_nil, VL_none, VX_false, VX_call, ic_value, VL_guard, VG_some, VG_none, gvV_bool, gvV_undef, VC_some, yieldedA_tl, gv, dstAt, VOp_some, ic_move, ic_assign, ic_pick, ic_alloc, ic_box, ic_build, ic_buildSlice, ic_load, ic_store, ic_nilCheck, ic_binOp, ic_unOp, ic_convert, ic_makeInterface, ic_makeFunc, ic_makeMap, ic_makeSlice, ic_slice, ic_fieldAddr, ic_field, ic_indexAddr, ic_index, ic_lookup, ic_mapUpdate, ic_insert, ic_extract, ic_builtin, KN_apply, Then_normal, Then_exit, Then_ret, Blk_normal, Blk_exit, Blk_ret, LoopQ_exit, LoopQ_ret, RetQ_ret, RetQ_normal, RetV_some, resA_nil, resA_tmp, tl_getD, tupA_one, tupA_two, VIf_true, VIf_false, aop, evalA_tmp, evalA_const, evalA_func, evalsA, partsA, evalO, plain_int, plain_bool, plain_string, plain_slnil, plain_nilFunc, plain_pnil, onev_some, one_some, oneu_some, updO, upd_def, ofArgs, bin_eq, binV, intBin, un_eq, unV, min_eq, max_eq, mmV, builtinA,  List.getElem?_toArray, List.getElem?_cons_succ, List.getElem?_cons_zero, List.getD_cons_zero, List.getD_cons_succ, List.size_toArray, List.toList_toArray, List.length_cons, List.length_nil, Option.bind_some, Option.map_some, Option.getD_some, Option.isSome_some, Nat.reduceLT, Nat.reduceEqDiff, Nat.reduceAdd, Nat.reduceSub, Nat.reduceMul, reduceIte, if_true, if_false, Bool.false_eq_true, reduceCtorEq, and_self, true_and, and_true, List.nil_append, List.cons_append, List.append_nil, Bool.not_true, Bool.not_false, t0, t1, t5, t9, t10, t11, i1, p1, i2, g2, w2, p2, hw]); repeat (first | with_reducible refine W_seq ?_ | with_reducible refine W_block ?_ | with_reducible refine W_scope ?_ | ((first | with_reducible refine W_regionV hTT ?_ | with_reducible refine W_condV ?_ | with_reducible refine W_ret ?_ | with_reducible refine W_exit ?_ | with_reducible refine W_skip ?_ | with_reducible refine W_label ?_ | with_reducible refine W_drawV hTT (by kernel_rfl) ?_); simp only [und3, und4, und22, und24, und25, und35, und58, und61, info3, info4, info22, info24, info25, info35, info58, info61, aggT, VL_nil, VL_none, VX_false, VX_call, ic_value, VL_guard, VG_some, VG_none, gvV_bool, gvV_undef, VC_some, yieldedA_tl, gv, dstAt, VOp_some, ic_move, ic_assign, ic_pick, ic_alloc, ic_box, ic_build, ic_buildSlice, ic_load, ic_store, ic_nilCheck, ic_binOp, ic_unOp, ic_convert, ic_makeInterface, ic_makeFunc, ic_makeMap, ic_makeSlice, ic_slice, ic_fieldAddr, ic_field, ic_indexAddr, ic_index, ic_lookup, ic_mapUpdate, ic_insert, ic_extract, ic_builtin, KN_apply, Then_normal, Then_exit, Then_ret, Blk_normal, Blk_exit, Blk_ret, LoopQ_exit, LoopQ_ret, RetQ_ret, RetQ_normal, RetV_some, resA_nil, resA_tmp, tl_getD, tupA_one, tupA_two, VIf_true, VIf_false, aop, evalA_tmp, evalA_const, evalA_func, evalsA, partsA, evalO, plain_int, plain_bool, plain_string, plain_slnil, plain_nilFunc, plain_pnil, onev_some, one_some, oneu_some, updO, upd_def, ofArgs, bin_eq, binV, intBin, un_eq, unV, min_eq, max_eq, mmV, builtinA,  List.getElem?_toArray, List.getElem?_cons_succ, List.getElem?_cons_zero, List.getD_cons_zero, List.getD_cons_succ, List.size_toArray, List.toList_toArray, List.length_cons, List.length_nil, Option.bind_some, Option.map_some, Option.getD_some, Option.isSome_some, Nat.reduceLT, Nat.reduceEqDiff, Nat.reduceAdd, Nat.reduceSub, Nat.reduceMul, reduceIte, if_true, if_false, Bool.false_eq_true, reduceCtorEq, and_self, true_and, and_true, List.nil_append, List.cons_append, List.append_nil, Bool.not_true, Bool.not_false, t0, t1, t5, t9, t10, t11, i1, p1, i2, g2, w2, p2, hw]))
      have hs := run0_succ N xs j hlt
      have es : (step (run0 N xs j) xs[j]) = ((run0 N xs j).1 ++ [(min (u : Int) x, max (u : Int) x)], dec (dec (run0 N xs j).2 u) x) := by
        unfold step
        rw [hu, hx']
        simp
      rw [es] at hs
      refine LoopQ_intro (xs.length - (j + 1)) (by omega) ⟨rfl, j + 1, rfl, by omega, by simp only [und3, und4, und22, und24, und25, und35, und58, und61, info3, info4, info22, info24, info25, info35, info58, info61, aggT, VL_nil, VL_none, VX_false, VX_call, ic_value, VL_guard, VG_some, VG_none, gvV_bool, gvV_undef, VC_some, yieldedA_tl, gv, dstAt, VOp_some, ic_move, ic_assign, ic_pick, ic_alloc, ic_box, ic_build, ic_buildSlice, ic_load, ic_store, ic_nilCheck, ic_binOp, ic_unOp, ic_convert, ic_makeInterface, ic_makeFunc, ic_makeMap, ic_makeSlice, ic_slice, ic_fieldAddr, ic_field, ic_indexAddr, ic_index, ic_lookup, ic_mapUpdate, ic_insert, ic_extract, ic_builtin, KN_apply, Then_normal, Then_exit, Then_ret, Blk_normal, Blk_exit, Blk_ret, LoopQ_exit, LoopQ_ret, RetQ_ret, RetQ_normal, RetV_some, resA_nil, resA_tmp, tl_getD, tupA_one, tupA_two, VIf_true, VIf_false, aop, evalA_tmp, evalA_const, evalA_func, evalsA, partsA, evalO, plain_int, plain_bool, plain_string, plain_slnil, plain_nilFunc, plain_pnil, onev_some, one_some, oneu_some, updO, upd_def, ofArgs, bin_eq, binV, intBin, un_eq, unV, min_eq, max_eq, mmV, builtinA,  List.getElem?_toArray, List.getElem?_cons_succ, List.getElem?_cons_zero, List.getD_cons_zero, List.getD_cons_succ, List.size_toArray, List.toList_toArray, List.length_cons, List.length_nil, Option.bind_some, Option.map_some, Option.getD_some, Option.isSome_some, Nat.reduceLT, Nat.reduceEqDiff, Nat.reduceAdd, Nat.reduceSub, Nat.reduceMul, reduceIte, if_true, if_false, Bool.false_eq_true, reduceCtorEq, and_self, true_and, and_true, List.nil_append, List.cons_append, List.append_nil, Bool.not_true, Bool.not_false, t0], by simp only [und3, und4, und22, und24, und25, und35, und58, und61, info3, info4, info22, info24, info25, info35, info58, info61, aggT, VL_nil, VL_none, VX_false, VX_call, ic_value, VL_guard, VG_some, VG_none, gvV_bool, gvV_undef, VC_some, yieldedA_tl, gv, dstAt, VOp_some, ic_move, ic_assign, ic_pick, ic_alloc, ic_box, ic_build, ic_buildSlice, ic_load, ic_store, ic_nilCheck, ic_binOp, ic_unOp, ic_convert, ic_makeInterface, ic_makeFunc, ic_makeMap, ic_makeSlice, ic_slice, ic_fieldAddr, ic_field, ic_indexAddr, ic_index, ic_lookup, ic_mapUpdate, ic_insert, ic_extract, ic_builtin, KN_apply, Then_normal, Then_exit, Then_ret, Blk_normal, Blk_exit, Blk_ret, LoopQ_exit, LoopQ_ret, RetQ_ret, RetQ_normal, RetV_some, resA_nil, resA_tmp, tl_getD, tupA_one, tupA_two, VIf_true, VIf_false, aop, evalA_tmp, evalA_const, evalA_func, evalsA, partsA, evalO, plain_int, plain_bool, plain_string, plain_slnil, plain_nilFunc, plain_pnil, onev_some, one_some, oneu_some, updO, upd_def, ofArgs, bin_eq, binV, intBin, un_eq, unV, min_eq, max_eq, mmV, builtinA,  List.getElem?_toArray, List.getElem?_cons_succ, List.getElem?_cons_zero, List.getD_cons_zero, List.getD_cons_succ, List.size_toArray, List.toList_toArray, List.length_cons, List.length_nil, Option.bind_some, Option.map_some, Option.getD_some, Option.isSome_some, Nat.reduceLT, Nat.reduceEqDiff, Nat.reduceAdd, Nat.reduceSub, Nat.reduceMul, reduceIte, if_true, if_false, Bool.false_eq_true, reduceCtorEq, and_self, true_and, and_true, List.nil_append, List.cons_append, List.append_nil, Bool.not_true, Bool.not_false, t1], by simp only [und3, und4, und22, und24, und25, und35, und58, und61, info3, info4, info22, info24, info25, info35, info58, info61, aggT, VL_nil, VL_none, VX_false, VX_call, ic_value, VL_guard, VG_some, VG_none, gvV_bool, gvV_undef, VC_some, yieldedA_tl, gv, dstAt, VOp_some, ic_move, ic_assign, ic_pick, ic_alloc, ic_box, ic_build, ic_buildSlice, ic_load, ic_store, ic_nilCheck, ic_binOp, ic_unOp, ic_convert, ic_makeInterface, ic_makeFunc, ic_makeMap, ic_makeSlice, ic_slice, ic_fieldAddr, ic_field, ic_indexAddr, ic_index, ic_lookup, ic_mapUpdate, ic_insert, ic_extract, ic_builtin, KN_apply, Then_normal, Then_exit, Then_ret, Blk_normal, Blk_exit, Blk_ret, LoopQ_exit, LoopQ_ret, RetQ_ret, RetQ_normal, RetV_some, resA_nil, resA_tmp, tl_getD, tupA_one, tupA_two, VIf_true, VIf_false, aop, evalA_tmp, evalA_const, evalA_func, evalsA, partsA, evalO, plain_int, plain_bool, plain_string, plain_slnil, plain_nilFunc, plain_pnil, onev_some, one_some, oneu_some, updO, upd_def, ofArgs, bin_eq, binV, intBin, un_eq, unV, min_eq, max_eq, mmV, builtinA,  List.getElem?_toArray, List.getElem?_cons_succ, List.getElem?_cons_zero, List.getD_cons_zero, List.getD_cons_succ, List.size_toArray, List.toList_toArray, List.length_cons, List.length_nil, Option.bind_some, Option.map_some, Option.getD_some, Option.isSome_some, Nat.reduceLT, Nat.reduceEqDiff, Nat.reduceAdd, Nat.reduceSub, Nat.reduceMul, reduceIte, if_true, if_false, Bool.false_eq_true, reduceCtorEq, and_self, true_and, and_true, List.nil_append, List.cons_append, List.append_nil, Bool.not_true, Bool.not_false, t5], by simp only [und3, und4, und22, und24, und25, und35, und58, und61, info3, info4, info22, info24, info25, info35, info58, info61, aggT, VL_nil, VL_none, VX_false, VX_call, ic_value, VL_guard, VG_some, VG_none, gvV_bool, gvV_undef, VC_some, yieldedA_tl, gv, dstAt, VOp_some, ic_move, ic_assign, ic_pick, ic_alloc, ic_box, ic_build, ic_buildSlice, ic_load, ic_store, ic_nilCheck, ic_binOp, ic_unOp, ic_convert, ic_makeInterface, ic_makeFunc, ic_makeMap, ic_makeSlice, ic_slice, ic_fieldAddr, ic_field, ic_indexAddr, ic_index, ic_lookup, ic_mapUpdate, ic_insert, ic_extract, ic_builtin, KN_apply, Then_normal, Then_exit, Then_ret, Blk_normal, Blk_exit, Blk_ret, LoopQ_exit, LoopQ_ret, RetQ_ret, RetQ_normal, RetV_some, resA_nil, resA_tmp, tl_getD, tupA_one, tupA_two, VIf_true, VIf_false, aop, evalA_tmp, evalA_const, evalA_func, evalsA, partsA, evalO, plain_int, plain_bool, plain_string, plain_slnil, plain_nilFunc, plain_pnil, onev_some, one_some, oneu_some, updO, upd_def, ofArgs, bin_eq, binV, intBin, un_eq, unV, min_eq, max_eq, mmV, builtinA,  List.getElem?_toArray, List.getElem?_cons_succ, List.getElem?_cons_zero, List.getD_cons_zero, List.getD_cons_succ, List.size_toArray, List.toList_toArray, List.length_cons, List.length_nil, Option.bind_some, Option.map_some, Option.getD_some, Option.isSome_some, Nat.reduceLT, Nat.reduceEqDiff, Nat.reduceAdd, Nat.reduceSub, Nat.reduceMul, reduceIte, if_true, if_false, Bool.false_eq_true, reduceCtorEq, and_self, true_and, and_true, List.nil_append, List.cons_append, List.append_nil, Bool.not_true, Bool.not_false, t10], ?_, v, by simp only [und3, und4, und22, und24, und25, und35, und58, und61, info3, info4, info22, info24, info25, info35, info58, info61, aggT, VL_nil, VL_none, VX_false, VX_call, ic_value, VL_guard, VG_some, VG_none, gvV_bool, gvV_undef, VC_some, yieldedA_tl, gv, dstAt, VOp_some, ic_move, ic_assign, ic_pick, ic_alloc, ic_box, ic_build, ic_buildSlice, ic_load, ic_store, ic_nilCheck, ic_binOp, ic_unOp, ic_convert, ic_makeInterface, ic_makeFunc, ic_makeMap, ic_makeSlice, ic_slice, ic_fieldAddr, ic_field, ic_indexAddr, ic_index, ic_lookup, ic_mapUpdate, ic_insert, ic_extract, ic_builtin, KN_apply, Then_normal, Then_exit, Then_ret, Blk_normal, Blk_exit, Blk_ret, LoopQ_exit, LoopQ_ret, RetQ_ret, RetQ_normal, RetV_some, resA_nil, resA_tmp, tl_getD, tupA_one, tupA_two, VIf_true, VIf_false, aop, evalA_tmp, evalA_const, evalA_func, evalsA, partsA, evalO, plain_int, plain_bool, plain_string, plain_slnil, plain_nilFunc, plain_pnil, onev_some, one_some, oneu_some, updO, upd_def, ofArgs, bin_eq, binV, intBin, un_eq, unV, min_eq, max_eq, mmV, builtinA,  List.getElem?_toArray, List.getElem?_cons_succ, List.getElem?_cons_zero, List.getD_cons_zero, List.getD_cons_succ, List.size_toArray, List.toList_toArray, List.length_cons, List.length_nil, Option.bind_some, Option.map_some, Option.getD_some, Option.isSome_some, Nat.reduceLT, Nat.reduceEqDiff, Nat.reduceAdd, Nat.reduceSub, Nat.reduceMul, reduceIte, if_true, if_false, Bool.false_eq_true, reduceCtorEq, and_self, true_and, and_true, List.nil_append, List.cons_append, List.append_nil, Bool.not_true, Bool.not_false], ?_⟩
      · rw [hs]; exact hT5
      · rw [hs, insAll_snoc]
        exact hT4.setMine (hT3.setMine (hM3.mono hT.n))
    · have c1 : decide ((j : Int) < xs.length) = false := by simpa using hlt
      repeat (first | with_reducible refine W_seq ?_ | with_reducible refine W_block ?_ | with_reducible refine W_scope ?_ | ((first | with_reducible refine W_regionV hTT ?_ | with_reducible refine W_condV ?_ | with_reducible refine W_ret ?_ | with_reducible refine W_exit ?_ | with_reducible refine W_skip ?_ | with_reducible refine W_label ?_ | with_reducible refine W_drawV hTT (by kernel_rfl) ?_); simp only [und3, und4, und22, und24, und25, und35, und58, und61, info3, info4, info22, info24, info25, info35, info58, info61, aggT, VL_nil, VL_none, VX_false, VX_call, ic_value, VL_guard, VG_some, VG_none, gvV_bool, gvV_undef, VC_some, yieldedA_tl, gv, dstAt, VOp_some, ic_move, ic_assign, ic_pick, ic_alloc, ic_box, ic_build, ic_buildSlice, ic_load, ic_store, ic_nilCheck, ic_binOp, ic_unOp, ic_convert, ic_makeInterface, ic_makeFunc, ic_makeMap, ic_makeSlice, ic_slice, ic_fieldAddr, ic_field, ic_indexAddr, ic_index, ic_lookup, ic_mapUpdate, ic_insert, ic_extract, ic_builtin, KN_apply, Then_normal, Then_exit, Then_ret, Blk_normal, Blk_exit, Blk_ret, LoopQ_exit, LoopQ_ret, RetQ_ret, RetQ_normal, RetV_some, resA_nil, resA_tmp, tl_getD, tupA_one, tupA_two, VIf_true, VIf_false, aop, evalA_tmp, evalA_const, evalA_func, evalsA, partsA, evalO, plain_int, plain_bool, plain_string, plain_slnil, plain_nilFunc, plain_pnil, onev_some, one_some, oneu_some, updO, upd_def, ofArgs, bin_eq, binV, intBin, un_eq, unV, min_eq, max_eq, mmV, builtinA,  List.getElem?_toArray, List.getElem?_cons_succ, List.getElem?_cons_zero, List.getD_cons_zero, List.getD_cons_succ, List.size_toArray, List.toList_toArray, List.length_cons, List.length_nil, Option.bind_some, Option.map_some, Option.getD_some, Option.isSome_some, Nat.reduceLT, Nat.reduceEqDiff, Nat.reduceAdd, Nat.reduceSub, Nat.reduceMul, reduceIte, if_true, if_false, Bool.false_eq_true, reduceCtorEq, and_self, true_and, and_true, List.nil_append, List.cons_append, List.append_nil, Bool.not_true, Bool.not_false, t0, t1, t5, t10, hlS, c1]))
      have : j = xs.length := by omega
      subst this
      exact NQ_intro ⟨rfl, by simp only [und3, und4, und22, und24, und25, und35, und58, und61, info3, info4, info22, info24, info25, info35, info58, info61, aggT, VL_nil, VL_none, VX_false, VX_call, ic_value, VL_guard, VG_some, VG_none, gvV_bool, gvV_undef, VC_some, yieldedA_tl, gv, dstAt, VOp_some, ic_move, ic_assign, ic_pick, ic_alloc, ic_box, ic_build, ic_buildSlice, ic_load, ic_store, ic_nilCheck, ic_binOp, ic_unOp, ic_convert, ic_makeInterface, ic_makeFunc, ic_makeMap, ic_makeSlice, ic_slice, ic_fieldAddr, ic_field, ic_indexAddr, ic_index, ic_lookup, ic_mapUpdate, ic_insert, ic_extract, ic_builtin, KN_apply, Then_normal, Then_exit, Then_ret, Blk_normal, Blk_exit, Blk_ret, LoopQ_exit, LoopQ_ret, RetQ_ret, RetQ_normal, RetV_some, resA_nil, resA_tmp, tl_getD, tupA_one, tupA_two, VIf_true, VIf_false, aop, evalA_tmp, evalA_const, evalA_func, evalsA, partsA, evalO, plain_int, plain_bool, plain_string, plain_slnil, plain_nilFunc, plain_pnil, onev_some, one_some, oneu_some, updO, upd_def, ofArgs, bin_eq, binV, intBin, un_eq, unV, min_eq, max_eq, mmV, builtinA,  List.getElem?_toArray, List.getElem?_cons_succ, List.getElem?_cons_zero, List.getD_cons_zero, List.getD_cons_succ, List.size_toArray, List.toList_toArray, List.length_cons, List.length_nil, Option.bind_some, Option.map_some, Option.getD_some, Option.isSome_some, Nat.reduceLT, Nat.reduceEqDiff, Nat.reduceAdd, Nat.reduceSub, Nat.reduceMul, reduceIte, if_true, if_false, Bool.false_eq_true, reduceCtorEq, and_self, true_and, and_true, List.nil_append, List.cons_append, List.append_nil, Bool.not_true, Bool.not_false, t0], by simp only [und3, und4, und22, und24, und25, und35, und58, und61, info3, info4, info22, info24, info25, info35, info58, info61, aggT, VL_nil, VL_none, VX_false, VX_call, ic_value, VL_guard, VG_some, VG_none, gvV_bool, gvV_undef, VC_some, yieldedA_tl, gv, dstAt, VOp_some, ic_move, ic_assign, ic_pick, ic_alloc, ic_box, ic_build, ic_buildSlice, ic_load, ic_store, ic_nilCheck, ic_binOp, ic_unOp, ic_convert, ic_makeInterface, ic_makeFunc, ic_makeMap, ic_makeSlice, ic_slice, ic_fieldAddr, ic_field, ic_indexAddr, ic_index, ic_lookup, ic_mapUpdate, ic_insert, ic_extract, ic_builtin, KN_apply, Then_normal, Then_exit, Then_ret, Blk_normal, Blk_exit, Blk_ret, LoopQ_exit, LoopQ_ret, RetQ_ret, RetQ_normal, RetV_some, resA_nil, resA_tmp, tl_getD, tupA_one, tupA_two, VIf_true, VIf_false, aop, evalA_tmp, evalA_const, evalA_func, evalsA, partsA, evalO, plain_int, plain_bool, plain_string, plain_slnil, plain_nilFunc, plain_pnil, onev_some, one_some, oneu_some, updO, upd_def, ofArgs, bin_eq, binV, intBin, un_eq, unV, min_eq, max_eq, mmV, builtinA,  List.getElem?_toArray, List.getElem?_cons_succ, List.getElem?_cons_zero, List.getD_cons_zero, List.getD_cons_succ, List.size_toArray, List.toList_toArray, List.length_cons, List.length_nil, Option.bind_some, Option.map_some, Option.getD_some, Option.isSome_some, Nat.reduceLT, Nat.reduceEqDiff, Nat.reduceAdd, Nat.reduceSub, Nat.reduceMul, reduceIte, if_true, if_false, Bool.false_eq_true, reduceCtorEq, and_self, true_and, and_true, List.nil_append, List.cons_append, List.append_nil, Bool.not_true, Bool.not_false, t5], hT, vo, by simp only [und3, und4, und22, und24, und25, und35, und58, und61, info3, info4, info22, info24, info25, info35, info58, info61, aggT, VL_nil, VL_none, VX_false, VX_call, ic_value, VL_guard, VG_some, VG_none, gvV_bool, gvV_undef, VC_some, yieldedA_tl, gv, dstAt, VOp_some, ic_move, ic_assign, ic_pick, ic_alloc, ic_box, ic_build, ic_buildSlice, ic_load, ic_store, ic_nilCheck, ic_binOp, ic_unOp, ic_convert, ic_makeInterface, ic_makeFunc, ic_makeMap, ic_makeSlice, ic_slice, ic_fieldAddr, ic_field, ic_indexAddr, ic_index, ic_lookup, ic_mapUpdate, ic_insert, ic_extract, ic_builtin, KN_apply, Then_normal, Then_exit, Then_ret, Blk_normal, Blk_exit, Blk_ret, LoopQ_exit, LoopQ_ret, RetQ_ret, RetQ_normal, RetV_some, resA_nil, resA_tmp, tl_getD, tupA_one, tupA_two, VIf_true, VIf_false, aop, evalA_tmp, evalA_const, evalA_func, evalsA, partsA, evalO, plain_int, plain_bool, plain_string, plain_slnil, plain_nilFunc, plain_pnil, onev_some, one_some, oneu_some, updO, upd_def, ofArgs, bin_eq, binV, intBin, un_eq, unV, min_eq, max_eq, mmV, builtinA,  List.getElem?_toArray, List.getElem?_cons_succ, List.getElem?_cons_zero, List.getD_cons_zero, List.getD_cons_succ, List.size_toArray, List.toList_toArray, List.length_cons, List.length_nil, Option.bind_some, Option.map_some, Option.getD_some, Option.isSome_some, Nat.reduceLT, Nat.reduceEqDiff, Nat.reduceAdd, Nat.reduceSub, Nat.reduceMul, reduceIte, if_true, if_false, Bool.false_eq_true, reduceCtorEq, and_self, true_and, and_true, List.nil_append, List.cons_append, List.append_nil, Bool.not_true, Bool.not_false, t9], hM⟩
  clear hT t0 t1 t5
  rintro τ ds S3 ⟨rfl, t0, t5, hT, vo, t9, hM⟩
  (try simp only [und3, und4, und22, und24, und25, und35, und58, und61, info3, info4, info22, info24, info25, info35, info58, info61, aggT, VL_nil, VL_none, VX_false, VX_call, ic_value, VL_guard, VG_some, VG_none, gvV_bool, gvV_undef, VC_some, yieldedA_tl, gv, dstAt, VOp_some, ic_move, ic_assign, ic_pick, ic_alloc, ic_box, ic_build, ic_buildSlice, ic_load, ic_store, ic_nilCheck, ic_binOp, ic_unOp, ic_convert, ic_makeInterface, ic_makeFunc, ic_makeMap, ic_makeSlice, ic_slice, ic_fieldAddr, ic_field, ic_indexAddr, ic_index, ic_lookup, ic_mapUpdate, ic_insert, ic_extract, ic_builtin, KN_apply, Then_normal, Then_exit, Then_ret, Blk_normal, Blk_exit, Blk_ret, LoopQ_exit, LoopQ_ret, RetQ_ret, RetQ_normal, RetV_some, resA_nil, resA_tmp, tl_getD, tupA_one, tupA_two, VIf_true, VIf_false, aop, evalA_tmp, evalA_const, evalA_func, evalsA, partsA, evalO, plain_int, plain_bool, plain_string, plain_slnil, plain_nilFunc, plain_pnil, onev_some, one_some, oneu_some, updO, upd_def, ofArgs, bin_eq, binV, intBin, un_eq, unV, min_eq, max_eq, mmV, builtinA,  List.getElem?_toArray, List.getElem?_cons_succ, List.getElem?_cons_zero, List.getD_cons_zero, List.getD_cons_succ, List.size_toArray, List.toList_toArray, List.length_cons, List.length_nil, Option.bind_some, Option.map_some, Option.getD_some, Option.isSome_some, Nat.reduceLT, Nat.reduceEqDiff, Nat.reduceAdd, Nat.reduceSub, Nat.reduceMul, reduceIte, if_true, if_false, Bool.false_eq_true, reduceCtorEq, and_self, true_and, and_true, List.nil_append, List.cons_append, List.append_nil, Bool.not_true, Bool.not_false, t0, t5, t9]); repeat (first | with_reducible refine W_seq ?_ | with_reducible refine W_scope ?_ | ((first | with_reducible refine W_regionV hTT ?_ | with_reducible refine W_condV ?_ | with_reducible refine W_ret ?_ | with_reducible refine W_exit ?_ | with_reducible refine W_skip ?_ | with_reducible refine W_label ?_ | with_reducible refine W_drawV hTT (by kernel_rfl) ?_); simp only [und3, und4, und22, und24, und25, und35, und58, und61, info3, info4, info22, info24, info25, info35, info58, info61, aggT, VL_nil, VL_none, VX_false, VX_call, ic_value, VL_guard, VG_some, VG_none, gvV_bool, gvV_undef, VC_some, yieldedA_tl, gv, dstAt, VOp_some, ic_move, ic_assign, ic_pick, ic_alloc, ic_box, ic_build, ic_buildSlice, ic_load, ic_store, ic_nilCheck, ic_binOp, ic_unOp, ic_convert, ic_makeInterface, ic_makeFunc, ic_makeMap, ic_makeSlice, ic_slice, ic_fieldAddr, ic_field, ic_indexAddr, ic_index, ic_lookup, ic_mapUpdate, ic_insert, ic_extract, ic_builtin, KN_apply, Then_normal, Then_exit, Then_ret, Blk_normal, Blk_exit, Blk_ret, LoopQ_exit, LoopQ_ret, RetQ_ret, RetQ_normal, RetV_some, resA_nil, resA_tmp, tl_getD, tupA_one, tupA_two, VIf_true, VIf_false, aop, evalA_tmp, evalA_const, evalA_func, evalsA, partsA, evalO, plain_int, plain_bool, plain_string, plain_slnil, plain_nilFunc, plain_pnil, onev_some, one_some, oneu_some, updO, upd_def, ofArgs, bin_eq, binV, intBin, un_eq, unV, min_eq, max_eq, mmV, builtinA,  List.getElem?_toArray, List.getElem?_cons_succ, List.getElem?_cons_zero, List.getD_cons_zero, List.getD_cons_succ, List.size_toArray, List.toList_toArray, List.length_cons, List.length_nil, Option.bind_some, Option.map_some, Option.getD_some, Option.isSome_some, Nat.reduceLT, Nat.reduceEqDiff, Nat.reduceAdd, Nat.reduceSub, Nat.reduceMul, reduceIte, if_true, if_false, Bool.false_eq_true, reduceCtorEq, and_self, true_and, and_true, List.nil_append, List.cons_append, List.append_nil, Bool.not_true, Bool.not_false, t0, t5, t9]))
  -- the last two
  refine W_cut (fun τ ds S' => ds = [] ∧ τ 0 = .int .i64 N ∧ τ 5 = .slice (some ⟨S.n, 0, none⟩) N N ∧ τ 9 = vo ∧ Ext S3 S' ∧ ∃ vt, τ 13 = vt ∧ Mine S' 3 1 S3.n vt (iv (ones1 (run0 N xs xs.length).2 N)) (ones1 (run0 N xs xs.length).2 N).length) ?_ ?_
  · refine W_block ?_
    refine W_loopI (fun m τ ds S' => ds = [] ∧ ∃ k : Nat, m = N - k ∧ k ≤ N ∧ τ 0 = .int .i64 N ∧ τ 5 = .slice (some ⟨S.n, 0, none⟩) N N ∧ τ 9 = vo ∧ τ 14 = .int .i64 k ∧ Ext S3 S' ∧ ∃ vt, τ 13 = vt ∧ Mine S' 3 1 S3.n vt (iv (ones1 (run0 N xs xs.length).2 k)) (ones1 (run0 N xs xs.length).2 k).length ∧ (ones1 (run0 N xs xs.length).2 k).length ≤ k) N ?_ ?_
    · refine ⟨rfl, 0, by simp, by simp, ?_, ?_, ?_, ?_, Ext.refl hT.ok, .slice none 0 0, ?_, Mine.nil _ _ _ _, by simp [ones1]⟩ <;> first | rfl | simp only [und3, und4, und22, und24, und25, und35, und58, und61, info3, info4, info22, info24, info25, info35, info58, info61, aggT, VL_nil, VL_none, VX_false, VX_call, ic_value, VL_guard, VG_some, VG_none, gvV_bool, gvV_undef, VC_some, yieldedA_tl, gv, dstAt, VOp_some, ic_move, ic_assign, ic_pick, ic_alloc, ic_box, ic_build, ic_buildSlice, ic_load, ic_store, ic_nilCheck, ic_binOp, ic_unOp, ic_convert, ic_makeInterface, ic_makeFunc, ic_makeMap, ic_makeSlice, ic_slice, ic_fieldAddr, ic_field, ic_indexAddr, ic_index, ic_lookup, ic_mapUpdate, ic_insert, ic_extract, ic_builtin, KN_apply, Then_normal, Then_exit, Then_ret, Blk_normal, Blk_exit, Blk_ret, LoopQ_exit, LoopQ_ret, RetQ_ret, RetQ_normal, RetV_some, resA_nil, resA_tmp, tl_getD, tupA_one, tupA_two, VIf_true, VIf_false, aop, evalA_tmp, evalA_const, evalA_func, evalsA, partsA, evalO, plain_int, plain_bool, plain_string, plain_slnil, plain_nilFunc, plain_pnil, onev_some, one_some, oneu_some, updO, upd_def, ofArgs, bin_eq, binV, intBin, un_eq, unV, min_eq, max_eq, mmV, builtinA,  List.getElem?_toArray, List.getElem?_cons_succ, List.getElem?_cons_zero, List.getD_cons_zero, List.getD_cons_succ, List.size_toArray, List.toList_toArray, List.length_cons, List.length_nil, Option.bind_some, Option.map_some, Option.getD_some, Option.isSome_some, Nat.reduceLT, Nat.reduceEqDiff, Nat.reduceAdd, Nat.reduceSub, Nat.reduceMul, reduceIte, if_true, if_false, Bool.false_eq_true, reduceCtorEq, and_self, true_and, and_true, List.nil_append, List.cons_append, List.append_nil, Bool.not_true, Bool.not_false, t0, t5, t9]
    clear t0 t5 t9
    rintro m τ ds S' ⟨rfl, k, rfl, hk, t0, t5, t9, t14, hE, vt, t13, hMt, hln⟩
    by_cases hlt : k < N
    · have c1 : decide ((k : Int) < N) = true := by simpa using hlt
      have hw := wrap_succ (k := k) (by omega)
      have hT' := hT.ext hE
      have i1 := hT'.idx hlt (k := .i64)
      have g1 := hT'.get hlt
      have hsu := ones1_succ (run0 N xs xs.length).2 k
      by_cases hone : ((run0 N xs xs.length).2.getD k 0 == 1) = true
      · have hx2 : Sl (S'.push (.cells [.int .i64 (k : Int)] 3 0)) 1 (.slice (some ⟨S'.n, 0, none⟩) 1 1) [.int .i64 (k : Int)] 1 := Sl.of_cells (get_push_new _ rfl) rfl (by decide) (Nat.le_refl _)
        have hM1 : Mine (S'.push (.cells [.int .i64 (k : Int)] 3 0)) 3 1 S3.n vt _ _ := hMt.same fun b hb => get_push_ne _ (by have := (hMt.base hb).2; omega)
        have hn := hE.n
        obtain ⟨vt', S4, a1, m1, b1, _⟩ := hM1.append (T := TT) (ty := 22) (ty2 := 22) (by rw [ok_push_iff]; exact hE.ok) (by rw [push_n]; omega) und22 und22 rfl info3 rfl (by decide) rfl hx2.lenA hx2.src rfl rfl (grow_ok (by simp; omega) (by omega))
        repeat (first | with_reducible refine W_seq ?_ | with_reducible refine W_block ?_ | with_reducible refine W_scope ?_ | ((first | with_reducible refine W_regionV hTT ?_ | with_reducible refine W_condV ?_ | with_reducible refine W_ret ?_ | with_reducible refine W_exit ?_ | with_reducible refine W_skip ?_ | with_reducible refine W_label ?_ | with_reducible refine W_drawV hTT (by kernel_rfl) ?_); simp only [und3, und4, und22, und24, und25, und35, und58, und61, info3, info4, info22, info24, info25, info35, info58, info61, aggT, VL_nil, VL_none, VX_false, VX_call, ic_value, VL_guard, VG_some, VG_none, gvV_bool, gvV_undef, VC_some, yieldedA_tl, gv, dstAt, VOp_some, ic_move, ic_assign, ic_pick, ic_alloc, ic_box, ic_build, ic_buildSlice, ic_load, ic_store, ic_nilCheck, ic_binOp, ic_unOp, ic_convert, ic_makeInterface, ic_makeFunc, ic_makeMap, ic_makeSlice, ic_slice, ic_fieldAddr, ic_field, ic_indexAddr, ic_index, ic_lookup, ic_mapUpdate, ic_insert, ic_extract, ic_builtin, KN_apply, Then_normal, Then_exit, Then_ret, Blk_normal, Blk_exit, Blk_ret, LoopQ_exit, LoopQ_ret, RetQ_ret, RetQ_normal, RetV_some, resA_nil, resA_tmp, tl_getD, tupA_one, tupA_two, VIf_true, VIf_false, aop, evalA_tmp, evalA_const, evalA_func, evalsA, partsA, evalO, plain_int, plain_bool, plain_string, plain_slnil, plain_nilFunc, plain_pnil, onev_some, one_some, oneu_some, updO, upd_def, ofArgs, bin_eq, binV, intBin, un_eq, unV, min_eq, max_eq, mmV, builtinA,  List.getElem?_toArray, List.getElem?_cons_succ, List.getElem?_cons_zero, List.getD_cons_zero, List.getD_cons_succ, List.size_toArray, List.toList_toArray, List.length_cons, List.length_nil, Option.bind_some, Option.map_some, Option.getD_some, Option.isSome_some, Nat.reduceLT, Nat.reduceEqDiff, Nat.reduceAdd, Nat.reduceSub, Nat.reduceMul, reduceIte, if_true, if_false, Bool.false_eq_true, reduceCtorEq, and_self, true_and, and_true, List.nil_append, List.cons_append, List.append_nil, Bool.not_true, Bool.not_false, t0, t5, t9, t13, t14, c1, i1, g1, hone, bs22, a1, hw]))
        rw [if_pos hone] at hsu
        have hn4 := b1.n
        rw [push_n] at hn4
        refine LoopQ_intro (N - (k + 1)) (by omega) ⟨rfl, k + 1, rfl, by omega, by simp only [und3, und4, und22, und24, und25, und35, und58, und61, info3, info4, info22, info24, info25, info35, info58, info61, aggT, VL_nil, VL_none, VX_false, VX_call, ic_value, VL_guard, VG_some, VG_none, gvV_bool, gvV_undef, VC_some, yieldedA_tl, gv, dstAt, VOp_some, ic_move, ic_assign, ic_pick, ic_alloc, ic_box, ic_build, ic_buildSlice, ic_load, ic_store, ic_nilCheck, ic_binOp, ic_unOp, ic_convert, ic_makeInterface, ic_makeFunc, ic_makeMap, ic_makeSlice, ic_slice, ic_fieldAddr, ic_field, ic_indexAddr, ic_index, ic_lookup, ic_mapUpdate, ic_insert, ic_extract, ic_builtin, KN_apply, Then_normal, Then_exit, Then_ret, Blk_normal, Blk_exit, Blk_ret, LoopQ_exit, LoopQ_ret, RetQ_ret, RetQ_normal, RetV_some, resA_nil, resA_tmp, tl_getD, tupA_one, tupA_two, VIf_true, VIf_false, aop, evalA_tmp, evalA_const, evalA_func, evalsA, partsA, evalO, plain_int, plain_bool, plain_string, plain_slnil, plain_nilFunc, plain_pnil, onev_some, one_some, oneu_some, updO, upd_def, ofArgs, bin_eq, binV, intBin, un_eq, unV, min_eq, max_eq, mmV, builtinA,  List.getElem?_toArray, List.getElem?_cons_succ, List.getElem?_cons_zero, List.getD_cons_zero, List.getD_cons_succ, List.size_toArray, List.toList_toArray, List.length_cons, List.length_nil, Option.bind_some, Option.map_some, Option.getD_some, Option.isSome_some, Nat.reduceLT, Nat.reduceEqDiff, Nat.reduceAdd, Nat.reduceSub, Nat.reduceMul, reduceIte, if_true, if_false, Bool.false_eq_true, reduceCtorEq, and_self, true_and, and_true, List.nil_append, List.cons_append, List.append_nil, Bool.not_true, Bool.not_false, t0], by simp only [und3, und4, und22, und24, und25, und35, und58, und61, info3, info4, info22, info24, info25, info35, info58, info61, aggT, VL_nil, VL_none, VX_false, VX_call, ic_value, VL_guard, VG_some, VG_none, gvV_bool, gvV_undef, VC_some, yieldedA_tl, gv, dstAt, VOp_some, ic_move, ic_assign, ic_pick, ic_alloc, ic_box, ic_build, ic_buildSlice, ic_load, ic_store, ic_nilCheck, ic_binOp, ic_unOp, ic_convert, ic_makeInterface, ic_makeFunc, ic_makeMap, ic_makeSlice, ic_slice, ic_fieldAddr, ic_field, ic_indexAddr, ic_index, ic_lookup, ic_mapUpdate, ic_insert, ic_extract, ic_builtin, KN_apply, Then_normal, Then_exit, Then_ret, Blk_normal, Blk_exit, Blk_ret, LoopQ_exit, LoopQ_ret, RetQ_ret, RetQ_normal, RetV_some, resA_nil, resA_tmp, tl_getD, tupA_one, tupA_two, VIf_true, VIf_false, aop, evalA_tmp, evalA_const, evalA_func, evalsA, partsA, evalO, plain_int, plain_bool, plain_string, plain_slnil, plain_nilFunc, plain_pnil, onev_some, one_some, oneu_some, updO, upd_def, ofArgs, bin_eq, binV, intBin, un_eq, unV, min_eq, max_eq, mmV, builtinA,  List.getElem?_toArray, List.getElem?_cons_succ, List.getElem?_cons_zero, List.getD_cons_zero, List.getD_cons_succ, List.size_toArray, List.toList_toArray, List.length_cons, List.length_nil, Option.bind_some, Option.map_some, Option.getD_some, Option.isSome_some, Nat.reduceLT, Nat.reduceEqDiff, Nat.reduceAdd, Nat.reduceSub, Nat.reduceMul, reduceIte, if_true, if_false, Bool.false_eq_true, reduceCtorEq, and_self, true_and, and_true, List.nil_append, List.cons_append, List.append_nil, Bool.not_true, Bool.not_false, t5], by simp only [und3, und4, und22, und24, und25, und35, und58, und61, info3, info4, info22, info24, info25, info35, info58, info61, aggT, VL_nil, VL_none, VX_false, VX_call, ic_value, VL_guard, VG_some, VG_none, gvV_bool, gvV_undef, VC_some, yieldedA_tl, gv, dstAt, VOp_some, ic_move, ic_assign, ic_pick, ic_alloc, ic_box, ic_build, ic_buildSlice, ic_load, ic_store, ic_nilCheck, ic_binOp, ic_unOp, ic_convert, ic_makeInterface, ic_makeFunc, ic_makeMap, ic_makeSlice, ic_slice, ic_fieldAddr, ic_field, ic_indexAddr, ic_index, ic_lookup, ic_mapUpdate, ic_insert, ic_extract, ic_builtin, KN_apply, Then_normal, Then_exit, Then_ret, Blk_normal, Blk_exit, Blk_ret, LoopQ_exit, LoopQ_ret, RetQ_ret, RetQ_normal, RetV_some, resA_nil, resA_tmp, tl_getD, tupA_one, tupA_two, VIf_true, VIf_false, aop, evalA_tmp, evalA_const, evalA_func, evalsA, partsA, evalO, plain_int, plain_bool, plain_string, plain_slnil, plain_nilFunc, plain_pnil, onev_some, one_some, oneu_some, updO, upd_def, ofArgs, bin_eq, binV, intBin, un_eq, unV, min_eq, max_eq, mmV, builtinA,  List.getElem?_toArray, List.getElem?_cons_succ, List.getElem?_cons_zero, List.getD_cons_zero, List.getD_cons_succ, List.size_toArray, List.toList_toArray, List.length_cons, List.length_nil, Option.bind_some, Option.map_some, Option.getD_some, Option.isSome_some, Nat.reduceLT, Nat.reduceEqDiff, Nat.reduceAdd, Nat.reduceSub, Nat.reduceMul, reduceIte, if_true, if_false, Bool.false_eq_true, reduceCtorEq, and_self, true_and, and_true, List.nil_append, List.cons_append, List.append_nil, Bool.not_true, Bool.not_false, t9], by simp only [und3, und4, und22, und24, und25, und35, und58, und61, info3, info4, info22, info24, info25, info35, info58, info61, aggT, VL_nil, VL_none, VX_false, VX_call, ic_value, VL_guard, VG_some, VG_none, gvV_bool, gvV_undef, VC_some, yieldedA_tl, gv, dstAt, VOp_some, ic_move, ic_assign, ic_pick, ic_alloc, ic_box, ic_build, ic_buildSlice, ic_load, ic_store, ic_nilCheck, ic_binOp, ic_unOp, ic_convert, ic_makeInterface, ic_makeFunc, ic_makeMap, ic_makeSlice, ic_slice, ic_fieldAddr, ic_field, ic_indexAddr, ic_index, ic_lookup, ic_mapUpdate, ic_insert, ic_extract, ic_builtin, KN_apply, Then_normal, Then_exit, Then_ret, Blk_normal, Blk_exit, Blk_ret, LoopQ_exit, LoopQ_ret, RetQ_ret, RetQ_normal, RetV_some, resA_nil, resA_tmp, tl_getD, tupA_one, tupA_two, VIf_true, VIf_false, aop, evalA_tmp, evalA_const, evalA_func, evalsA, partsA, evalO, plain_int, plain_bool, plain_string, plain_slnil, plain_nilFunc, plain_pnil, onev_some, one_some, oneu_some, updO, upd_def, ofArgs, bin_eq, binV, intBin, un_eq, unV, min_eq, max_eq, mmV, builtinA,  List.getElem?_toArray, List.getElem?_cons_succ, List.getElem?_cons_zero, List.getD_cons_zero, List.getD_cons_succ, List.size_toArray, List.toList_toArray, List.length_cons, List.length_nil, Option.bind_some, Option.map_some, Option.getD_some, Option.isSome_some, Nat.reduceLT, Nat.reduceEqDiff, Nat.reduceAdd, Nat.reduceSub, Nat.reduceMul, reduceIte, if_true, if_false, Bool.false_eq_true, reduceCtorEq, and_self, true_and, and_true, List.nil_append, List.cons_append, List.append_nil, Bool.not_true, Bool.not_false, t14], ⟨b1.ok, by omega, ?_, b1.mono.trans hE.mono⟩, vt', by simp only [und3, und4, und22, und24, und25, und35, und58, und61, info3, info4, info22, info24, info25, info35, info58, info61, aggT, VL_nil, VL_none, VX_false, VX_call, ic_value, VL_guard, VG_some, VG_none, gvV_bool, gvV_undef, VC_some, yieldedA_tl, gv, dstAt, VOp_some, ic_move, ic_assign, ic_pick, ic_alloc, ic_box, ic_build, ic_buildSlice, ic_load, ic_store, ic_nilCheck, ic_binOp, ic_unOp, ic_convert, ic_makeInterface, ic_makeFunc, ic_makeMap, ic_makeSlice, ic_slice, ic_fieldAddr, ic_field, ic_indexAddr, ic_index, ic_lookup, ic_mapUpdate, ic_insert, ic_extract, ic_builtin, KN_apply, Then_normal, Then_exit, Then_ret, Blk_normal, Blk_exit, Blk_ret, LoopQ_exit, LoopQ_ret, RetQ_ret, RetQ_normal, RetV_some, resA_nil, resA_tmp, tl_getD, tupA_one, tupA_two, VIf_true, VIf_false, aop, evalA_tmp, evalA_const, evalA_func, evalsA, partsA, evalO, plain_int, plain_bool, plain_string, plain_slnil, plain_nilFunc, plain_pnil, onev_some, one_some, oneu_some, updO, upd_def, ofArgs, bin_eq, binV, intBin, un_eq, unV, min_eq, max_eq, mmV, builtinA,  List.getElem?_toArray, List.getElem?_cons_succ, List.getElem?_cons_zero, List.getD_cons_zero, List.getD_cons_succ, List.size_toArray, List.toList_toArray, List.length_cons, List.length_nil, Option.bind_some, Option.map_some, Option.getD_some, Option.isSome_some, Nat.reduceLT, Nat.reduceEqDiff, Nat.reduceAdd, Nat.reduceSub, Nat.reduceMul, reduceIte, if_true, if_false, Bool.false_eq_true, reduceCtorEq, and_self, true_and, and_true, List.nil_append, List.cons_append, List.append_nil, Bool.not_true, Bool.not_false], ?_, ?_⟩
        · intro i hi
          rw [b1.lo (lo := S3.n) (fun b hb => (hM1.base hb).1) hi (by rw [push_n]; omega), get_push_ne _ (by omega)]
          exact hE.same i hi
        · rw [hsu, List.length_append, ← iv_append]
          exact m1
        · rw [hsu, List.length_append]; simp; omega
      · have hone' : ((run0 N xs xs.length).2.getD k 0 == 1) = false := by simpa using hone
        repeat (first | with_reducible refine W_seq ?_ | with_reducible refine W_block ?_ | with_reducible refine W_scope ?_ | ((first | with_reducible refine W_regionV hTT ?_ | with_reducible refine W_condV ?_ | with_reducible refine W_ret ?_ | with_reducible refine W_exit ?_ | with_reducible refine W_skip ?_ | with_reducible refine W_label ?_ | with_reducible refine W_drawV hTT (by kernel_rfl) ?_); simp only [und3, und4, und22, und24, und25, und35, und58, und61, info3, info4, info22, info24, info25, info35, info58, info61, aggT, VL_nil, VL_none, VX_false, VX_call, ic_value, VL_guard, VG_some, VG_none, gvV_bool, gvV_undef, VC_some, yieldedA_tl, gv, dstAt, VOp_some, ic_move, ic_assign, ic_pick, ic_alloc, ic_box, ic_build, ic_buildSlice, ic_load, ic_store, ic_nilCheck, ic_binOp, ic_unOp, ic_convert, ic_makeInterface, ic_makeFunc, ic_makeMap, ic_makeSlice, ic_slice, ic_fieldAddr, ic_field, ic_indexAddr, ic_index, ic_lookup, ic_mapUpdate, ic_insert, ic_extract, ic_builtin, KN_apply, Then_normal, Then_exit, Then_ret, Blk_normal, Blk_exit, Blk_ret, LoopQ_exit, LoopQ_ret, RetQ_ret, RetQ_normal, RetV_some, resA_nil, resA_tmp, tl_getD, tupA_one, tupA_two, VIf_true, VIf_false, aop, evalA_tmp, evalA_const, evalA_func, evalsA, partsA, evalO, plain_int, plain_bool, plain_string, plain_slnil, plain_nilFunc, plain_pnil, onev_some, one_some, oneu_some, updO, upd_def, ofArgs, bin_eq, binV, intBin, un_eq, unV, min_eq, max_eq, mmV, builtinA,  List.getElem?_toArray, List.getElem?_cons_succ, List.getElem?_cons_zero, List.getD_cons_zero, List.getD_cons_succ, List.size_toArray, List.toList_toArray, List.length_cons, List.length_nil, Option.bind_some, Option.map_some, Option.getD_some, Option.isSome_some, Nat.reduceLT, Nat.reduceEqDiff, Nat.reduceAdd, Nat.reduceSub, Nat.reduceMul, reduceIte, if_true, if_false, Bool.false_eq_true, reduceCtorEq, and_self, true_and, and_true, List.nil_append, List.cons_append, List.append_nil, Bool.not_true, Bool.not_false, t0, t5, t9, t13, t14, c1, i1, g1, hone', hw]))
        rw [if_neg hone] at hsu
        exact LoopQ_intro (N - (k + 1)) (by omega) ⟨rfl, k + 1, rfl, by omega, by simp only [und3, und4, und22, und24, und25, und35, und58, und61, info3, info4, info22, info24, info25, info35, info58, info61, aggT, VL_nil, VL_none, VX_false, VX_call, ic_value, VL_guard, VG_some, VG_none, gvV_bool, gvV_undef, VC_some, yieldedA_tl, gv, dstAt, VOp_some, ic_move, ic_assign, ic_pick, ic_alloc, ic_box, ic_build, ic_buildSlice, ic_load, ic_store, ic_nilCheck, ic_binOp, ic_unOp, ic_convert, ic_makeInterface, ic_makeFunc, ic_makeMap, ic_makeSlice, ic_slice, ic_fieldAddr, ic_field, ic_indexAddr, ic_index, ic_lookup, ic_mapUpdate, ic_insert, ic_extract, ic_builtin, KN_apply, Then_normal, Then_exit, Then_ret, Blk_normal, Blk_exit, Blk_ret, LoopQ_exit, LoopQ_ret, RetQ_ret, RetQ_normal, RetV_some, resA_nil, resA_tmp, tl_getD, tupA_one, tupA_two, VIf_true, VIf_false, aop, evalA_tmp, evalA_const, evalA_func, evalsA, partsA, evalO, plain_int, plain_bool, plain_string, plain_slnil, plain_nilFunc, plain_pnil, onev_some, one_some, oneu_some, updO, upd_def, ofArgs, bin_eq, binV, intBin, un_eq, unV, min_eq, max_eq, mmV, builtinA,  List.getElem?_toArray, List.getElem?_cons_succ, List.getElem?_cons_zero, List.getD_cons_zero, List.getD_cons_succ, List.size_toArray, List.toList_toArray, List.length_cons, List.length_nil, Option.bind_some, Option.map_some, Option.getD_some, Option.isSome_some, Nat.reduceLT, Nat.reduceEqDiff, Nat.reduceAdd, Nat.reduceSub, Nat.reduceMul, reduceIte, if_true, if_false, Bool.false_eq_true, reduceCtorEq, and_self, true_and, and_true, List.nil_append, List.cons_append, List.append_nil, Bool.not_true, Bool.not_false, t0], by simp only [und3, und4, und22, und24, und25, und35, und58, und61, info3, info4, info22, info24, info25, info35, info58, info61, aggT, VL_nil, VL_none, VX_false, VX_call, ic_value, VL_guard, VG_some, VG_none, gvV_bool, gvV_undef, VC_some, yieldedA_tl, gv, dstAt, VOp_some, ic_move, ic_assign, ic_pick, ic_alloc, ic_box, ic_build, ic_buildSlice, ic_load, ic_store, ic_nilCheck, ic_binOp, ic_unOp, ic_convert, ic_makeInterface, ic_makeFunc, ic_makeMap, ic_makeSlice, ic_slice, ic_fieldAddr, ic_field, ic_indexAddr, ic_index, ic_lookup, ic_mapUpdate, ic_insert, ic_extract, ic_builtin, KN_apply, Then_normal, Then_exit, Then_ret, Blk_normal, Blk_exit, Blk_ret, LoopQ_exit, LoopQ_ret, RetQ_ret, RetQ_normal, RetV_some, resA_nil, resA_tmp, tl_getD, tupA_one, tupA_two, VIf_true, VIf_false, aop, evalA_tmp, evalA_const, evalA_func, evalsA, partsA, evalO, plain_int, plain_bool, plain_string, plain_slnil, plain_nilFunc, plain_pnil, onev_some, one_some, oneu_some, updO, upd_def, ofArgs, bin_eq, binV, intBin, un_eq, unV, min_eq, max_eq, mmV, builtinA,  List.getElem?_toArray, List.getElem?_cons_succ, List.getElem?_cons_zero, List.getD_cons_zero, List.getD_cons_succ, List.size_toArray, List.toList_toArray, List.length_cons, List.length_nil, Option.bind_some, Option.map_some, Option.getD_some, Option.isSome_some, Nat.reduceLT, Nat.reduceEqDiff, Nat.reduceAdd, Nat.reduceSub, Nat.reduceMul, reduceIte, if_true, if_false, Bool.false_eq_true, reduceCtorEq, and_self, true_and, and_true, List.nil_append, List.cons_append, List.append_nil, Bool.not_true, Bool.not_false, t5], by simp only [und3, und4, und22, und24, und25, und35, und58, und61, info3, info4, info22, info24, info25, info35, info58, info61, aggT, VL_nil, VL_none, VX_false, VX_call, ic_value, VL_guard, VG_some, VG_none, gvV_bool, gvV_undef, VC_some, yieldedA_tl, gv, dstAt, VOp_some, ic_move, ic_assign, ic_pick, ic_alloc, ic_box, ic_build, ic_buildSlice, ic_load, ic_store, ic_nilCheck, ic_binOp, ic_unOp, ic_convert, ic_makeInterface, ic_makeFunc, ic_makeMap, ic_makeSlice, ic_slice, ic_fieldAddr, ic_field, ic_indexAddr, ic_index, ic_lookup, ic_mapUpdate, ic_insert, ic_extract, ic_builtin, KN_apply, Then_normal, Then_exit, Then_ret, Blk_normal, Blk_exit, Blk_ret, LoopQ_exit, LoopQ_ret, RetQ_ret, RetQ_normal, RetV_some, resA_nil, resA_tmp, tl_getD, tupA_one, tupA_two, VIf_true, VIf_false, aop, evalA_tmp, evalA_const, evalA_func, evalsA, partsA, evalO, plain_int, plain_bool, plain_string, plain_slnil, plain_nilFunc, plain_pnil, onev_some, one_some, oneu_some, updO, upd_def, ofArgs, bin_eq, binV, intBin, un_eq, unV, min_eq, max_eq, mmV, builtinA,  List.getElem?_toArray, List.getElem?_cons_succ, List.getElem?_cons_zero, List.getD_cons_zero, List.getD_cons_succ, List.size_toArray, List.toList_toArray, List.length_cons, List.length_nil, Option.bind_some, Option.map_some, Option.getD_some, Option.isSome_some, Nat.reduceLT, Nat.reduceEqDiff, Nat.reduceAdd, Nat.reduceSub, Nat.reduceMul, reduceIte, if_true, if_false, Bool.false_eq_true, reduceCtorEq, and_self, true_and, and_true, List.nil_append, List.cons_append, List.append_nil, Bool.not_true, Bool.not_false, t9], by simp only [und3, und4, und22, und24, und25, und35, und58, und61, info3, info4, info22, info24, info25, info35, info58, info61, aggT, VL_nil, VL_none, VX_false, VX_call, ic_value, VL_guard, VG_some, VG_none, gvV_bool, gvV_undef, VC_some, yieldedA_tl, gv, dstAt, VOp_some, ic_move, ic_assign, ic_pick, ic_alloc, ic_box, ic_build, ic_buildSlice, ic_load, ic_store, ic_nilCheck, ic_binOp, ic_unOp, ic_convert, ic_makeInterface, ic_makeFunc, ic_makeMap, ic_makeSlice, ic_slice, ic_fieldAddr, ic_field, ic_indexAddr, ic_index, ic_lookup, ic_mapUpdate, ic_insert, ic_extract, ic_builtin, KN_apply, Then_normal, Then_exit, Then_ret, Blk_normal, Blk_exit, Blk_ret, LoopQ_exit, LoopQ_ret, RetQ_ret, RetQ_normal, RetV_some, resA_nil, resA_tmp, tl_getD, tupA_one, tupA_two, VIf_true, VIf_false, aop, evalA_tmp, evalA_const, evalA_func, evalsA, partsA, evalO, plain_int, plain_bool, plain_string, plain_slnil, plain_nilFunc, plain_pnil, onev_some, one_some, oneu_some, updO, upd_def, ofArgs, bin_eq, binV, intBin, un_eq, unV, min_eq, max_eq, mmV, builtinA,  List.getElem?_toArray, List.getElem?_cons_succ, List.getElem?_cons_zero, List.getD_cons_zero, List.getD_cons_succ, List.size_toArray, List.toList_toArray, List.length_cons, List.length_nil, Option.bind_some, Option.map_some, Option.getD_some, Option.isSome_some, Nat.reduceLT, Nat.reduceEqDiff, Nat.reduceAdd, Nat.reduceSub, Nat.reduceMul, reduceIte, if_true, if_false, Bool.false_eq_true, reduceCtorEq, and_self, true_and, and_true, List.nil_append, List.cons_append, List.append_nil, Bool.not_true, Bool.not_false, t14], hE, vt, by simp only [und3, und4, und22, und24, und25, und35, und58, und61, info3, info4, info22, info24, info25, info35, info58, info61, aggT, VL_nil, VL_none, VX_false, VX_call, ic_value, VL_guard, VG_some, VG_none, gvV_bool, gvV_undef, VC_some, yieldedA_tl, gv, dstAt, VOp_some, ic_move, ic_assign, ic_pick, ic_alloc, ic_box, ic_build, ic_buildSlice, ic_load, ic_store, ic_nilCheck, ic_binOp, ic_unOp, ic_convert, ic_makeInterface, ic_makeFunc, ic_makeMap, ic_makeSlice, ic_slice, ic_fieldAddr, ic_field, ic_indexAddr, ic_index, ic_lookup, ic_mapUpdate, ic_insert, ic_extract, ic_builtin, KN_apply, Then_normal, Then_exit, Then_ret, Blk_normal, Blk_exit, Blk_ret, LoopQ_exit, LoopQ_ret, RetQ_ret, RetQ_normal, RetV_some, resA_nil, resA_tmp, tl_getD, tupA_one, tupA_two, VIf_true, VIf_false, aop, evalA_tmp, evalA_const, evalA_func, evalsA, partsA, evalO, plain_int, plain_bool, plain_string, plain_slnil, plain_nilFunc, plain_pnil, onev_some, one_some, oneu_some, updO, upd_def, ofArgs, bin_eq, binV, intBin, un_eq, unV, min_eq, max_eq, mmV, builtinA,  List.getElem?_toArray, List.getElem?_cons_succ, List.getElem?_cons_zero, List.getD_cons_zero, List.getD_cons_succ, List.size_toArray, List.toList_toArray, List.length_cons, List.length_nil, Option.bind_some, Option.map_some, Option.getD_some, Option.isSome_some, Nat.reduceLT, Nat.reduceEqDiff, Nat.reduceAdd, Nat.reduceSub, Nat.reduceMul, reduceIte, if_true, if_false, Bool.false_eq_true, reduceCtorEq, and_self, true_and, and_true, List.nil_append, List.cons_append, List.append_nil, Bool.not_true, Bool.not_false, t13], by rw [hsu]; exact hMt, by rw [hsu]; omega⟩
    · have c1 : decide ((k : Int) < N) = false := by simpa using hlt
      repeat (first | with_reducible refine W_seq ?_ | with_reducible refine W_block ?_ | with_reducible refine W_scope ?_ | ((first | with_reducible refine W_regionV hTT ?_ | with_reducible refine W_condV ?_ | with_reducible refine W_ret ?_ | with_reducible refine W_exit ?_ | with_reducible refine W_skip ?_ | with_reducible refine W_label ?_ | with_reducible refine W_drawV hTT (by kernel_rfl) ?_); simp only [und3, und4, und22, und24, und25, und35, und58, und61, info3, info4, info22, info24, info25, info35, info58, info61, aggT, VL_nil, VL_none, VX_false, VX_call, ic_value, VL_guard, VG_some, VG_none, gvV_bool, gvV_undef, VC_some, yieldedA_tl, gv, dstAt, VOp_some, ic_move, ic_assign, ic_pick, ic_alloc, ic_box, ic_build, ic_buildSlice, ic_load, ic_store, ic_nilCheck, ic_binOp, ic_unOp, ic_convert, ic_makeInterface, ic_makeFunc, ic_makeMap, ic_makeSlice, ic_slice, ic_fieldAddr, ic_field, ic_indexAddr, ic_index, ic_lookup, ic_mapUpdate, ic_insert, ic_extract, ic_builtin, KN_apply, Then_normal, Then_exit, Then_ret, Blk_normal, Blk_exit, Blk_ret, LoopQ_exit, LoopQ_ret, RetQ_ret, RetQ_normal, RetV_some, resA_nil, resA_tmp, tl_getD, tupA_one, tupA_two, VIf_true, VIf_false, aop, evalA_tmp, evalA_const, evalA_func, evalsA, partsA, evalO, plain_int, plain_bool, plain_string, plain_slnil, plain_nilFunc, plain_pnil, onev_some, one_some, oneu_some, updO, upd_def, ofArgs, bin_eq, binV, intBin, un_eq, unV, min_eq, max_eq, mmV, builtinA,  List.getElem?_toArray, List.getElem?_cons_succ, List.getElem?_cons_zero, List.getD_cons_zero, List.getD_cons_succ, List.size_toArray, List.toList_toArray, List.length_cons, List.length_nil, Option.bind_some, Option.map_some, Option.getD_some, Option.isSome_some, Nat.reduceLT, Nat.reduceEqDiff, Nat.reduceAdd, Nat.reduceSub, Nat.reduceMul, reduceIte, if_true, if_false, Bool.false_eq_true, reduceCtorEq, and_self, true_and, and_true, List.nil_append, List.cons_append, List.append_nil, Bool.not_true, Bool.not_false, t0, t5, t9, t13, t14, c1]))
      have : k = N := by omega
      subst this
      exact NQ_intro ⟨rfl, by simp only [und3, und4, und22, und24, und25, und35, und58, und61, info3, info4, info22, info24, info25, info35, info58, info61, aggT, VL_nil, VL_none, VX_false, VX_call, ic_value, VL_guard, VG_some, VG_none, gvV_bool, gvV_undef, VC_some, yieldedA_tl, gv, dstAt, VOp_some, ic_move, ic_assign, ic_pick, ic_alloc, ic_box, ic_build, ic_buildSlice, ic_load, ic_store, ic_nilCheck, ic_binOp, ic_unOp, ic_convert, ic_makeInterface, ic_makeFunc, ic_makeMap, ic_makeSlice, ic_slice, ic_fieldAddr, ic_field, ic_indexAddr, ic_index, ic_lookup, ic_mapUpdate, ic_insert, ic_extract, ic_builtin, KN_apply, Then_normal, Then_exit, Then_ret, Blk_normal, Blk_exit, Blk_ret, LoopQ_exit, LoopQ_ret, RetQ_ret, RetQ_normal, RetV_some, resA_nil, resA_tmp, tl_getD, tupA_one, tupA_two, VIf_true, VIf_false, aop, evalA_tmp, evalA_const, evalA_func, evalsA, partsA, evalO, plain_int, plain_bool, plain_string, plain_slnil, plain_nilFunc, plain_pnil, onev_some, one_some, oneu_some, updO, upd_def, ofArgs, bin_eq, binV, intBin, un_eq, unV, min_eq, max_eq, mmV, builtinA,  List.getElem?_toArray, List.getElem?_cons_succ, List.getElem?_cons_zero, List.getD_cons_zero, List.getD_cons_succ, List.size_toArray, List.toList_toArray, List.length_cons, List.length_nil, Option.bind_some, Option.map_some, Option.getD_some, Option.isSome_some, Nat.reduceLT, Nat.reduceEqDiff, Nat.reduceAdd, Nat.reduceSub, Nat.reduceMul, reduceIte, if_true, if_false, Bool.false_eq_true, reduceCtorEq, and_self, true_and, and_true, List.nil_append, List.cons_append, List.append_nil, Bool.not_true, Bool.not_false, t0], by simp only [und3, und4, und22, und24, und25, und35, und58, und61, info3, info4, info22, info24, info25, info35, info58, info61, aggT, VL_nil, VL_none, VX_false, VX_call, ic_value, VL_guard, VG_some, VG_none, gvV_bool, gvV_undef, VC_some, yieldedA_tl, gv, dstAt, VOp_some, ic_move, ic_assign, ic_pick, ic_alloc, ic_box, ic_build, ic_buildSlice, ic_load, ic_store, ic_nilCheck, ic_binOp, ic_unOp, ic_convert, ic_makeInterface, ic_makeFunc, ic_makeMap, ic_makeSlice, ic_slice, ic_fieldAddr, ic_field, ic_indexAddr, ic_index, ic_lookup, ic_mapUpdate, ic_insert, ic_extract, ic_builtin, KN_apply, Then_normal, Then_exit, Then_ret, Blk_normal, Blk_exit, Blk_ret, LoopQ_exit, LoopQ_ret, RetQ_ret, RetQ_normal, RetV_some, resA_nil, resA_tmp, tl_getD, tupA_one, tupA_two, VIf_true, VIf_false, aop, evalA_tmp, evalA_const, evalA_func, evalsA, partsA, evalO, plain_int, plain_bool, plain_string, plain_slnil, plain_nilFunc, plain_pnil, onev_some, one_some, oneu_some, updO, upd_def, ofArgs, bin_eq, binV, intBin, un_eq, unV, min_eq, max_eq, mmV, builtinA,  List.getElem?_toArray, List.getElem?_cons_succ, List.getElem?_cons_zero, List.getD_cons_zero, List.getD_cons_succ, List.size_toArray, List.toList_toArray, List.length_cons, List.length_nil, Option.bind_some, Option.map_some, Option.getD_some, Option.isSome_some, Nat.reduceLT, Nat.reduceEqDiff, Nat.reduceAdd, Nat.reduceSub, Nat.reduceMul, reduceIte, if_true, if_false, Bool.false_eq_true, reduceCtorEq, and_self, true_and, and_true, List.nil_append, List.cons_append, List.append_nil, Bool.not_true, Bool.not_false, t5], by simp only [und3, und4, und22, und24, und25, und35, und58, und61, info3, info4, info22, info24, info25, info35, info58, info61, aggT, VL_nil, VL_none, VX_false, VX_call, ic_value, VL_guard, VG_some, VG_none, gvV_bool, gvV_undef, VC_some, yieldedA_tl, gv, dstAt, VOp_some, ic_move, ic_assign, ic_pick, ic_alloc, ic_box, ic_build, ic_buildSlice, ic_load, ic_store, ic_nilCheck, ic_binOp, ic_unOp, ic_convert, ic_makeInterface, ic_makeFunc, ic_makeMap, ic_makeSlice, ic_slice, ic_fieldAddr, ic_field, ic_indexAddr, ic_index, ic_lookup, ic_mapUpdate, ic_insert, ic_extract, ic_builtin, KN_apply, Then_normal, Then_exit, Then_ret, Blk_normal, Blk_exit, Blk_ret, LoopQ_exit, LoopQ_ret, RetQ_ret, RetQ_normal, RetV_some, resA_nil, resA_tmp, tl_getD, tupA_one, tupA_two, VIf_true, VIf_false, aop, evalA_tmp, evalA_const, evalA_func, evalsA, partsA, evalO, plain_int, plain_bool, plain_string, plain_slnil, plain_nilFunc, plain_pnil, onev_some, one_some, oneu_some, updO, upd_def, ofArgs, bin_eq, binV, intBin, un_eq, unV, min_eq, max_eq, mmV, builtinA,  List.getElem?_toArray, List.getElem?_cons_succ, List.getElem?_cons_zero, List.getD_cons_zero, List.getD_cons_succ, List.size_toArray, List.toList_toArray, List.length_cons, List.length_nil, Option.bind_some, Option.map_some, Option.getD_some, Option.isSome_some, Nat.reduceLT, Nat.reduceEqDiff, Nat.reduceAdd, Nat.reduceSub, Nat.reduceMul, reduceIte, if_true, if_false, Bool.false_eq_true, reduceCtorEq, and_self, true_and, and_true, List.nil_append, List.cons_append, List.append_nil, Bool.not_true, Bool.not_false, t9], hE, vt, by simp only [und3, und4, und22, und24, und25, und35, und58, und61, info3, info4, info22, info24, info25, info35, info58, info61, aggT, VL_nil, VL_none, VX_false, VX_call, ic_value, VL_guard, VG_some, VG_none, gvV_bool, gvV_undef, VC_some, yieldedA_tl, gv, dstAt, VOp_some, ic_move, ic_assign, ic_pick, ic_alloc, ic_box, ic_build, ic_buildSlice, ic_load, ic_store, ic_nilCheck, ic_binOp, ic_unOp, ic_convert, ic_makeInterface, ic_makeFunc, ic_makeMap, ic_makeSlice, ic_slice, ic_fieldAddr, ic_field, ic_indexAddr, ic_index, ic_lookup, ic_mapUpdate, ic_insert, ic_extract, ic_builtin, KN_apply, Then_normal, Then_exit, Then_ret, Blk_normal, Blk_exit, Blk_ret, LoopQ_exit, LoopQ_ret, RetQ_ret, RetQ_normal, RetV_some, resA_nil, resA_tmp, tl_getD, tupA_one, tupA_two, VIf_true, VIf_false, aop, evalA_tmp, evalA_const, evalA_func, evalsA, partsA, evalO, plain_int, plain_bool, plain_string, plain_slnil, plain_nilFunc, plain_pnil, onev_some, one_some, oneu_some, updO, upd_def, ofArgs, bin_eq, binV, intBin, un_eq, unV, min_eq, max_eq, mmV, builtinA,  List.getElem?_toArray, List.getElem?_cons_succ, List.getElem?_cons_zero, List.getD_cons_zero, List.getD_cons_succ, List.size_toArray, List.toList_toArray, List.length_cons, List.length_nil, Option.bind_some, Option.map_some, Option.getD_some, Option.isSome_some, Nat.reduceLT, Nat.reduceEqDiff, Nat.reduceAdd, Nat.reduceSub, Nat.reduceMul, reduceIte, if_true, if_false, Bool.false_eq_true, reduceCtorEq, and_self, true_and, and_true, List.nil_append, List.cons_append, List.append_nil, Bool.not_true, Bool.not_false, t13], hMt⟩
  clear t0 t5 t9
  rintro τ ds S4 ⟨rfl, t0, t5, t9, hE, vt, t13, hMt⟩
  have hM4 : Mine S4 35 2 (S.n + 1) vo _ _ := hM.same fun b hb => hE.same b (hM.base hb).2
  have hT4 := hT.ext hE
  have hl2 : 2 ≤ (ones1 (run0 N xs xs.length).2 N).length := by
    have hlf := hg.leaf1 xs.length (Nat.le_refl _)
    have hl2 := hg.leaf2
    obtain ⟨u, hu⟩ : ∃ u : Nat, leaf (run0 N xs xs.length).2 = (u : Int) := ⟨(leaf (run0 N xs xs.length).2).toNat, by omega⟩
    rw [hu] at hlf hl2
    simp only [Int.toNat_natCast] at hl2
    obtain ⟨y, hy⟩ : ∃ y : Nat, leaf (dec (run0 N xs xs.length).2 u) = (y : Int) := ⟨(leaf (dec (run0 N xs xs.length).2 u)).toNat, by omega⟩
    obtain ⟨u1, u2, u3⟩ := leaf_spec hu
    obtain ⟨y1, y2, y3⟩ := leaf_spec hy
    rw [dec_len, hT.len] at y1
    rw [hT.len] at u1
    have hne : u ≠ y := by
      rintro rfl
      rw [dec_getD, if_pos ⟨rfl, by rw [hT.len]; exact u1⟩, u2] at y2
      omega
    have y2' : (run0 N xs xs.length).2.getD y 0 = 1 := by
      rw [dec_getD, if_neg (fun h => hne h.1)] at y2; exact y2
    have hu' : u ∈ (List.range N).filter (fun j => (run0 N xs xs.length).2.getD j 0 == 1) := by
      rw [List.mem_filter, List.mem_range]
      exact ⟨u1, by simpa using u2⟩
    have hy' : y ∈ (List.range N).filter (fun j => (run0 N xs xs.length).2.getD j 0 == 1) := by
      rw [List.mem_filter, List.mem_range]
      exact ⟨y1, by simpa using y2'⟩
    unfold ones1
    rw [List.length_map]
    generalize (List.range N).filter (fun j => (run0 N xs xs.length).2.getD j 0 == 1) = F at hu' hy' ⊢
    match F, hu', hy' with
    | [], h, _ => simp at h
    | [a], h1, h2 => simp at h1 h2; exact absurd (h1.trans h2.symm) hne
    | a :: b :: F, _, _ => simp
  generalize hL : ones1 (run0 N xs xs.length).2 N = L at hMt hl2
  obtain ⟨u0, y0, r, rfl⟩ : ∃ u0 y0 r, L = u0 :: y0 :: r := by
    cases L with
    | nil => simp at hl2
    | cons a L => cases L with
      | nil => simp at hl2
      | cons b L => exact ⟨a, b, L, rfl⟩
  obtain ⟨p0, p1, p2, _⟩ := hMt.sl.at1 (T := TT) (k := .i64) (i := 0) und22 info3 und3 rfl rfl (by simp)
  obtain ⟨q0, q1, q2, _⟩ := hMt.sl.at1 (T := TT) (k := .i64) (i := 1) und22 info3 und3 rfl rfl (by simp)
  have p1' : indexAddrA TT 22 (.int .i64 0) vt = some p0 := p1
  have q1' : indexAddrA TT 22 (.int .i64 1) vt = some q0 := q1
  have p2' : loadA TT S4 3 p0 = some (.int .i64 u0) := by rw [p2]; rfl
  have q2' : loadA TT S4 3 q0 = some (.int .i64 y0) := by rw [q2]; rfl
  (try simp only [und3, und4, und22, und24, und25, und35, und58, und61, info3, info4, info22, info24, info25, info35, info58, info61, aggT, VL_nil, VL_none, VX_false, VX_call, ic_value, VL_guard, VG_some, VG_none, gvV_bool, gvV_undef, VC_some, yieldedA_tl, gv, dstAt, VOp_some, ic_move, ic_assign, ic_pick, ic_alloc, ic_box, ic_build, ic_buildSlice, ic_load, ic_store, ic_nilCheck, ic_binOp, ic_unOp, ic_convert, ic_makeInterface, ic_makeFunc, ic_makeMap, ic_makeSlice, ic_slice, ic_fieldAddr, ic_field, ic_indexAddr, ic_index, ic_lookup, ic_mapUpdate, ic_insert, ic_extract, ic_builtin, KN_apply, Then_normal, Then_exit, Then_ret, Blk_normal, Blk_exit, Blk_ret, LoopQ_exit, LoopQ_ret, RetQ_ret, RetQ_normal, RetV_some, resA_nil, resA_tmp, tl_getD, tupA_one, tupA_two, VIf_true, VIf_false, aop, evalA_tmp, evalA_const, evalA_func, evalsA, partsA, evalO, plain_int, plain_bool, plain_string, plain_slnil, plain_nilFunc, plain_pnil, onev_some, one_some, oneu_some, updO, upd_def, ofArgs, bin_eq, binV, intBin, un_eq, unV, min_eq, max_eq, mmV, builtinA,  List.getElem?_toArray, List.getElem?_cons_succ, List.getElem?_cons_zero, List.getD_cons_zero, List.getD_cons_succ, List.size_toArray, List.toList_toArray, List.length_cons, List.length_nil, Option.bind_some, Option.map_some, Option.getD_some, Option.isSome_some, Nat.reduceLT, Nat.reduceEqDiff, Nat.reduceAdd, Nat.reduceSub, Nat.reduceMul, reduceIte, if_true, if_false, Bool.false_eq_true, reduceCtorEq, and_self, true_and, and_true, List.nil_append, List.cons_append, List.append_nil, Bool.not_true, Bool.not_false, t0, t5, t9, t13, p1', q1', p2', q2']); repeat (first | with_reducible refine W_seq ?_ | with_reducible refine W_block ?_ | with_reducible refine W_scope ?_ | ((first | with_reducible refine W_regionV hTT ?_ | with_reducible refine W_condV ?_ | with_reducible refine W_ret ?_ | with_reducible refine W_exit ?_ | with_reducible refine W_skip ?_ | with_reducible refine W_label ?_ | with_reducible refine W_drawV hTT (by kernel_rfl) ?_); simp only [und3, und4, und22, und24, und25, und35, und58, und61, info3, info4, info22, info24, info25, info35, info58, info61, aggT, VL_nil, VL_none, VX_false, VX_call, ic_value, VL_guard, VG_some, VG_none, gvV_bool, gvV_undef, VC_some, yieldedA_tl, gv, dstAt, VOp_some, ic_move, ic_assign, ic_pick, ic_alloc, ic_box, ic_build, ic_buildSlice, ic_load, ic_store, ic_nilCheck, ic_binOp, ic_unOp, ic_convert, ic_makeInterface, ic_makeFunc, ic_makeMap, ic_makeSlice, ic_slice, ic_fieldAddr, ic_field, ic_indexAddr, ic_index, ic_lookup, ic_mapUpdate, ic_insert, ic_extract, ic_builtin, KN_apply, Then_normal, Then_exit, Then_ret, Blk_normal, Blk_exit, Blk_ret, LoopQ_exit, LoopQ_ret, RetQ_ret, RetQ_normal, RetV_some, resA_nil, resA_tmp, tl_getD, tupA_one, tupA_two, VIf_true, VIf_false, aop, evalA_tmp, evalA_const, evalA_func, evalsA, partsA, evalO, plain_int, plain_bool, plain_string, plain_slnil, plain_nilFunc, plain_pnil, onev_some, one_some, oneu_some, updO, upd_def, ofArgs, bin_eq, binV, intBin, un_eq, unV, min_eq, max_eq, mmV, builtinA,  List.getElem?_toArray, List.getElem?_cons_succ, List.getElem?_cons_zero, List.getD_cons_zero, List.getD_cons_succ, List.size_toArray, List.toList_toArray, List.length_cons, List.length_nil, Option.bind_some, Option.map_some, Option.getD_some, Option.isSome_some, Nat.reduceLT, Nat.reduceEqDiff, Nat.reduceAdd, Nat.reduceSub, Nat.reduceMul, reduceIte, if_true, if_false, Bool.false_eq_true, reduceCtorEq, and_self, true_and, and_true, List.nil_append, List.cons_append, List.append_nil, Bool.not_true, Bool.not_false, t0, t5, t9, t13, p1', q1', p2', q2']))
  refine VCall_intro (edge_call hT4.ok hM4.sl hM4.plain (by rw [insAll_len, run0_len _ _ _ (Nat.le_refl _)]; omega) u0 y0) ?_
  rintro v S5 ⟨hM5, hE5⟩
  (try simp only [und3, und4, und22, und24, und25, und35, und58, und61, info3, info4, info22, info24, info25, info35, info58, info61, aggT, VL_nil, VL_none, VX_false, VX_call, ic_value, VL_guard, VG_some, VG_none, gvV_bool, gvV_undef, VC_some, yieldedA_tl, gv, dstAt, VOp_some, ic_move, ic_assign, ic_pick, ic_alloc, ic_box, ic_build, ic_buildSlice, ic_load, ic_store, ic_nilCheck, ic_binOp, ic_unOp, ic_convert, ic_makeInterface, ic_makeFunc, ic_makeMap, ic_makeSlice, ic_slice, ic_fieldAddr, ic_field, ic_indexAddr, ic_index, ic_lookup, ic_mapUpdate, ic_insert, ic_extract, ic_builtin, KN_apply, Then_normal, Then_exit, Then_ret, Blk_normal, Blk_exit, Blk_ret, LoopQ_exit, LoopQ_ret, RetQ_ret, RetQ_normal, RetV_some, resA_nil, resA_tmp, tl_getD, tupA_one, tupA_two, VIf_true, VIf_false, aop, evalA_tmp, evalA_const, evalA_func, evalsA, partsA, evalO, plain_int, plain_bool, plain_string, plain_slnil, plain_nilFunc, plain_pnil, onev_some, one_some, oneu_some, updO, upd_def, ofArgs, bin_eq, binV, intBin, un_eq, unV, min_eq, max_eq, mmV, builtinA,  List.getElem?_toArray, List.getElem?_cons_succ, List.getElem?_cons_zero, List.getD_cons_zero, List.getD_cons_succ, List.size_toArray, List.toList_toArray, List.length_cons, List.length_nil, Option.bind_some, Option.map_some, Option.getD_some, Option.isSome_some, Nat.reduceLT, Nat.reduceEqDiff, Nat.reduceAdd, Nat.reduceSub, Nat.reduceMul, reduceIte, if_true, if_false, Bool.false_eq_true, reduceCtorEq, and_self, true_and, and_true, List.nil_append, List.cons_append, List.append_nil, Bool.not_true, Bool.not_false]); repeat (first | with_reducible refine W_seq ?_ | with_reducible refine W_block ?_ | with_reducible refine W_scope ?_ | ((first | with_reducible refine W_regionV hTT ?_ | with_reducible refine W_condV ?_ | with_reducible refine W_ret ?_ | with_reducible refine W_exit ?_ | with_reducible refine W_skip ?_ | with_reducible refine W_label ?_ | with_reducible refine W_drawV hTT (by kernel_rfl) ?_); simp only [und3, und4, und22, und24, und25, und35, und58, und61, info3, info4, info22, info24, info25, info35, info58, info61, aggT, VL_nil, VL_none, VX_false, VX_call, ic_value, VL_guard, VG_some, VG_none, gvV_bool, gvV_undef, VC_some, yieldedA_tl, gv, dstAt, VOp_some, ic_move, ic_assign, ic_pick, ic_alloc, ic_box, ic_build, ic_buildSlice, ic_load, ic_store, ic_nilCheck, ic_binOp, ic_unOp, ic_convert, ic_makeInterface, ic_makeFunc, ic_makeMap, ic_makeSlice, ic_slice, ic_fieldAddr, ic_field, ic_indexAddr, ic_index, ic_lookup, ic_mapUpdate, ic_insert, ic_extract, ic_builtin, KN_apply, Then_normal, Then_exit, Then_ret, Blk_normal, Blk_exit, Blk_ret, LoopQ_exit, LoopQ_ret, RetQ_ret, RetQ_normal, RetV_some, resA_nil, resA_tmp, tl_getD, tupA_one, tupA_two, VIf_true, VIf_false, aop, evalA_tmp, evalA_const, evalA_func, evalsA, partsA, evalO, plain_int, plain_bool, plain_string, plain_slnil, plain_nilFunc, plain_pnil, onev_some, one_some, oneu_some, updO, upd_def, ofArgs, bin_eq, binV, intBin, un_eq, unV, min_eq, max_eq, mmV, builtinA,  List.getElem?_toArray, List.getElem?_cons_succ, List.getElem?_cons_zero, List.getD_cons_zero, List.getD_cons_succ, List.size_toArray, List.toList_toArray, List.length_cons, List.length_nil, Option.bind_some, Option.map_some, Option.getD_some, Option.isSome_some, Nat.reduceLT, Nat.reduceEqDiff, Nat.reduceAdd, Nat.reduceSub, Nat.reduceMul, reduceIte, if_true, if_false, Bool.false_eq_true, reduceCtorEq, and_self, true_and, and_true, List.nil_append, List.cons_append, List.append_nil, Bool.not_true, Bool.not_false]))
  have hT5 := hT4.ext hE5
  refine ⟨⟨hT5.ok, by have := hT5.n; omega, hT5.same, hT5.mono⟩, _, hM5.mono (by have := hT4.n; omega), ?_⟩
  rintro a b ⟨r', h⟩
  injection h with h1 h2
  injection h2 with h2 h3
  rw [h1, h2]
end Go.Proofs.Sx
end
/- part Tq -/
section
namespace Go.Proofs.Sx
open Go Go.Ax Go.Proofs Go.RowKit
/-! plain laws on degrees -/
def isum : List Int → Int
  | [] => 0
  | a :: l => a + isum l
theorem isum_set : ∀ (l : List Int) (i : Nat) (x : Int), i < l.length → isum (l.set i x) = isum l - l.getD i 0 + x := by
  intro l
  induction l with
  | nil => intro i x h; simp at h
  | cons a l ih =>
    intro i x h
    cases i with
    | zero => simp [isum]; omega
    | succ i =>
      have := ih i x (by simpa using h)
      simp [isum] at this ⊢
      omega
def nz (l : List Int) : Nat := l.countP (fun x => x != 0)
theorem exists_one : ∀ (l : List Int), (∀ x ∈ l, 0 ≤ x) → isum l < 2 * (nz l : Int) → ∃ i, i < l.length ∧ l.getD i 0 = 1 := by
  intro l
  induction l with
  | nil => intro _ h; simp [isum, nz] at h
  | cons a l ih =>
    intro hp h
    by_cases ha : a = 1
    · exact ⟨0, by simp, by simp [ha]⟩
    · have ha0 := hp a (by simp)
      have hl : isum l < 2 * (nz l : Int) := by
        unfold nz at h ⊢
        rw [List.countP_cons] at h
        simp only [isum] at h
        by_cases h0 : a = 0
        · subst h0; simp at h; omega
        · have : (a != 0) = true := by simpa using h0
          rw [this] at h
          simp at h
          omega
      obtain ⟨i, h1, h2⟩ := ih (fun x hx => hp x (by simp [hx])) hl
      exact ⟨i + 1, by simpa using h1, by simpa using h2⟩
theorem leaf_range {l : List Int} (h : ∃ i, i < l.length ∧ l.getD i 0 = 1) : 0 ≤ leaf l ∧ leaf l < l.length := by
  obtain ⟨i, h1, h2⟩ := h
  unfold leaf idx
  cases hf : l.findIdx? (fun x => 1 == x) with
  | none =>
    rw [List.findIdx?_eq_none_iff] at hf
    have := hf l[i] (List.getElem_mem h1)
    rw [List.getD_eq_getElem?_getD, List.getElem?_eq_getElem h1] at h2
    simp at this h2
    omega
  | some k =>
    rw [List.findIdx?_eq_some_iff_getElem] at hf
    obtain ⟨h3, _⟩ := hf
    simp
    omega
theorem getD_set (l : List Int) (i j : Nat) (x : Int) : (l.set i x).getD j 0 = if i = j ∧ j < l.length then x else l.getD j 0 := by
  rw [List.getD_eq_getElem?_getD, List.getElem?_set]
  by_cases e : i = j
  · subst e
    by_cases h : i < l.length
    · simp [h]
    · simp [h]
  · simp [e]
/-- how often v comes -/
def cnt (xs : List Int) (v : Nat) : Int := (xs.countP (fun x => x == (v : Int)) : Nat)
theorem cnt_cons (x : Int) (xs : List Int) (v : Nat) : cnt (x :: xs) v = cnt xs v + if x = (v : Int) then 1 else 0 := by
  unfold cnt
  rw [List.countP_cons]
  by_cases h : x = (v : Int)
  · simp [h]
  · simp [h]
theorem cnt_le (xs : List Int) (v : Nat) : 0 ≤ cnt xs v ∧ cnt xs v ≤ xs.length := by
  unfold cnt
  have := List.countP_le_length (l := xs) (p := fun x => x == (v : Int))
  omega
theorem inc_getD (l : List Int) (i j : Nat) : (inc l i).getD j 0 = if i = j ∧ j < l.length then l.getD j 0 + 1 else l.getD j 0 := by
  unfold inc
  rw [getD_set]
  split
  · rename_i h; rw [h.1]
  · rfl
theorem inc_len (l : List Int) (i : Nat) : (inc l i).length = l.length := by simp [inc]
theorem incs_len : ∀ (ys : List Int) (l : List Int), (ys.foldl (fun l v => inc l v.toNat) l).length = l.length := by
  intro ys
  induction ys with
  | nil => intro l; rfl
  | cons y ys ih => intro l; rw [List.foldl_cons, ih, inc_len]
theorem incs_getD : ∀ (ys : List Int) (l : List Int) (j : Nat), (∀ y ∈ ys, 0 ≤ y) → j < l.length → (ys.foldl (fun l v => inc l v.toNat) l).getD j 0 = l.getD j 0 + cnt ys j := by
  intro ys
  induction ys with
  | nil => intro l j _ _; simp [cnt]
  | cons y ys ih =>
    intro l j hp hj
    rw [List.foldl_cons, ih _ _ (fun z hz => hp z (by simp [hz])) (by rw [inc_len]; exact hj), inc_getD, cnt_cons]
    have := hp y (by simp)
    by_cases h : y = (j : Int)
    · subst h
      simp [hj]
      omega
    · rw [if_neg (fun e => h (by omega)), if_neg h]
      omega
theorem isum_rep (n : Nat) : isum (List.replicate n 1) = n := by
  induction n with
  | zero => rfl
  | succ n ih => rw [List.replicate_succ]; simp only [isum, ih]; omega
theorem isum_incs : ∀ (ys : List Int) (l : List Int), (∀ y ∈ ys, 0 ≤ y ∧ y < l.length) → isum (ys.foldl (fun l v => inc l v.toNat) l) = isum l + ys.length := by
  intro ys
  induction ys with
  | nil => intro l _; simp
  | cons y ys ih =>
    intro l hp
    have hy := hp y (by simp)
    rw [List.foldl_cons, ih _ (fun z hz => by rw [inc_len]; exact hp z (by simp [hz]))]
    unfold inc
    rw [isum_set _ _ _ (by omega)]
    simp
    omega
/-- the state in the midst -/
structure Mid (N : Nat) (xs : List Int) (k : Nat) (deg : List Int) : Prop where
  len : deg.length = N
  at_ : ∀ v, v < N → (deg.getD v 0 = 1 + cnt (xs.drop k) v) ∨ (deg.getD v 0 = 0 ∧ cnt (xs.drop k) v = 0)
  sum : isum deg = 2 * ((N : Int) - k) - 2
  nz : nz deg = N - k
theorem Mid.nonneg {N : Nat} {xs : List Int} {k : Nat} {deg : List Int} (h : Mid N xs k deg) : ∀ x ∈ deg, 0 ≤ x := by
  intro x hx
  obtain ⟨i, hi, rfl⟩ := List.getElem_of_mem hx
  have h1 := h.at_ i (by rw [← h.len]; exact hi)
  rw [List.getD_eq_getElem?_getD, List.getElem?_eq_getElem hi] at h1
  simp at h1
  have := (cnt_le (xs.drop k) i).1
  omega
theorem Mid.leaf {N : Nat} {xs : List Int} {k : Nat} {deg : List Int} (h : Mid N xs k deg) (hk : k ≤ N) : 0 ≤ leaf deg ∧ leaf deg < N := by
  have := leaf_range (exists_one deg h.nonneg (by rw [h.sum, h.nz]; omega))
  rw [h.len] at this
  exact this
theorem nz_set (l : List Int) (i : Nat) (x : Int) (h : i < l.length) : (nz (l.set i x) : Int) = nz l - (if l.getD i 0 = 0 then 0 else 1) + (if x = 0 then 0 else 1) := by
  unfold nz
  rw [List.countP_set h]
  have hle : l[i] ≠ 0 → 1 ≤ List.countP (fun x => x != 0) l := fun hp => List.countP_pos_iff.2 ⟨l[i], List.getElem_mem h, by simpa using hp⟩
  rw [List.getD_eq_getElem?_getD, List.getElem?_eq_getElem h]
  simp only [Option.getD_some]
  generalize List.countP (fun x => x != 0) l = C at hle ⊢
  by_cases h1 : l[i] = 0
  · have b1 : (l[i] != 0) = false := by simpa using h1
    by_cases h2 : x = 0
    · have b2 : (x != 0) = false := by simpa using h2
      rw [b1, b2, if_pos h1, if_pos h2]; simp
    · have b2 : (x != 0) = true := by simpa using h2
      rw [b1, b2, if_pos h1, if_neg h2]; simp
  · have b1 : (l[i] != 0) = true := by simpa using h1
    have := hle h1
    by_cases h2 : x = 0
    · have b2 : (x != 0) = false := by simpa using h2
      rw [b1, b2, if_neg h1, if_pos h2]; simp; omega
    · have b2 : (x != 0) = true := by simpa using h2
      rw [b1, b2, if_neg h1, if_neg h2]; simp; omega
theorem Mid.step {N : Nat} {xs : List Int} {k : Nat} {s : List (Int × Int) × List Int} (h : Mid N xs k s.2) (hk : k < xs.length) (hN : xs.length + 2 = N) (hr : 0 ≤ xs[k] ∧ xs[k] < N) : Mid N xs (k + 1) (Sx.step s xs[k]).2 := by
  obtain ⟨u, hu⟩ : ∃ u : Nat, Sx.leaf s.2 = (u : Int) := ⟨(Sx.leaf s.2).toNat, by have := h.leaf (by omega); omega⟩
  obtain ⟨x, hx⟩ : ∃ x : Nat, xs[k] = (x : Int) := ⟨xs[k].toNat, by omega⟩
  obtain ⟨u1, u2, u3⟩ := leaf_spec hu
  have hxN : x < N := by omega
  have hdrop : xs.drop k = xs[k] :: xs.drop (k + 1) := List.drop_eq_getElem_cons hk
  have hcnt : ∀ v, cnt (xs.drop k) v = cnt (xs.drop (k + 1)) v + if x = v then 1 else 0 := by
    intro v
    rw [hdrop, cnt_cons, hx]
    by_cases e : x = v
    · subst e; simp
    · rw [if_neg (by omega), if_neg e]
  have hau := h.at_ u (by rw [← h.len]; exact u1)
  have hax := h.at_ x hxN
  have hcx := hcnt x
  rw [if_pos rfl] at hcx
  have hc0 := (cnt_le (xs.drop (k + 1)) x).1
  have hux : u ≠ x := by
    rintro rfl
    omega
  have hdx : s.2.getD x 0 = 2 + cnt (xs.drop (k + 1)) x := by omega
  have e : (Sx.step s xs[k]).2 = dec (dec s.2 u) x := by
    unfold Sx.step
    rw [hu, hx]
    simp
  rw [e]
  have g1 : ∀ v, (dec s.2 u).getD v 0 = if u = v ∧ v < s.2.length then s.2.getD v 0 - 1 else s.2.getD v 0 := fun v => dec_getD _ _ _
  have gx : (dec s.2 u).getD x 0 = s.2.getD x 0 := by rw [g1, if_neg (fun hh => hux hh.1)]
  refine ⟨by rw [dec_len, dec_len]; exact h.len, ?_, ?_, ?_⟩
  · intro v hv
    rw [dec_getD, dec_len]
    by_cases e1 : x = v
    · subst e1
      rw [if_pos ⟨rfl, by rw [h.len]; exact hv⟩, gx, hdx]
      left; omega
    · rw [if_neg (fun hh => e1 hh.1), g1]
      have hcv := hcnt v
      rw [if_neg e1] at hcv
      by_cases e2 : u = v
      · subst e2
        rw [if_pos ⟨rfl, u1⟩, u2]
        right
        omega
      · rw [if_neg (fun hh => e2 hh.1)]
        have := h.at_ v hv
        omega
  · have s1 : isum (dec s.2 u) = isum s.2 - 1 := by
      unfold dec; rw [isum_set _ _ _ u1]; omega
    have s2 : isum (dec (dec s.2 u) x) = isum (dec s.2 u) - 1 := by
      conv => lhs; unfold dec
      rw [isum_set _ _ _ (by rw [List.length_set, h.len]; exact hxN)]
      change isum (dec s.2 u) - (dec s.2 u).getD x 0 + ((dec s.2 u).getD x 0 - 1) = _
      omega
    rw [s2, s1, h.sum]
    omega
  · have n1 : (Sx.nz (dec s.2 u) : Int) = Sx.nz s.2 - 1 := by
      unfold dec
      rw [nz_set _ _ _ u1, u2]
      simp
    have n2 : (Sx.nz (dec (dec s.2 u) x) : Int) = Sx.nz (dec s.2 u) := by
      conv => lhs; unfold dec
      rw [nz_set _ _ _ (by rw [List.length_set, h.len]; exact hxN)]
      change (Sx.nz (dec s.2 u) : Int) - (if (dec s.2 u).getD x 0 = 0 then 0 else 1) + (if (dec s.2 u).getD x 0 - 1 = 0 then 0 else 1) = _
      rw [gx, hdx, if_neg (by omega), if_neg (by omega)]
      omega
    have := h.nz
    omega
end Go.Proofs.Sx
end
/- part Tr -/
section
namespace Go.Proofs.Sx
open Go Go.Ax Go.Proofs Go.RowKit
theorem rep_getD (n j : Nat) (h : j < n) : (List.replicate n (1 : Int)).getD j 0 = 1 := by
  rw [List.getD_eq_getElem?_getD, List.getElem?_replicate, if_pos h]; rfl
theorem out_getD {l : List Int} {j : Nat} (h : l.length ≤ j) : l.getD j 0 = 0 := by
  rw [List.getD_eq_getElem?_getD, List.getElem?_eq_none h]; rfl
theorem mid0 {N : Nat} {xs : List Int} (hN : xs.length + 2 = N) (hr : ∀ k (h : k < xs.length), 0 ≤ xs[k] ∧ xs[k] < N) : Mid N xs 0 (run0 N xs 0).2 := by
  have hall : ∀ y ∈ xs, 0 ≤ y ∧ y < (List.replicate N (1 : Int)).length := by
    intro y hy
    obtain ⟨i, hi, rfl⟩ := List.getElem_of_mem hy
    rw [List.length_replicate]
    exact hr i hi
  have e : (run0 N xs 0).2 = deg0 N xs := by simp [run0]
  rw [e]
  have hg : ∀ v, v < N → (deg0 N xs).getD v 0 = 1 + cnt xs v := by
    intro v hv
    unfold deg0
    rw [incs_getD _ _ _ (fun y hy => (hall y hy).1) (by rw [List.length_replicate]; exact hv), rep_getD N v hv]
  have hl : (deg0 N xs).length = N := by unfold deg0; rw [incs_len, List.length_replicate]
  refine ⟨hl, ?_, ?_, ?_⟩
  · intro v hv
    left
    rw [List.drop_zero]
    exact hg v hv
  · unfold deg0
    rw [isum_incs _ _ hall, isum_rep]
    omega
  · unfold nz
    rw [Nat.sub_zero]
    conv => rhs; rw [← hl]
    rw [List.countP_eq_length]
    intro x hx
    obtain ⟨i, hi, rfl⟩ := List.getElem_of_mem hx
    have := hg i (by rw [← hl]; exact hi)
    rw [List.getD_eq_getElem?_getD, List.getElem?_eq_getElem hi] at this
    simp at this
    have := (cnt_le xs i).1
    simp
    omega
theorem mids {N : Nat} {xs : List Int} (hN : xs.length + 2 = N) (hr : ∀ k (h : k < xs.length), 0 ≤ xs[k] ∧ xs[k] < N) : ∀ k, k ≤ xs.length → Mid N xs k (run0 N xs k).2 := by
  intro k
  induction k with
  | zero => intro _; exact mid0 hN hr
  | succ k ih =>
    intro h
    rw [run0_succ _ _ _ h]
    exact (ih (by omega)).step h hN (hr k h)
theorem run0_all (N : Nat) (xs : List Int) (k : Nat) (h : xs.length ≤ k) : run0 N xs k = run0 N xs xs.length := by
  unfold run0
  rw [List.take_of_length_le h, List.take_length]
theorem mid_last {N : Nat} {xs : List Int} (hN : xs.length + 2 = N) (hm : Mid N xs xs.length (run0 N xs xs.length).2) :
    0 ≤ leaf (dec (run0 N xs xs.length).2 (leaf (run0 N xs xs.length).2).toNat) ∧ leaf (dec (run0 N xs xs.length).2 (leaf (run0 N xs xs.length).2).toNat) < N := by
  have h1 := hm.leaf (by omega)
  generalize (run0 N xs xs.length).2 = d at hm h1 ⊢
  obtain ⟨u, hu⟩ : ∃ u : Nat, leaf d = (u : Int) := ⟨(leaf d).toNat, by omega⟩
  obtain ⟨u1, u2, u3⟩ := leaf_spec hu
  rw [hu, Int.toNat_natCast]
  have hs : isum (dec d u) = isum d - 1 := by unfold dec; rw [isum_set _ _ _ u1]; omega
  have hn : (nz (dec d u) : Int) = nz d - 1 := by
    unfold dec
    rw [nz_set _ _ _ u1, u2]
    simp
  have hp : ∀ x ∈ dec d u, 0 ≤ x := by
    intro x hx
    unfold dec at hx
    rcases List.mem_or_eq_of_mem_set hx with h | h
    · exact hm.nonneg x h
    · omega
  have := leaf_range (exists_one (dec d u) hp (by rw [hs, hn, hm.sum, hm.nz]; omega))
  rw [dec_len, hm.len] at this
  exact this
theorem codedR_good {n : Int} {xs : List Int} (h : codedR n xs = true) : ∃ N : Nat, n = N ∧ Good N xs := by
  unfold codedR at h
  simp only [Bool.and_eq_true, decide_eq_true_eq, List.all_eq_true] at h
  obtain ⟨⟨h1, h2⟩, h3⟩ := h
  refine ⟨n.toNat, by omega, ?_⟩
  have hN : xs.length + 2 = n.toNat := by omega
  have hr : ∀ k (h : k < xs.length), 0 ≤ xs[k] ∧ xs[k] < (n.toNat : Int) := fun k hk => by
    have := h3 xs[k] (List.getElem_mem hk)
    omega
  have hm := mids hN hr
  refine ⟨by omega, by omega, hN, hr, ?_, ?_, fun k hk => (hm k hk).leaf (by omega), mid_last hN (hm _ (Nat.le_refl _))⟩
  · intro k i
    have hall : ∀ y ∈ xs.take k, 0 ≤ y := by
      intro y hy
      obtain ⟨j, hj, rfl⟩ := List.getElem_of_mem (List.mem_of_mem_take hy)
      exact (hr j hj).1
    by_cases hi : i < n.toNat
    · rw [incs_getD _ _ _ hall (by rw [List.length_replicate]; exact hi), rep_getD _ _ hi]
      have := cnt_le (xs.take k) i
      have h5 : (xs.take k).length ≤ xs.length := by rw [List.length_take]; omega
      omega
    · rw [out_getD (by rw [incs_len, List.length_replicate]; omega)]
      omega
  · intro k i
    have key : ∀ k, k ≤ xs.length → -1000 < (run0 n.toNat xs k).2.getD i 0 ∧ (run0 n.toNat xs k).2.getD i 0 < 1000 := by
      intro k hk
      have hmk := hm k hk
      by_cases hi : i < n.toNat
      · have h4 := hmk.at_ i hi
        have h5 := cnt_le (xs.drop k) i
        rw [List.length_drop] at h5
        omega
      · rw [out_getD (by rw [hmk.len]; omega)]
        omega
    by_cases hk : k ≤ xs.length
    · exact key k hk
    · rw [run0_all _ _ _ (by omega)]
      exact key _ (Nat.le_refl _)
theorem codedB_eq (n : Int) (xs : List Int) : codedB n xs = codedR n xs := by
  unfold codedB codedR
  congr 2
  funext x
  rw [decide_eq_decide]
  omega
/-! the two of the end -/
theorem ones1_two {N : Nat} {d : List Int} {u y : Nat} (hl : d.length = N) (hu : leaf d = (u : Int)) (hy : leaf (dec d u) = (y : Int)) : ∃ r, ones1 d N = (u : Int) :: (y : Int) :: r := by
  obtain ⟨u1, u2, u3⟩ := leaf_spec hu
  obtain ⟨y1, y2, y3⟩ := leaf_spec hy
  rw [dec_len, hl] at y1
  rw [hl] at u1
  have hne : u ≠ y := by
    rintro rfl
    rw [dec_getD, if_pos ⟨rfl, by rw [hl]; exact u1⟩, u2] at y2
    omega
  have y2' : d.getD y 0 = 1 := by
    rw [dec_getD, if_neg (fun h => hne h.1)] at y2; exact y2
  have huy : u < y := by
    rcases Nat.lt_trichotomy u y with h | h | h
    · exact h
    · exact absurd h hne
    · exact absurd y2' (u3 y h)
  have hsplit : List.range N = List.range' 0 u ++ u :: (List.range' (u + 1) (y - u - 1) ++ y :: List.range' (y + 1) (N - y - 1)) := by
    rw [List.range_eq_range']
    have e1 : List.range' 0 N = List.range' 0 u ++ List.range' u (N - u) := by
      have := List.range'_append (s := 0) (m := u) (n := N - u) (step := 1)
      rw [Nat.one_mul, Nat.zero_add] at this
      rw [this]; congr 1; omega
    have e2 : List.range' u (N - u) = u :: List.range' (u + 1) (N - u - 1) := by
      rw [show N - u = (N - u - 1) + 1 by omega, List.range'_succ]; rfl
    have e3 : List.range' (u + 1) (N - u - 1) = List.range' (u + 1) (y - u - 1) ++ List.range' y (N - y) := by
      have := List.range'_append (s := u + 1) (m := y - u - 1) (n := N - y) (step := 1)
      rw [Nat.one_mul, show u + 1 + (y - u - 1) = y by omega] at this
      rw [this]; congr 1; omega
    have e4 : List.range' y (N - y) = y :: List.range' (y + 1) (N - y - 1) := by
      rw [show N - y = (N - y - 1) + 1 by omega, List.range'_succ]; rfl
    rw [e1, e2, e3, e4]
  unfold ones1
  rw [hsplit, List.filter_append, List.filter_cons, List.filter_append, List.filter_cons]
  have f1 : (List.range' 0 u).filter (fun j => d.getD j 0 == 1) = [] := by
    rw [List.filter_eq_nil_iff]
    intro j hj
    rw [List.mem_range'_1] at hj
    have := u3 j (by omega)
    simpa using this
  have f2 : (List.range' (u + 1) (y - u - 1)).filter (fun j => d.getD j 0 == 1) = [] := by
    rw [List.filter_eq_nil_iff]
    intro j hj
    rw [List.mem_range'_1] at hj
    have := y3 j (by omega)
    rw [dec_getD, if_neg (fun h => by omega)] at this
    simpa using this
  have g1 : (d.getD u 0 == 1) = true := by simpa using u2
  have g2 : (d.getD y 0 == 1) = true := by simpa using y2'
  rw [f1, f2, g1, g2]
  simp
/-! sorted -/
def leP (x y : Int × Int) : Bool := !ltP y x
theorem leP_iff (x y : Int × Int) : leP x y = true ↔ (x.1 < y.1 ∨ x.1 = y.1 ∧ x.2 ≤ y.2) := by
  unfold leP ltP
  simp only [Bool.not_eq_true', Bool.or_eq_false_iff, decide_eq_false_iff_not, Bool.and_eq_false_iff]
  simp
  omega
theorem ltP_iff (x y : Int × Int) : ltP x y = true ↔ (x.1 < y.1 ∨ x.1 = y.1 ∧ x.2 < y.2) := by
  unfold ltP
  simp
theorem pairLt_eq (x y : Int × Int) : pairLt x y = ltP x y := by
  unfold pairLt
  rw [Bool.eq_iff_iff, ltP_iff, decide_eq_true_eq]
  simp only [lexC, cmpI]
  by_cases h1 : x.1 < y.1
  · simp [h1]
  · by_cases h2 : y.1 < x.1
    · have : ¬ x.1 = y.1 := by omega
      simp [h1, h2, this]
    · have : x.1 = y.1 := by omega
      by_cases h3 : x.2 < y.2
      · simp [this, h3]
      · by_cases h4 : y.2 < x.2
        · simp [this, h3, h4]
        · simp [this, h3, h4]
theorem insP_perm (l : List (Int × Int)) (e : Int × Int) : (insP l e).Perm (e :: l) := by
  unfold insP
  refine List.perm_middle.trans ?_
  rw [List.takeWhile_append_dropWhile]
theorem insAll_perm (l : List (Int × Int)) : (insAll l).Perm l := by
  unfold insAll
  have : ∀ (l k : List (Int × Int)), (l.foldl insP k).Perm (k ++ l) := by
    intro l
    induction l with
    | nil => intro k; simp
    | cons e l ih =>
      intro k
      rw [List.foldl_cons]
      refine (ih _).trans ?_
      refine ((insP_perm k e).append_right l).trans ?_
      exact (List.perm_middle (a := e) (l₁ := k) (l₂ := l)).symm
  exact (this l []).trans (by simp)
theorem insP_sorted {l : List (Int × Int)} {e : Int × Int} (h : l.Pairwise (fun x y => leP x y = true)) : (insP l e).Pairwise (fun x y => leP x y = true) := by
  induction l with
  | nil => simp [insP]
  | cons a l ih =>
    rw [List.pairwise_cons] at h
    by_cases ha : ltP a e = true
    · have e1 : insP (a :: l) e = a :: insP l e := by unfold insP; simp [ha]
      rw [e1, List.pairwise_cons]
      refine ⟨?_, ih h.2⟩
      intro y hy
      have := (insP_perm l e).mem_iff.1 hy
      rcases List.mem_cons.1 this with rfl | hy
      · rw [leP_iff]; rw [ltP_iff] at ha; omega
      · exact h.1 y hy
    · have ha' : ltP a e = false := by simpa using ha
      have e1 : insP (a :: l) e = e :: a :: l := by unfold insP; simp [ha']
      rw [e1, List.pairwise_cons, List.pairwise_cons]
      refine ⟨?_, h⟩
      have hea : leP e a = true := by unfold leP; rw [ha']; rfl
      intro y hy
      rcases List.mem_cons.1 hy with rfl | hy
      · exact hea
      · have := h.1 y hy
        rw [leP_iff] at this hea ⊢
        omega
theorem insAll_sorted (l : List (Int × Int)) : (insAll l).Pairwise (fun x y => leP x y = true) := by
  unfold insAll
  have : ∀ (l k : List (Int × Int)), k.Pairwise (fun x y => leP x y = true) → (l.foldl insP k).Pairwise (fun x y => leP x y = true) := by
    intro l
    induction l with
    | nil => intro k h; exact h
    | cons e l ih => intro k h; rw [List.foldl_cons]; exact ih _ (insP_sorted h)
  exact this l [] List.Pairwise.nil
theorem sortP_eq_ins (l : List (Int × Int)) : sortP l = insAll l := by
  have e : sortP l = l.mergeSort leP := by
    unfold sortP
    congr 1
    funext x y
    rw [pairLt_eq]
    rfl
  rw [e]
  refine List.Perm.eq_of_pairwise (le := fun x y => leP x y = true) ?_ (List.pairwise_mergeSort ?_ ?_ l) (insAll_sorted l) ((List.mergeSort_perm l leP).trans (insAll_perm l).symm)
  · intro a b _ _ h1 h2
    rw [leP_iff] at h1 h2
    exact Prod.ext (by omega) (by omega)
  · intro a b c h1 h2
    rw [leP_iff] at h1 h2 ⊢
    omega
  · intro a b
    rw [Bool.or_eq_true, leP_iff, leP_iff]
    omega
/-- **what Tree sorts is what Made has in its order.** -/
theorem made_eq {N : Nat} {xs : List Int} (hg : Good N xs) {u : List (Int × Int)} (h : ∀ (u0 y0 : Int), (∃ r, ones1 (run0 N xs xs.length).2 N = u0 :: y0 :: r) → u = insP (insAll (run0 N xs xs.length).1) (min u0 y0, max u0 y0)) : u = sortP (edges N xs) := by
  have hm := mids hg.len hg.rng xs.length (Nat.le_refl _)
  have h1 := hg.leaf1 xs.length (Nat.le_refl _)
  have h2 := hg.leaf2
  obtain ⟨a, ha⟩ : ∃ a : Nat, leaf (run0 N xs xs.length).2 = (a : Int) := ⟨(leaf (run0 N xs xs.length).2).toNat, by omega⟩
  rw [ha, Int.toNat_natCast] at h2
  obtain ⟨b, hb⟩ : ∃ b : Nat, leaf (dec (run0 N xs xs.length).2 a) = (b : Int) := ⟨(leaf (dec (run0 N xs xs.length).2 a)).toNat, by omega⟩
  rw [h _ _ (ones1_two hm.len ha hb), sortP_eq_ins]
  unfold edges
  simp only [ha, Int.toNat_natCast, hb]
  rw [insAll_snoc]
end Go.Proofs.Sx
end
/- part SxSort -/
section
namespace Go.Proofs.Sx
open Go Go.Ax Go.Proofs
def sren : Shelf.Ren where
  f := fun x => match x with
    | 6 => 28
    | 15 => 50
    | 14 => 49
    | 28 => 69
    | 29 => 70
    | 20 => 61
    | 21 => 62
    | 22 => 63
    | 23 => 64
    | 24 => 65
    | 25 => 66
    | 26 => 67
    | 27 => 68
    | 46 => 78
    | 47 => 79
    | 48 => 80
    | 49 => 81
    | 50 => 82
    | 57 => 96
    | n => n
  t := fun x => match x with
    | 22 => 24
    | 24 => 35
    | 25 => 56
    | 3 => 3
    | 39 => 60
    | 0 => 0
    | 53 => 93
    | 55 => 95
    | 4 => 4
    | 46 => 86
    | 45 => 85
    | 50 => 90
    | 5 => 5
    | 9 => 9
    | 66 => 107
    | 70 => 111
    | 76 => 122
    | 77 => 123
    | n => n
  g := fun x => x
theorem sortE : SlLaysF0.n6 Try.prog sren where
  mixed := by kernel_rfl
  f6 := ⟨Try.f28.name, by decide, by kernel_rfl⟩
  f14 := ⟨Try.f49.name, by decide, by kernel_rfl⟩
  f15 := by kernel_rfl
  f20 := ⟨Try.f61.name, by decide, by kernel_rfl⟩
  f21 := ⟨Try.f62.name, by decide, by kernel_rfl⟩
  f22 := ⟨Try.f63.name, by decide, by kernel_rfl⟩
  f23 := ⟨Try.f64.name, by decide, by kernel_rfl⟩
  f24 := ⟨Try.f65.name, by decide, by kernel_rfl⟩
  f25 := ⟨Try.f66.name, by decide, by kernel_rfl⟩
  f26 := ⟨Try.f67.name, by decide, by kernel_rfl⟩
  f27 := ⟨Try.f68.name, by decide, by kernel_rfl⟩
  f28 := by kernel_rfl
  f29 := by kernel_rfl
  f46 := ⟨Try.f78.name, by decide, by kernel_rfl⟩
  f47 := by kernel_rfl
  f48 := by kernel_rfl
  f49 := ⟨Try.f81.name, by decide, by kernel_rfl⟩
  f50 := ⟨Try.f82.name, by decide, by kernel_rfl⟩
  f57 := ⟨Try.f96.name, by decide, by kernel_rfl⟩
  t0 := Try.underlying0
  a0 := Try.isAgg0
  z0 := Try.sizeOf0
  v0 := Try.zeroValue0
  t3 := Try.underlying3
  a3 := Try.isAgg3
  z3 := Try.sizeOf3
  v3 := Try.zeroValue3
  t4 := Try.underlying4
  a4 := Try.isAgg4
  z4 := Try.sizeOf4
  v4 := Try.zeroValue4
  t5 := Try.underlying5
  a5 := Try.isAgg5
  z5 := Try.sizeOf5
  v5 := Try.zeroValue5
  t9 := Try.underlying9
  a9 := Try.isAgg9
  z9 := Try.sizeOf9
  v9 := Try.zeroValue9
  t22 := Try.underlying24
  a22 := Try.isAgg24
  z22 := Try.sizeOf24
  v22 := Try.zeroValue24
  t25 := Try.underlying56
  a25 := Try.isAgg56
  z25 := Try.sizeOf56
  v25 := Try.zeroValue56
  t39 := Try.underlying60
  a39 := Try.isAgg60
  z39 := Try.sizeOf60
  v39 := Try.zeroValue60
  t45 := Try.underlying85
  a45 := Try.isAgg85
  z45 := Try.sizeOf85
  v45 := Try.zeroValue85
  t46 := Try.underlying86
  a46 := Try.isAgg86
  z46 := Try.sizeOf86
  v46 := Try.zeroValue86
  t50 := Try.underlying90
  a50 := Try.isAgg90
  z50 := Try.sizeOf90
  v50 := Try.zeroValue90
  t53 := Try.underlying93
  a53 := Try.isAgg93
  z53 := Try.sizeOf93
  v53 := Try.zeroValue93
  t55 := Try.underlying95
  a55 := Try.isAgg95
  z55 := Try.sizeOf95
  v55 := Try.zeroValue95
  t66 := Try.underlying107
  a66 := Try.isAgg107
  z66 := Try.sizeOf107
  v66 := Try.zeroValue107
  t70 := Try.underlying111
  a70 := Try.isAgg111
  z70 := Try.sizeOf111
  v70 := Try.zeroValue111
  t76 := Try.underlying122
  a76 := Try.isAgg122
  z76 := Try.sizeOf122
  v76 := Try.zeroValue122
  t77 := Try.underlying123
  a77 := Try.isAgg123
  z77 := Try.sizeOf123
  v77 := Try.zeroValue123
end Go.Proofs.Sx
end
/- part Ts -/
section
namespace Go.Proofs.Sx
open Go Go.Ax Go.Proofs Go.RowKit Go.Sort Go.Lib
noncomputable def encP (p : Int × Int) : List Value := [.int .i64 p.1, .int .i64 p.2]
def cfP (x y : Int × Int) : Int := lexC [x.1, x.2] [y.1, y.2]
theorem cfP_lt (x y : Int × Int) : (ltOf cfP) x y = decide (x.1 < y.1 ∨ x.1 = y.1 ∧ x.2 < y.2) := by
  unfold ltOf cfP
  simp only [lexC, cmpI]
  by_cases h1 : x.1 < y.1
  · simp [h1]
  · by_cases h2 : y.1 < x.1
    · have : ¬ x.1 = y.1 := by omega
      simp [h1, h2, this]
    · have : x.1 = y.1 := by omega
      by_cases h3 : x.2 < y.2
      · simp [this, h3]
      · by_cases h4 : y.2 < x.2
        · simp [this, h3, h4]
        · simp [this, h3, h4]
theorem swoP : SWO (ltOf cfP) where
  irrefl := by intro x; rw [cfP_lt]; simp
  trans := by intro x y z; simp only [cfP_lt, decide_eq_true_eq]; omega
  ntrans := by intro x y z; simp only [cfP_lt, decide_eq_false_iff_not]; omega
theorem totP (x y : Int × Int) (h1 : (ltOf cfP) x y = false) (h2 : (ltOf cfP) y x = false) : x = y := by
  rw [cfP_lt] at h1 h2
  simp only [decide_eq_false_iff_not] at h1 h2
  exact Prod.ext (by omega) (by omega)
theorem flat_pv (l : List (Int × Int)) : flatK encP 2 l.toArray = (pv l).toArray := by
  apply Array.ext
  · simp [pv_len]
  · intro i h1 h2
    have hi : i < l.length * 2 := by simpa using h1
    have hd : i / 2 < l.length := by omega
    have e1 : (flatK encP 2 l.toArray)[i]! = (encP l.toArray[i / 2]!)[i % 2]! := get_flatK _ _ _ _ (by simpa using hi)
    rw [← getElem!_pos _ i h1, e1]
    have e2 : l.toArray[i / 2]! = l[i / 2] := by simp [hd]
    rw [e2]
    have e3 : (pv l).toArray[i] = (pv l)[i]'(by rw [pv_len]; exact hi) := by simp
    rw [e3]
    rcases Nat.mod_two_eq_zero_or_one i with h | h
    · have := pv_cell0 l (i / 2) hd
      rw [show i / 2 * 2 + 0 = i by omega, List.getElem?_eq_getElem (by rw [pv_len]; exact hi)] at this
      rw [h]
      simpa [encP] using (Option.some.inj this).symm
    · have := pv_cell1 l (i / 2) hd
      rw [show i / 2 * 2 + 1 = i by omega, List.getElem?_eq_getElem (by rw [pv_len]; exact hi)] at this
      rw [h]
      simpa [encP] using (Option.some.inj this).symm
theorem scalars_pv (l : List (Int × Int)) : scalars (pv l) = true := by
  unfold scalars
  rw [List.all_eq_true]
  intro x hx
  unfold pv at hx
  rw [List.mem_flatMap] at hx
  obtain ⟨p, _, hp⟩ := hx
  rcases List.mem_cons.1 hp with rfl | hp
  · rfl
  · rw [List.mem_singleton] at hp; subst hp; rfl
theorem closure29 (x y : Int × Int) (W : World) : Calls PP 29 #[.agg (encP x).toArray, .agg (encP y).toArray] W fun e w' => e = .returned (.int .i64 (cfP x y)) ∧ ∃ q os', w' = grow (W.drewN q) os' :=
  calls_grown (args := [.agg (encP x).toArray, .agg (encP y).toArray]) (v := .int .i64 (cfP x y)) rfl rfl (tree3_call (S := startM) rfl x.1 x.2 y.1 y.2) W
theorem cmpLays29 (b off size : Nat) (w : World) : CmpLays PP 29 #[] encP 2 cfP b off size w := fun _ _ _ _ x y => closure29 x y _
theorem sortP_eq (l : List (Int × Int)) : l.mergeSort (fun x y => !(ltOf cfP) y x) = sortP l := rfl
theorem sortOk : SortOk := by
  intro S lo v ps hok hlo hne hlen hM
  rcases hM with ⟨_, h, _⟩ | ⟨b, rfl, hb, hget, hl⟩
  · exfalso
    have := congrArg List.length h
    rw [pv_len] at this
    simp at this
    exact hne (List.length_eq_zero_iff.1 (by omega))
  have hlp : (sortP ps).length = ps.length := List.length_mergeSort _
  have hlt := lt_of_get hget
  refine ⟨.tuple #[], S.set b (.cells (pv (sortP ps)) 35 2), ?_, rfl, by rw [ok_set_iff]; exact hok, Nat.le_refl _, rfl, ?_, ?_⟩
  · refine ⟨⟨Try.f28, _, Try.func28, by kernel_rfl, rfl⟩, ?_⟩
    intro w0 E w args' m R hS hv hR
    cases hv with
    | cons hv1 hv2 =>
      cases hv2 with
      | cons hv2 hv3 =>
        cases hv3
        have e2 := hv2.plain_eq rfl
        subst e2
        cases hv1 with
        | sc hs => simp [scalar] at hs
        | sl o l c hE =>
          rename_i b' κ
          rw [BIG_not]
          obtain ⟨cs', pad, q1, q2, q3, q4⟩ := hS.cells hget hE
          have hcs := q2.scalars_eq (scalars_pv ps)
          subst hcs
          have hz := (hS.rng _ _ _ hE).2
          refine callsIn_wide.2 ?_
          have hH : HoldsK encP 2 w b' 0 ps.toArray := by
            unfold HoldsK
            rw [flat_pv]
            intro j hj
            have hj' : j < (pv ps).length := by simpa using hj
            refine ⟨?_, frozen_at q1 _⟩
            rw [cell_at q1, Nat.zero_add, List.getElem?_append_left hj', List.getElem?_eq_getElem hj']
            congr 1
            simp [hj']
          have key := AnyQ.slices_SortFunc_total sortE 2 (Try.isAgg35) (Try.sizeOf35) encP (fun _ => rfl) (fun x v hv => by
            unfold encP at hv
            rcases List.mem_cons.1 hv with rfl | hv
            · rfl
            · rw [List.mem_singleton] at hv; subst hv; rfl) cfP swoP 29 #[] b' 0 κ ps.toArray w
            (fun args w => run_callFunc Try.func29 (by kernel_rfl) rfl args) (cmpLays29 _ _ _ _) hH hz (by simp; omega) totP
          have hsz : ps.toArray.size = ps.length := by simp
          rw [hsz] at key
          refine Calls.mono key ?_
          rintro e w' ⟨rfl, n, os, rfl⟩
          have hsort : sortWorldK encP 2 w b' 0 n (ps.toArray.toList.mergeSort fun x y => !(ltOf cfP) y x).toArray os = grow (putB (Sort.ahead w n) b' (.cells (pv (sortP ps) ++ pad).toArray 35 (0, 0))) os := by
            unfold sortWorldK putRowK
            rw [show ps.toArray.toList = ps by simp, sortP_eq, flat_pv, putRow_eq (w := Sort.ahead w n) (cs := pv ps) (vs := pv (sortP ps)) q1 (by rw [pv_len, pv_len]; exact congrArg (· * 2) hlp)]
          rw [hsort]
          have hput := hS.put hget rfl hE (.cells (pv (sortP ps)) 35 2) (.cells (pv (sortP ps) ++ pad).toArray 35 (0, 0)) (fun w'' hw'' => ⟨b', κ, pv (sortP ps), pad, hE, hw'', VRs.of_scalars (scalars_pv _), q3, fun hg => by rw [pv_len, hlp, ← pv_len]; exact q4 hg⟩)
          have hbel : Below (putB w b' (.cells (pv (sortP ps) ++ pad).toArray 35 (0, 0))).heap.size (putB w b' (.cells (pv (sortP ps) ++ pad).toArray 35 (0, 0))) (grow (putB (Sort.ahead w n) b' (.cells (pv (sortP ps) ++ pad).toArray 35 (0, 0))) os) := by
            refine ⟨rfl, rfl, rfl, ?_, ?_⟩
            · show _ ≤ (_ ++ os).size
              rw [Array.size_append]
              exact Nat.le_add_right _ _
            · intro k hk
              show ((putB w b' (.cells (pv (sortP ps) ++ pad).toArray 35 (0, 0))).heap ++ os)[k]? = _
              rw [Array.getElem?_append_left hk]
          refine hR (.tuple #[], some (S.set b (.cells (pv (sortP ps)) 35 2))) (by simp) E (.tuple #[]) _ (.refl E) (hput.after hbel (fun _ => Nat.le_add_right _ _)) (.tuple .nil) (Keeps.set hlt _) ?_
          have h1 := hbel.size
          rw [putB_size] at h1
          exact h1
  · refine .inr ⟨b, by rw [hlp], hb, get_set_same _ hok hlt rfl, by rw [pv_len]⟩
  · intro i hi hne
    rw [get_set_ne _ hlt (fun e => hne (by rw [e]; rfl))]
end Go.Proofs.Sx
end
/- part SxJoin -/
section
namespace Go.Proofs.Sx
open Go Go.Ax Go.Proofs
def ren : Shelf.Ren where
  f := fun x => match x with
    | 156 => 56
    | 165 => 74
    | 166 => 75
    | 169 => 76
    | 240 => 92
    | 241 => 93
    | 276 => 101
    | 277 => 102
    | n => n
  t := fun x => match x with
    | 31 => 47
    | 9 => 9
    | 3 => 3
    | 4 => 4
    | 0 => 0
    | 20 => 20
    | 72 => 100
    | 76 => 103
    | 70 => 97
    | 37 => 98
    | 75 => 102
    | 127 => 119
    | 164 => 128
    | 5 => 5
    | 80 => 105
    | n => n
  g := fun x => x
theorem lays : Lays.n156 Try.prog ren where
  mixed := by kernel_rfl
  f156 := by kernel_rfl
  f165 := by kernel_rfl
  f166 := by kernel_rfl
  f169 := by kernel_rfl
  f240 := by kernel_rfl
  f241 := by kernel_rfl
  f276 := by kernel_rfl
  f277 := by kernel_rfl
  t0 := Try.underlying0
  a0 := Try.isAgg0
  z0 := Try.sizeOf0
  v0 := Try.zeroValue0
  t3 := Try.underlying3
  a3 := Try.isAgg3
  z3 := Try.sizeOf3
  v3 := Try.zeroValue3
  t4 := Try.underlying4
  a4 := Try.isAgg4
  z4 := Try.sizeOf4
  v4 := Try.zeroValue4
  t9 := Try.underlying9
  a9 := Try.isAgg9
  z9 := Try.sizeOf9
  v9 := Try.zeroValue9
  t20 := Try.underlying20
  a20 := Try.isAgg20
  z20 := Try.sizeOf20
  v20 := Try.zeroValue20
  t31 := Try.underlying47
  a31 := Try.isAgg47
  z31 := Try.sizeOf47
  v31 := Try.zeroValue47
  t37 := Try.underlying98
  a37 := Try.isAgg98
  z37 := Try.sizeOf98
  v37 := Try.zeroValue98
  t70 := Try.underlying97
  a70 := Try.isAgg97
  z70 := Try.sizeOf97
  v70 := Try.zeroValue97
  t72 := Try.underlying100
  a72 := Try.isAgg100
  z72 := Try.sizeOf100
  v72 := Try.zeroValue100
  t75 := Try.underlying102
  a75 := Try.isAgg102
  z75 := Try.sizeOf102
  v75 := Try.zeroValue102
  t76 := Try.underlying103
  a76 := Try.isAgg103
  z76 := Try.sizeOf103
  v76 := Try.zeroValue103
  t127 := Try.underlying119
  a127 := Try.isAgg119
  z127 := Try.sizeOf119
  v127 := Try.zeroValue119
  t164 := Try.underlying128
  a164 := Try.isAgg128
  z164 := Try.sizeOf128
  v164 := Try.zeroValue128
theorem extra : Builder.Extra Try.prog ren where
  sizeBuilder := by kernel_rfl
  liesBuilder := by kernel_rfl
  t5 := Try.underlying5
  a5 := Try.isAgg5
  z5 := Try.sizeOf5
  v5 := Try.zeroValue5
  infoByte := by kernel_rfl
  cellsByte := by kernel_rfl
  sizeByte := by kernel_rfl
  neB5 := by decide
end Go.Proofs.Sx
end
/- part SxAwake -/
section
namespace Go.Proofs.Sx
open Go Go.Ax Go.Proofs Go.RowKit
theorem namesA : namesOk Try.prog = true := by kernel_rfl
theorem mixedA : Try.prog.follows .mixedOrders = true := by kernel_rfl
theorem known : KnownOK Try.prog (joinX 56) := joinX_ok lays extra ⟨_, _, lays.f156, by kernel_rfl, rfl⟩
theorem awake_run : outsAre [.bool true] ((iter Try.prog (tabOf Try.prog) (joinX 56) 60).call 10 [] start0) = true := by kernel_rfl
/-- **awake comes to true, whatever the world.** -/
theorem awake_calls (w : World) : Calls Try.prog 10 #[] w fun e w' => e = .returned (.bool true) ∧ Below w.heap.size w w' :=
  calls_closed namesA mixedA known 60 10 [] rfl (.bool true) awake_run w
end Go.Proofs.Sx
end
