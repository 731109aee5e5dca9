/- A run on an abstract store, proved right for every world, and the functions of the law walked by it: part 4 of 7. -/
import Derived.Test.YtiinngafmlbgpaaGreatSp2
set_option linter.unusedSimpArgs false
set_option linter.unusedVariables false
/- part Zq -/
section
namespace Go.Proofs.Sz
open Go Go.Ax Go.Proofs Go.RowKit
theorem via_step (k : Nat) (M : Nat → Nat → Int) (v w : Nat) : viaB (k + 1) M v w = (viaB k M v w || (M v k == 1 && M k w == 1)) := by
  unfold viaB
  rw [List.range_succ, List.any_append]
  simp
theorem via_mono {k n : Nat} {M : Nat → Nat → Int} {v w : Nat} (h : viaB k M v w = true) (hk : k ≤ n) : viaB n M v w = true := by
  unfold viaB at h ⊢
  rw [List.any_eq_true] at h ⊢
  obtain ⟨u, hu, h1⟩ := h
  exact ⟨u, List.mem_range.2 (Nat.lt_of_lt_of_le (List.mem_range.1 hu) hk), h1⟩
/-- what the inner loop has found so far -/
def soFar (k : Nat) (M : Nat → Nat → Int) (v w : Nat) : Bool := (v == w || M v w == 1) || viaB k M v w
theorem soFar_true {k n : Nat} {M : Nat → Nat → Int} {v w : Nat} (h : soFar k M v w = true) (hk : k ≤ n) : reachB n M v w = true := by
  unfold soFar at h
  unfold reachB
  rw [Bool.or_eq_true] at h
  rcases h with h | h
  · rw [h, Bool.or_true]
  · rw [via_mono h hk, Bool.true_or]
theorem soFar_all (n : Nat) (M : Nat → Nat → Int) (v w : Nat) : soFar n M v w = reachB n M v w := by
  unfold soFar reachB
  exact Bool.or_comm _ _
theorem soFar_step {k : Nat} {M : Nat → Nat → Int} {v w : Nat} (h : soFar k M v w = false) : soFar (k + 1) M v w = (M v k == 1 && M k w == 1) := by
  unfold soFar at h ⊢
  rw [Bool.or_eq_false_iff] at h
  rw [via_step, h.1, h.2]
  simp
theorem fn15 : TT.fn 15 = some Tryz.f15 := by kernel_rfl
set_option maxHeartbeats 4000000 in
/-- the reference's Kings -/
theorem refKings_call {S : St} (hok : S.ok) {vl : Value} {n : Nat} {M : Nat → Nat → Int} (hx0 : Mat S vl (mrows n n M)) (hn : n < 31) :
    CallW PP 15 [vl] S (fun v S' => Mine S' 3 1 S.n v (iv (kings n M)) (kings n M).length ∧ Ext S S') := by
  have hla0 := hx0.len (T := TT) und22
  rw [mrows_len] at hla0
  refine CallW_of hTT fn15 rfl (by simp [Tryz.f15]) ?_
  unfold Tryz.f15
  repeat (first | with_reducible (first | refine W_seq ?_ | refine W_scope ?_ | refine W_regionV hTT ?_ | refine W_condV ?_ | refine W_ret ?_ | refine W_exit ?_ | refine W_skip ?_ | refine W_label ?_ | refine W_drawV hTT (by kernel_rfl) ?_) | simp only [H0, J86, J87, und3, und4, und22, und26, und29, und45, und64, info3, info4, info22, info26, info29, info45, info64, info50, aggT, gv, dstAt, aop, evalsA, partsA, evalO, updO, ofArgs, binV, intBin, unV, mmV, builtinA, Nat.reduceLT, Nat.reduceEqDiff, Nat.reduceAdd, Nat.reduceSub, Nat.reduceMul, ↓reduceIte, reduceCtorEq, hla0])
  refine W_block ?_
  refine W_loopI (fun m τ ds S' => Ext S S' ∧ ds = [] ∧ ∃ (i : Nat) (v4 : Value), m = n - i ∧ i ≤ n ∧ τ 0 = vl ∧ τ 3 = .int .i64 n ∧ τ 4 = v4 ∧ τ 5 = .int .i64 i ∧ Mine S' 3 1 S.n v4 (iv (((List.range i).filter (kingB n M)).map (fun v : Nat => (v : Int)))) (((List.range i).filter (kingB n M)).map (fun v : Nat => (v : Int))).length) n ?_ ?_
  · refine ⟨Ext.refl hok, rfl, 0, .slice none 0 0, by simp, by simp, ?_, ?_, ?_, ?_, Mine.nil _ _ _ _⟩ <;> first | rfl | simp only [H0, J86, J87, und3, und4, und22, und26, und29, und45, und64, info3, info4, info22, info26, info29, info45, info64, info50, aggT, gv, dstAt, aop, evalsA, partsA, evalO, updO, ofArgs, binV, intBin, unV, mmV, builtinA, Nat.reduceLT, Nat.reduceEqDiff, Nat.reduceAdd, Nat.reduceSub, Nat.reduceMul, ↓reduceIte, reduceCtorEq]
  · rintro m τ ds S' ⟨hE, rfl, i, v4, rfl, hi, t0, t3, t4, t5, hM⟩
    by_cases hin : i < n
    · have e1 : decide ((i : Int) < n) = true := by simpa using hin
      have hw := wrap_succ (k := i) (by omega)
      have hx := hx0.extd hE
      obtain ⟨p, rv, p1, p2, hrow, _⟩ := hx.row (T := TT) (k := .i64) und22 info26 und26 rfl (i := i) (by rw [mrows_len]; exact hin)
      rw [mrows_get] at hrow
      repeat (first | with_reducible (first | refine W_seq ?_ | refine W_scope ?_ | refine W_regionV hTT ?_ | refine W_condV ?_ | refine W_ret ?_ | refine W_exit ?_ | refine W_skip ?_ | refine W_label ?_ | refine W_drawV hTT (by kernel_rfl) ?_) | simp only [H0, J86, J87, und3, und4, und22, und26, und29, und45, und64, info3, info4, info22, info26, info29, info45, info64, info50, aggT, gv, dstAt, aop, evalsA, partsA, evalO, updO, ofArgs, binV, intBin, unV, mmV, builtinA, Nat.reduceLT, Nat.reduceEqDiff, Nat.reduceAdd, Nat.reduceSub, Nat.reduceMul, ↓reduceIte, reduceCtorEq, t0, t3, t4, t5, e1])
      refine W_block ?_
      repeat (first | with_reducible (first | refine W_seq ?_ | refine W_scope ?_ | refine W_regionV hTT ?_ | refine W_condV ?_ | refine W_ret ?_ | refine W_exit ?_ | refine W_skip ?_ | refine W_label ?_ | refine W_drawV hTT (by kernel_rfl) ?_) | simp only [H0, J86, J87, und3, und4, und22, und26, und29, und45, und64, info3, info4, info22, info26, info29, info45, info64, info50, aggT, gv, dstAt, aop, evalsA, partsA, evalO, updO, ofArgs, binV, intBin, unV, mmV, builtinA, Nat.reduceLT, Nat.reduceEqDiff, Nat.reduceAdd, Nat.reduceSub, Nat.reduceMul, ↓reduceIte, reduceCtorEq, t0, t3, t4, t5])
      refine W_block ?_
      refine W_loopI (fun m τ ds S3 => S3 = S' ∧ ds = [] ∧ ∃ j : Nat, m = n - j ∧ j ≤ n ∧ τ 0 = vl ∧ τ 3 = .int .i64 n ∧ τ 4 = v4 ∧ τ 5 = .int .i64 i ∧ τ 6 = .bool ((List.range j).all (reachB n M i)) ∧ τ 7 = .int .i64 j) n ?_ ?_
      · refine ⟨rfl, rfl, 0, by simp, by simp, ?_, ?_, ?_, ?_, ?_, ?_⟩ <;> first | rfl | simp only [H0, J86, J87, und3, und4, und22, und26, und29, und45, und64, info3, info4, info22, info26, info29, info45, info64, info50, aggT, gv, dstAt, aop, evalsA, partsA, evalO, updO, ofArgs, binV, intBin, unV, mmV, builtinA, Nat.reduceLT, Nat.reduceEqDiff, Nat.reduceAdd, Nat.reduceSub, Nat.reduceMul, ↓reduceIte, reduceCtorEq, t0, t3, t4, t5]
      · rintro m τ ds S3 ⟨rfl, rfl, j, rfl, hj, t0, t3, t4, t5, t6, t7⟩
        have hw2 := wrap_succ (k := j) (by omega)
        by_cases hjn : j < n
        · have e2 : decide ((j : Int) < n) = true := by simpa using hjn
          obtain ⟨q, q1, q2, _⟩ := hrow.at1 (T := TT) (k := .i64) und26 info3 und3 rfl rfl (i := j) (by rw [mrow_len]; exact hjn)
          rw [iv_get, mrow_get _ hjn] at q2
          repeat (first | with_reducible (first | refine W_seq ?_ | refine W_scope ?_ | refine W_regionV hTT ?_ | refine W_condV ?_ | refine W_ret ?_ | refine W_exit ?_ | refine W_skip ?_ | refine W_label ?_ | refine W_drawV hTT (by kernel_rfl) ?_) | simp only [H0, J86, J87, und3, und4, und22, und26, und29, und45, und64, info3, info4, info22, info26, info29, info45, info64, info50, aggT, gv, dstAt, aop, evalsA, partsA, evalO, updO, ofArgs, binV, intBin, unV, mmV, builtinA, Nat.reduceLT, Nat.reduceEqDiff, Nat.reduceAdd, Nat.reduceSub, Nat.reduceMul, ↓reduceIte, reduceCtorEq, t0, t3, t4, t5, t6, t7, e2])
          refine W_block ?_
          have hbase : (if i = j then true else (M i j == 1)) = soFar 0 M i j := by
            unfold soFar viaB
            by_cases e : i = j <;> simp [e]
          refine W_seq ?_
          refine W_cut (fun τ ds S4 => S4 = S3 ∧ ds = [] ∧ τ 0 = vl ∧ τ 3 = .int .i64 n ∧ τ 4 = v4 ∧ τ 5 = .int .i64 i ∧ τ 6 = .bool ((List.range j).all (reachB n M i)) ∧ τ 7 = .int .i64 j ∧ τ 8 = .bool (soFar 0 M i j)) ?_ ?_
          · by_cases e : i = j
            · subst e
              rw [if_pos rfl] at hbase
              repeat (first | with_reducible (first | refine W_seq ?_ | refine W_block ?_ | refine W_scope ?_ | refine W_regionV hTT ?_ | refine W_condV ?_ | refine W_ret ?_ | refine W_exit ?_ | refine W_skip ?_ | refine W_label ?_ | refine W_drawV hTT (by kernel_rfl) ?_) | simp only [H0, J86, J87, und3, und4, und22, und26, und29, und45, und64, info3, info4, info22, info26, info29, info45, info64, info50, aggT, gv, dstAt, aop, evalsA, partsA, evalO, updO, ofArgs, binV, intBin, unV, mmV, builtinA, Nat.reduceLT, Nat.reduceEqDiff, Nat.reduceAdd, Nat.reduceSub, Nat.reduceMul, ↓reduceIte, reduceCtorEq, t0, t3, t4, t5, t6, t7, beq_self_eq_true])
              refine NQ_intro ⟨rfl, rfl, by simp only [H0, J86, J87, und3, und4, und22, und26, und29, und45, und64, info3, info4, info22, info26, info29, info45, info64, info50, aggT, gv, dstAt, aop, evalsA, partsA, evalO, updO, ofArgs, binV, intBin, unV, mmV, builtinA, Nat.reduceLT, Nat.reduceEqDiff, Nat.reduceAdd, Nat.reduceSub, Nat.reduceMul, ↓reduceIte, reduceCtorEq, t0], by simp only [H0, J86, J87, und3, und4, und22, und26, und29, und45, und64, info3, info4, info22, info26, info29, info45, info64, info50, aggT, gv, dstAt, aop, evalsA, partsA, evalO, updO, ofArgs, binV, intBin, unV, mmV, builtinA, Nat.reduceLT, Nat.reduceEqDiff, Nat.reduceAdd, Nat.reduceSub, Nat.reduceMul, ↓reduceIte, reduceCtorEq, t3], by simp only [H0, J86, J87, und3, und4, und22, und26, und29, und45, und64, info3, info4, info22, info26, info29, info45, info64, info50, aggT, gv, dstAt, aop, evalsA, partsA, evalO, updO, ofArgs, binV, intBin, unV, mmV, builtinA, Nat.reduceLT, Nat.reduceEqDiff, Nat.reduceAdd, Nat.reduceSub, Nat.reduceMul, ↓reduceIte, reduceCtorEq, t4], by simp only [H0, J86, J87, und3, und4, und22, und26, und29, und45, und64, info3, info4, info22, info26, info29, info45, info64, info50, aggT, gv, dstAt, aop, evalsA, partsA, evalO, updO, ofArgs, binV, intBin, unV, mmV, builtinA, Nat.reduceLT, Nat.reduceEqDiff, Nat.reduceAdd, Nat.reduceSub, Nat.reduceMul, ↓reduceIte, reduceCtorEq, t5], by simp only [H0, J86, J87, und3, und4, und22, und26, und29, und45, und64, info3, info4, info22, info26, info29, info45, info64, info50, aggT, gv, dstAt, aop, evalsA, partsA, evalO, updO, ofArgs, binV, intBin, unV, mmV, builtinA, Nat.reduceLT, Nat.reduceEqDiff, Nat.reduceAdd, Nat.reduceSub, Nat.reduceMul, ↓reduceIte, reduceCtorEq, t6], by simp only [H0, J86, J87, und3, und4, und22, und26, und29, und45, und64, info3, info4, info22, info26, info29, info45, info64, info50, aggT, gv, dstAt, aop, evalsA, partsA, evalO, updO, ofArgs, binV, intBin, unV, mmV, builtinA, Nat.reduceLT, Nat.reduceEqDiff, Nat.reduceAdd, Nat.reduceSub, Nat.reduceMul, ↓reduceIte, reduceCtorEq, t7], by rw [← hbase]; simp only [H0, J86, J87, und3, und4, und22, und26, und29, und45, und64, info3, info4, info22, info26, info29, info45, info64, info50, aggT, gv, dstAt, aop, evalsA, partsA, evalO, updO, ofArgs, binV, intBin, unV, mmV, builtinA, Nat.reduceLT, Nat.reduceEqDiff, Nat.reduceAdd, Nat.reduceSub, Nat.reduceMul, ↓reduceIte, reduceCtorEq]⟩
            · have e3 : ((i : Int) == j) = false := by rw [beq_eq_false_iff_ne]; omega
              rw [if_neg e] at hbase
              repeat (first | with_reducible (first | refine W_seq ?_ | refine W_block ?_ | refine W_scope ?_ | refine W_regionV hTT ?_ | refine W_condV ?_ | refine W_ret ?_ | refine W_exit ?_ | refine W_skip ?_ | refine W_label ?_ | refine W_drawV hTT (by kernel_rfl) ?_) | simp only [H0, J86, J87, und3, und4, und22, und26, und29, und45, und64, info3, info4, info22, info26, info29, info45, info64, info50, aggT, gv, dstAt, aop, evalsA, partsA, evalO, updO, ofArgs, binV, intBin, unV, mmV, builtinA, Nat.reduceLT, Nat.reduceEqDiff, Nat.reduceAdd, Nat.reduceSub, Nat.reduceMul, ↓reduceIte, reduceCtorEq, t0, t3, t4, t5, t6, t7, e3, p1, p2, q1, q2])
              refine NQ_intro ⟨rfl, rfl, by simp only [H0, J86, J87, und3, und4, und22, und26, und29, und45, und64, info3, info4, info22, info26, info29, info45, info64, info50, aggT, gv, dstAt, aop, evalsA, partsA, evalO, updO, ofArgs, binV, intBin, unV, mmV, builtinA, Nat.reduceLT, Nat.reduceEqDiff, Nat.reduceAdd, Nat.reduceSub, Nat.reduceMul, ↓reduceIte, reduceCtorEq, t0], by simp only [H0, J86, J87, und3, und4, und22, und26, und29, und45, und64, info3, info4, info22, info26, info29, info45, info64, info50, aggT, gv, dstAt, aop, evalsA, partsA, evalO, updO, ofArgs, binV, intBin, unV, mmV, builtinA, Nat.reduceLT, Nat.reduceEqDiff, Nat.reduceAdd, Nat.reduceSub, Nat.reduceMul, ↓reduceIte, reduceCtorEq, t3], by simp only [H0, J86, J87, und3, und4, und22, und26, und29, und45, und64, info3, info4, info22, info26, info29, info45, info64, info50, aggT, gv, dstAt, aop, evalsA, partsA, evalO, updO, ofArgs, binV, intBin, unV, mmV, builtinA, Nat.reduceLT, Nat.reduceEqDiff, Nat.reduceAdd, Nat.reduceSub, Nat.reduceMul, ↓reduceIte, reduceCtorEq, t4], by simp only [H0, J86, J87, und3, und4, und22, und26, und29, und45, und64, info3, info4, info22, info26, info29, info45, info64, info50, aggT, gv, dstAt, aop, evalsA, partsA, evalO, updO, ofArgs, binV, intBin, unV, mmV, builtinA, Nat.reduceLT, Nat.reduceEqDiff, Nat.reduceAdd, Nat.reduceSub, Nat.reduceMul, ↓reduceIte, reduceCtorEq, t5], by simp only [H0, J86, J87, und3, und4, und22, und26, und29, und45, und64, info3, info4, info22, info26, info29, info45, info64, info50, aggT, gv, dstAt, aop, evalsA, partsA, evalO, updO, ofArgs, binV, intBin, unV, mmV, builtinA, Nat.reduceLT, Nat.reduceEqDiff, Nat.reduceAdd, Nat.reduceSub, Nat.reduceMul, ↓reduceIte, reduceCtorEq, t6], by simp only [H0, J86, J87, und3, und4, und22, und26, und29, und45, und64, info3, info4, info22, info26, info29, info45, info64, info50, aggT, gv, dstAt, aop, evalsA, partsA, evalO, updO, ofArgs, binV, intBin, unV, mmV, builtinA, Nat.reduceLT, Nat.reduceEqDiff, Nat.reduceAdd, Nat.reduceSub, Nat.reduceMul, ↓reduceIte, reduceCtorEq, t7], by rw [← hbase]; simp only [H0, J86, J87, und3, und4, und22, und26, und29, und45, und64, info3, info4, info22, info26, info29, info45, info64, info50, aggT, gv, dstAt, aop, evalsA, partsA, evalO, updO, ofArgs, binV, intBin, unV, mmV, builtinA, Nat.reduceLT, Nat.reduceEqDiff, Nat.reduceAdd, Nat.reduceSub, Nat.reduceMul, ↓reduceIte, reduceCtorEq]⟩
          · rintro τ ds S4 ⟨rfl, rfl, t0, t3, t4, t5, t6, t7, t8⟩
            repeat (first | with_reducible (first | refine W_seq ?_ | refine W_scope ?_ | refine W_regionV hTT ?_ | refine W_condV ?_ | refine W_ret ?_ | refine W_exit ?_ | refine W_skip ?_ | refine W_label ?_ | refine W_drawV hTT (by kernel_rfl) ?_) | simp only [H0, J86, J87, und3, und4, und22, und26, und29, und45, und64, info3, info4, info22, info26, info29, info45, info64, info50, aggT, gv, dstAt, aop, evalsA, partsA, evalO, updO, ofArgs, binV, intBin, unV, mmV, builtinA, Nat.reduceLT, Nat.reduceEqDiff, Nat.reduceAdd, Nat.reduceSub, Nat.reduceMul, ↓reduceIte, reduceCtorEq, t0, t3, t4, t5, t6, t7, t8])
            refine W_cut (fun τ ds S3 => S3 = S4 ∧ ds = [] ∧ τ 0 = vl ∧ τ 3 = .int .i64 n ∧ τ 4 = v4 ∧ τ 5 = .int .i64 i ∧ τ 6 = .bool ((List.range j).all (reachB n M i)) ∧ τ 7 = .int .i64 j ∧ τ 8 = .bool (reachB n M i j)) ?_ ?_
            · refine W_block ?_
              refine W_loopI (fun m τ ds S3 => S3 = S4 ∧ ds = [] ∧ ∃ k : Nat, m = n - k ∧ k ≤ n ∧ τ 0 = vl ∧ τ 3 = .int .i64 n ∧ τ 4 = v4 ∧ τ 5 = .int .i64 i ∧ τ 6 = .bool ((List.range j).all (reachB n M i)) ∧ τ 7 = .int .i64 j ∧ τ 8 = .bool (soFar k M i j) ∧ τ 9 = .int .i64 k) n ?_ ?_
              · refine ⟨rfl, rfl, 0, by simp, by simp, ?_, ?_, ?_, ?_, ?_, ?_, ?_, ?_⟩ <;> first | rfl | simp only [H0, J86, J87, und3, und4, und22, und26, und29, und45, und64, info3, info4, info22, info26, info29, info45, info64, info50, aggT, gv, dstAt, aop, evalsA, partsA, evalO, updO, ofArgs, binV, intBin, unV, mmV, builtinA, Nat.reduceLT, Nat.reduceEqDiff, Nat.reduceAdd, Nat.reduceSub, Nat.reduceMul, ↓reduceIte, reduceCtorEq, t0, t3, t4, t5, t6, t7, t8]
              · rintro m τ ds S3 ⟨rfl, rfl, k, rfl, hk, t0, t3, t4, t5, t6, t7, t8, t9⟩
                have hw3 := wrap_succ (k := k) (by omega)
                by_cases hkn : k < n
                · have e3 : decide ((k : Int) < n) = true := by simpa using hkn
                  cases hb : soFar k M i j with
                  | true =>
                    have hr := soFar_true hb hk
                    rw [hb] at t8
                    repeat (first | with_reducible (first | refine W_seq ?_ | refine W_block ?_ | refine W_scope ?_ | refine W_regionV hTT ?_ | refine W_condV ?_ | refine W_ret ?_ | refine W_exit ?_ | refine W_skip ?_ | refine W_label ?_ | refine W_drawV hTT (by kernel_rfl) ?_) | simp only [H0, J86, J87, und3, und4, und22, und26, und29, und45, und64, info3, info4, info22, info26, info29, info45, info64, info50, aggT, gv, dstAt, aop, evalsA, partsA, evalO, updO, ofArgs, binV, intBin, unV, mmV, builtinA, Nat.reduceLT, Nat.reduceEqDiff, Nat.reduceAdd, Nat.reduceSub, Nat.reduceMul, ↓reduceIte, reduceCtorEq, t0, t3, t4, t5, t6, t7, t8, t9, e3])
                    refine NQ_intro ⟨rfl, rfl, by simp only [H0, J86, J87, und3, und4, und22, und26, und29, und45, und64, info3, info4, info22, info26, info29, info45, info64, info50, aggT, gv, dstAt, aop, evalsA, partsA, evalO, updO, ofArgs, binV, intBin, unV, mmV, builtinA, Nat.reduceLT, Nat.reduceEqDiff, Nat.reduceAdd, Nat.reduceSub, Nat.reduceMul, ↓reduceIte, reduceCtorEq, t0], by simp only [H0, J86, J87, und3, und4, und22, und26, und29, und45, und64, info3, info4, info22, info26, info29, info45, info64, info50, aggT, gv, dstAt, aop, evalsA, partsA, evalO, updO, ofArgs, binV, intBin, unV, mmV, builtinA, Nat.reduceLT, Nat.reduceEqDiff, Nat.reduceAdd, Nat.reduceSub, Nat.reduceMul, ↓reduceIte, reduceCtorEq, t3], by simp only [H0, J86, J87, und3, und4, und22, und26, und29, und45, und64, info3, info4, info22, info26, info29, info45, info64, info50, aggT, gv, dstAt, aop, evalsA, partsA, evalO, updO, ofArgs, binV, intBin, unV, mmV, builtinA, Nat.reduceLT, Nat.reduceEqDiff, Nat.reduceAdd, Nat.reduceSub, Nat.reduceMul, ↓reduceIte, reduceCtorEq, t4], by simp only [H0, J86, J87, und3, und4, und22, und26, und29, und45, und64, info3, info4, info22, info26, info29, info45, info64, info50, aggT, gv, dstAt, aop, evalsA, partsA, evalO, updO, ofArgs, binV, intBin, unV, mmV, builtinA, Nat.reduceLT, Nat.reduceEqDiff, Nat.reduceAdd, Nat.reduceSub, Nat.reduceMul, ↓reduceIte, reduceCtorEq, t5], by simp only [H0, J86, J87, und3, und4, und22, und26, und29, und45, und64, info3, info4, info22, info26, info29, info45, info64, info50, aggT, gv, dstAt, aop, evalsA, partsA, evalO, updO, ofArgs, binV, intBin, unV, mmV, builtinA, Nat.reduceLT, Nat.reduceEqDiff, Nat.reduceAdd, Nat.reduceSub, Nat.reduceMul, ↓reduceIte, reduceCtorEq, t6], by simp only [H0, J86, J87, und3, und4, und22, und26, und29, und45, und64, info3, info4, info22, info26, info29, info45, info64, info50, aggT, gv, dstAt, aop, evalsA, partsA, evalO, updO, ofArgs, binV, intBin, unV, mmV, builtinA, Nat.reduceLT, Nat.reduceEqDiff, Nat.reduceAdd, Nat.reduceSub, Nat.reduceMul, ↓reduceIte, reduceCtorEq, t7], by rw [hr]; simp only [H0, J86, J87, und3, und4, und22, und26, und29, und45, und64, info3, info4, info22, info26, info29, info45, info64, info50, aggT, gv, dstAt, aop, evalsA, partsA, evalO, updO, ofArgs, binV, intBin, unV, mmV, builtinA, Nat.reduceLT, Nat.reduceEqDiff, Nat.reduceAdd, Nat.reduceSub, Nat.reduceMul, ↓reduceIte, reduceCtorEq, t8]⟩
                  | false =>
                    have hst := soFar_step hb
                    rw [hb] at t8
                    obtain ⟨a, a1, a2, _⟩ := hrow.at1 (T := TT) (k := .i64) und26 info3 und3 rfl rfl (i := k) (by rw [mrow_len]; exact hkn)
                    rw [iv_get, mrow_get _ hkn] at a2
                    obtain ⟨b, rb, b1, b2, hrb, _⟩ := hx.row (T := TT) (k := .i64) und22 info26 und26 rfl (i := k) (by rw [mrows_len]; exact hkn)
                    rw [mrows_get] at hrb
                    obtain ⟨c, c1, c2, _⟩ := hrb.at1 (T := TT) (k := .i64) und26 info3 und3 rfl rfl (i := j) (by rw [mrow_len]; exact hjn)
                    rw [iv_get, mrow_get _ hjn] at c2
                    cases h1 : (M i k == 1) with
                    | true =>
                      rw [h1, Bool.true_and] at hst
                      repeat (first | with_reducible (first | refine W_seq ?_ | refine W_block ?_ | refine W_scope ?_ | refine W_regionV hTT ?_ | refine W_condV ?_ | refine W_ret ?_ | refine W_exit ?_ | refine W_skip ?_ | refine W_label ?_ | refine W_drawV hTT (by kernel_rfl) ?_) | simp only [H0, J86, J87, und3, und4, und22, und26, und29, und45, und64, info3, info4, info22, info26, info29, info45, info64, info50, aggT, gv, dstAt, aop, evalsA, partsA, evalO, updO, ofArgs, binV, intBin, unV, mmV, builtinA, Nat.reduceLT, Nat.reduceEqDiff, Nat.reduceAdd, Nat.reduceSub, Nat.reduceMul, ↓reduceIte, reduceCtorEq, t0, t3, t4, t5, t6, t7, t8, t9, e3, p1, p2, a1, a2, h1, b1, b2, c1, c2, hw3])
                      refine LoopQ_intro (n - (k + 1)) (by omega) ⟨rfl, rfl, k + 1, rfl, by omega, by simp only [H0, J86, J87, und3, und4, und22, und26, und29, und45, und64, info3, info4, info22, info26, info29, info45, info64, info50, aggT, gv, dstAt, aop, evalsA, partsA, evalO, updO, ofArgs, binV, intBin, unV, mmV, builtinA, Nat.reduceLT, Nat.reduceEqDiff, Nat.reduceAdd, Nat.reduceSub, Nat.reduceMul, ↓reduceIte, reduceCtorEq, t0], by simp only [H0, J86, J87, und3, und4, und22, und26, und29, und45, und64, info3, info4, info22, info26, info29, info45, info64, info50, aggT, gv, dstAt, aop, evalsA, partsA, evalO, updO, ofArgs, binV, intBin, unV, mmV, builtinA, Nat.reduceLT, Nat.reduceEqDiff, Nat.reduceAdd, Nat.reduceSub, Nat.reduceMul, ↓reduceIte, reduceCtorEq, t3], by simp only [H0, J86, J87, und3, und4, und22, und26, und29, und45, und64, info3, info4, info22, info26, info29, info45, info64, info50, aggT, gv, dstAt, aop, evalsA, partsA, evalO, updO, ofArgs, binV, intBin, unV, mmV, builtinA, Nat.reduceLT, Nat.reduceEqDiff, Nat.reduceAdd, Nat.reduceSub, Nat.reduceMul, ↓reduceIte, reduceCtorEq, t4], by simp only [H0, J86, J87, und3, und4, und22, und26, und29, und45, und64, info3, info4, info22, info26, info29, info45, info64, info50, aggT, gv, dstAt, aop, evalsA, partsA, evalO, updO, ofArgs, binV, intBin, unV, mmV, builtinA, Nat.reduceLT, Nat.reduceEqDiff, Nat.reduceAdd, Nat.reduceSub, Nat.reduceMul, ↓reduceIte, reduceCtorEq, t5], by simp only [H0, J86, J87, und3, und4, und22, und26, und29, und45, und64, info3, info4, info22, info26, info29, info45, info64, info50, aggT, gv, dstAt, aop, evalsA, partsA, evalO, updO, ofArgs, binV, intBin, unV, mmV, builtinA, Nat.reduceLT, Nat.reduceEqDiff, Nat.reduceAdd, Nat.reduceSub, Nat.reduceMul, ↓reduceIte, reduceCtorEq, t6], by simp only [H0, J86, J87, und3, und4, und22, und26, und29, und45, und64, info3, info4, info22, info26, info29, info45, info64, info50, aggT, gv, dstAt, aop, evalsA, partsA, evalO, updO, ofArgs, binV, intBin, unV, mmV, builtinA, Nat.reduceLT, Nat.reduceEqDiff, Nat.reduceAdd, Nat.reduceSub, Nat.reduceMul, ↓reduceIte, reduceCtorEq, t7], by rw [hst]; simp only [H0, J86, J87, und3, und4, und22, und26, und29, und45, und64, info3, info4, info22, info26, info29, info45, info64, info50, aggT, gv, dstAt, aop, evalsA, partsA, evalO, updO, ofArgs, binV, intBin, unV, mmV, builtinA, Nat.reduceLT, Nat.reduceEqDiff, Nat.reduceAdd, Nat.reduceSub, Nat.reduceMul, ↓reduceIte, reduceCtorEq], by simp only [H0, J86, J87, und3, und4, und22, und26, und29, und45, und64, info3, info4, info22, info26, info29, info45, info64, info50, aggT, gv, dstAt, aop, evalsA, partsA, evalO, updO, ofArgs, binV, intBin, unV, mmV, builtinA, Nat.reduceLT, Nat.reduceEqDiff, Nat.reduceAdd, Nat.reduceSub, Nat.reduceMul, ↓reduceIte, reduceCtorEq, t9, hw3]⟩
                    | false =>
                      rw [h1, Bool.false_and] at hst
                      repeat (first | with_reducible (first | refine W_seq ?_ | refine W_block ?_ | refine W_scope ?_ | refine W_regionV hTT ?_ | refine W_condV ?_ | refine W_ret ?_ | refine W_exit ?_ | refine W_skip ?_ | refine W_label ?_ | refine W_drawV hTT (by kernel_rfl) ?_) | simp only [H0, J86, J87, und3, und4, und22, und26, und29, und45, und64, info3, info4, info22, info26, info29, info45, info64, info50, aggT, gv, dstAt, aop, evalsA, partsA, evalO, updO, ofArgs, binV, intBin, unV, mmV, builtinA, Nat.reduceLT, Nat.reduceEqDiff, Nat.reduceAdd, Nat.reduceSub, Nat.reduceMul, ↓reduceIte, reduceCtorEq, t0, t3, t4, t5, t6, t7, t8, t9, e3, p1, p2, a1, a2, h1, hw3])
                      refine LoopQ_intro (n - (k + 1)) (by omega) ⟨rfl, rfl, k + 1, rfl, by omega, by simp only [H0, J86, J87, und3, und4, und22, und26, und29, und45, und64, info3, info4, info22, info26, info29, info45, info64, info50, aggT, gv, dstAt, aop, evalsA, partsA, evalO, updO, ofArgs, binV, intBin, unV, mmV, builtinA, Nat.reduceLT, Nat.reduceEqDiff, Nat.reduceAdd, Nat.reduceSub, Nat.reduceMul, ↓reduceIte, reduceCtorEq, t0], by simp only [H0, J86, J87, und3, und4, und22, und26, und29, und45, und64, info3, info4, info22, info26, info29, info45, info64, info50, aggT, gv, dstAt, aop, evalsA, partsA, evalO, updO, ofArgs, binV, intBin, unV, mmV, builtinA, Nat.reduceLT, Nat.reduceEqDiff, Nat.reduceAdd, Nat.reduceSub, Nat.reduceMul, ↓reduceIte, reduceCtorEq, t3], by simp only [H0, J86, J87, und3, und4, und22, und26, und29, und45, und64, info3, info4, info22, info26, info29, info45, info64, info50, aggT, gv, dstAt, aop, evalsA, partsA, evalO, updO, ofArgs, binV, intBin, unV, mmV, builtinA, Nat.reduceLT, Nat.reduceEqDiff, Nat.reduceAdd, Nat.reduceSub, Nat.reduceMul, ↓reduceIte, reduceCtorEq, t4], by simp only [H0, J86, J87, und3, und4, und22, und26, und29, und45, und64, info3, info4, info22, info26, info29, info45, info64, info50, aggT, gv, dstAt, aop, evalsA, partsA, evalO, updO, ofArgs, binV, intBin, unV, mmV, builtinA, Nat.reduceLT, Nat.reduceEqDiff, Nat.reduceAdd, Nat.reduceSub, Nat.reduceMul, ↓reduceIte, reduceCtorEq, t5], by simp only [H0, J86, J87, und3, und4, und22, und26, und29, und45, und64, info3, info4, info22, info26, info29, info45, info64, info50, aggT, gv, dstAt, aop, evalsA, partsA, evalO, updO, ofArgs, binV, intBin, unV, mmV, builtinA, Nat.reduceLT, Nat.reduceEqDiff, Nat.reduceAdd, Nat.reduceSub, Nat.reduceMul, ↓reduceIte, reduceCtorEq, t6], by simp only [H0, J86, J87, und3, und4, und22, und26, und29, und45, und64, info3, info4, info22, info26, info29, info45, info64, info50, aggT, gv, dstAt, aop, evalsA, partsA, evalO, updO, ofArgs, binV, intBin, unV, mmV, builtinA, Nat.reduceLT, Nat.reduceEqDiff, Nat.reduceAdd, Nat.reduceSub, Nat.reduceMul, ↓reduceIte, reduceCtorEq, t7], by rw [hst]; simp only [H0, J86, J87, und3, und4, und22, und26, und29, und45, und64, info3, info4, info22, info26, info29, info45, info64, info50, aggT, gv, dstAt, aop, evalsA, partsA, evalO, updO, ofArgs, binV, intBin, unV, mmV, builtinA, Nat.reduceLT, Nat.reduceEqDiff, Nat.reduceAdd, Nat.reduceSub, Nat.reduceMul, ↓reduceIte, reduceCtorEq], by simp only [H0, J86, J87, und3, und4, und22, und26, und29, und45, und64, info3, info4, info22, info26, info29, info45, info64, info50, aggT, gv, dstAt, aop, evalsA, partsA, evalO, updO, ofArgs, binV, intBin, unV, mmV, builtinA, Nat.reduceLT, Nat.reduceEqDiff, Nat.reduceAdd, Nat.reduceSub, Nat.reduceMul, ↓reduceIte, reduceCtorEq, t9, hw3]⟩
                · have e3 : decide ((k : Int) < n) = false := by simpa using hkn
                  have hkk : k = n := by omega
                  rw [hkk, soFar_all] at t8
                  repeat (first | with_reducible (first | refine W_seq ?_ | refine W_block ?_ | refine W_scope ?_ | refine W_regionV hTT ?_ | refine W_condV ?_ | refine W_ret ?_ | refine W_exit ?_ | refine W_skip ?_ | refine W_label ?_ | refine W_drawV hTT (by kernel_rfl) ?_) | simp only [H0, J86, J87, und3, und4, und22, und26, und29, und45, und64, info3, info4, info22, info26, info29, info45, info64, info50, aggT, gv, dstAt, aop, evalsA, partsA, evalO, updO, ofArgs, binV, intBin, unV, mmV, builtinA, Nat.reduceLT, Nat.reduceEqDiff, Nat.reduceAdd, Nat.reduceSub, Nat.reduceMul, ↓reduceIte, reduceCtorEq, t0, t3, t4, t5, t6, t7, t8, t9, e3])
                  refine NQ_intro ⟨rfl, rfl, by simp only [H0, J86, J87, und3, und4, und22, und26, und29, und45, und64, info3, info4, info22, info26, info29, info45, info64, info50, aggT, gv, dstAt, aop, evalsA, partsA, evalO, updO, ofArgs, binV, intBin, unV, mmV, builtinA, Nat.reduceLT, Nat.reduceEqDiff, Nat.reduceAdd, Nat.reduceSub, Nat.reduceMul, ↓reduceIte, reduceCtorEq, t0], by simp only [H0, J86, J87, und3, und4, und22, und26, und29, und45, und64, info3, info4, info22, info26, info29, info45, info64, info50, aggT, gv, dstAt, aop, evalsA, partsA, evalO, updO, ofArgs, binV, intBin, unV, mmV, builtinA, Nat.reduceLT, Nat.reduceEqDiff, Nat.reduceAdd, Nat.reduceSub, Nat.reduceMul, ↓reduceIte, reduceCtorEq, t3], by simp only [H0, J86, J87, und3, und4, und22, und26, und29, und45, und64, info3, info4, info22, info26, info29, info45, info64, info50, aggT, gv, dstAt, aop, evalsA, partsA, evalO, updO, ofArgs, binV, intBin, unV, mmV, builtinA, Nat.reduceLT, Nat.reduceEqDiff, Nat.reduceAdd, Nat.reduceSub, Nat.reduceMul, ↓reduceIte, reduceCtorEq, t4], by simp only [H0, J86, J87, und3, und4, und22, und26, und29, und45, und64, info3, info4, info22, info26, info29, info45, info64, info50, aggT, gv, dstAt, aop, evalsA, partsA, evalO, updO, ofArgs, binV, intBin, unV, mmV, builtinA, Nat.reduceLT, Nat.reduceEqDiff, Nat.reduceAdd, Nat.reduceSub, Nat.reduceMul, ↓reduceIte, reduceCtorEq, t5], by simp only [H0, J86, J87, und3, und4, und22, und26, und29, und45, und64, info3, info4, info22, info26, info29, info45, info64, info50, aggT, gv, dstAt, aop, evalsA, partsA, evalO, updO, ofArgs, binV, intBin, unV, mmV, builtinA, Nat.reduceLT, Nat.reduceEqDiff, Nat.reduceAdd, Nat.reduceSub, Nat.reduceMul, ↓reduceIte, reduceCtorEq, t6], by simp only [H0, J86, J87, und3, und4, und22, und26, und29, und45, und64, info3, info4, info22, info26, info29, info45, info64, info50, aggT, gv, dstAt, aop, evalsA, partsA, evalO, updO, ofArgs, binV, intBin, unV, mmV, builtinA, Nat.reduceLT, Nat.reduceEqDiff, Nat.reduceAdd, Nat.reduceSub, Nat.reduceMul, ↓reduceIte, reduceCtorEq, t7], by simp only [H0, J86, J87, und3, und4, und22, und26, und29, und45, und64, info3, info4, info22, info26, info29, info45, info64, info50, aggT, gv, dstAt, aop, evalsA, partsA, evalO, updO, ofArgs, binV, intBin, unV, mmV, builtinA, Nat.reduceLT, Nat.reduceEqDiff, Nat.reduceAdd, Nat.reduceSub, Nat.reduceMul, ↓reduceIte, reduceCtorEq, t8]⟩
            · rintro τ ds S3 ⟨rfl, rfl, t0, t3, t4, t5, t6, t7, t8⟩
              have hstep := all_step (reachB n M i) j
              cases hb : (List.range j).all (reachB n M i) with
              | true =>
                rw [hb] at t6 hstep
                repeat (first | with_reducible (first | refine W_seq ?_ | refine W_block ?_ | refine W_scope ?_ | refine W_regionV hTT ?_ | refine W_condV ?_ | refine W_ret ?_ | refine W_exit ?_ | refine W_skip ?_ | refine W_label ?_ | refine W_drawV hTT (by kernel_rfl) ?_) | simp only [H0, J86, J87, und3, und4, und22, und26, und29, und45, und64, info3, info4, info22, info26, info29, info45, info64, info50, aggT, gv, dstAt, aop, evalsA, partsA, evalO, updO, ofArgs, binV, intBin, unV, mmV, builtinA, Nat.reduceLT, Nat.reduceEqDiff, Nat.reduceAdd, Nat.reduceSub, Nat.reduceMul, ↓reduceIte, reduceCtorEq, t0, t3, t4, t5, t6, t7, t8, hw2])
                refine LoopQ_intro (n - (j + 1)) (by omega) ⟨rfl, rfl, j + 1, rfl, by omega, by simp only [H0, J86, J87, und3, und4, und22, und26, und29, und45, und64, info3, info4, info22, info26, info29, info45, info64, info50, aggT, gv, dstAt, aop, evalsA, partsA, evalO, updO, ofArgs, binV, intBin, unV, mmV, builtinA, Nat.reduceLT, Nat.reduceEqDiff, Nat.reduceAdd, Nat.reduceSub, Nat.reduceMul, ↓reduceIte, reduceCtorEq, t0], by simp only [H0, J86, J87, und3, und4, und22, und26, und29, und45, und64, info3, info4, info22, info26, info29, info45, info64, info50, aggT, gv, dstAt, aop, evalsA, partsA, evalO, updO, ofArgs, binV, intBin, unV, mmV, builtinA, Nat.reduceLT, Nat.reduceEqDiff, Nat.reduceAdd, Nat.reduceSub, Nat.reduceMul, ↓reduceIte, reduceCtorEq, t3], by simp only [H0, J86, J87, und3, und4, und22, und26, und29, und45, und64, info3, info4, info22, info26, info29, info45, info64, info50, aggT, gv, dstAt, aop, evalsA, partsA, evalO, updO, ofArgs, binV, intBin, unV, mmV, builtinA, Nat.reduceLT, Nat.reduceEqDiff, Nat.reduceAdd, Nat.reduceSub, Nat.reduceMul, ↓reduceIte, reduceCtorEq, t4], by simp only [H0, J86, J87, und3, und4, und22, und26, und29, und45, und64, info3, info4, info22, info26, info29, info45, info64, info50, aggT, gv, dstAt, aop, evalsA, partsA, evalO, updO, ofArgs, binV, intBin, unV, mmV, builtinA, Nat.reduceLT, Nat.reduceEqDiff, Nat.reduceAdd, Nat.reduceSub, Nat.reduceMul, ↓reduceIte, reduceCtorEq, t5], by rw [hstep, Bool.true_and]; simp only [H0, J86, J87, und3, und4, und22, und26, und29, und45, und64, info3, info4, info22, info26, info29, info45, info64, info50, aggT, gv, dstAt, aop, evalsA, partsA, evalO, updO, ofArgs, binV, intBin, unV, mmV, builtinA, Nat.reduceLT, Nat.reduceEqDiff, Nat.reduceAdd, Nat.reduceSub, Nat.reduceMul, ↓reduceIte, reduceCtorEq], by simp only [H0, J86, J87, und3, und4, und22, und26, und29, und45, und64, info3, info4, info22, info26, info29, info45, info64, info50, aggT, gv, dstAt, aop, evalsA, partsA, evalO, updO, ofArgs, binV, intBin, unV, mmV, builtinA, Nat.reduceLT, Nat.reduceEqDiff, Nat.reduceAdd, Nat.reduceSub, Nat.reduceMul, ↓reduceIte, reduceCtorEq, t7, hw2]⟩
              | false =>
                rw [hb] at t6 hstep
                repeat (first | with_reducible (first | refine W_seq ?_ | refine W_block ?_ | refine W_scope ?_ | refine W_regionV hTT ?_ | refine W_condV ?_ | refine W_ret ?_ | refine W_exit ?_ | refine W_skip ?_ | refine W_label ?_ | refine W_drawV hTT (by kernel_rfl) ?_) | simp only [H0, J86, J87, und3, und4, und22, und26, und29, und45, und64, info3, info4, info22, info26, info29, info45, info64, info50, aggT, gv, dstAt, aop, evalsA, partsA, evalO, updO, ofArgs, binV, intBin, unV, mmV, builtinA, Nat.reduceLT, Nat.reduceEqDiff, Nat.reduceAdd, Nat.reduceSub, Nat.reduceMul, ↓reduceIte, reduceCtorEq, t0, t3, t4, t5, t6, t7, t8, hw2])
                refine LoopQ_intro (n - (j + 1)) (by omega) ⟨rfl, rfl, j + 1, rfl, by omega, by simp only [H0, J86, J87, und3, und4, und22, und26, und29, und45, und64, info3, info4, info22, info26, info29, info45, info64, info50, aggT, gv, dstAt, aop, evalsA, partsA, evalO, updO, ofArgs, binV, intBin, unV, mmV, builtinA, Nat.reduceLT, Nat.reduceEqDiff, Nat.reduceAdd, Nat.reduceSub, Nat.reduceMul, ↓reduceIte, reduceCtorEq, t0], by simp only [H0, J86, J87, und3, und4, und22, und26, und29, und45, und64, info3, info4, info22, info26, info29, info45, info64, info50, aggT, gv, dstAt, aop, evalsA, partsA, evalO, updO, ofArgs, binV, intBin, unV, mmV, builtinA, Nat.reduceLT, Nat.reduceEqDiff, Nat.reduceAdd, Nat.reduceSub, Nat.reduceMul, ↓reduceIte, reduceCtorEq, t3], by simp only [H0, J86, J87, und3, und4, und22, und26, und29, und45, und64, info3, info4, info22, info26, info29, info45, info64, info50, aggT, gv, dstAt, aop, evalsA, partsA, evalO, updO, ofArgs, binV, intBin, unV, mmV, builtinA, Nat.reduceLT, Nat.reduceEqDiff, Nat.reduceAdd, Nat.reduceSub, Nat.reduceMul, ↓reduceIte, reduceCtorEq, t4], by simp only [H0, J86, J87, und3, und4, und22, und26, und29, und45, und64, info3, info4, info22, info26, info29, info45, info64, info50, aggT, gv, dstAt, aop, evalsA, partsA, evalO, updO, ofArgs, binV, intBin, unV, mmV, builtinA, Nat.reduceLT, Nat.reduceEqDiff, Nat.reduceAdd, Nat.reduceSub, Nat.reduceMul, ↓reduceIte, reduceCtorEq, t5], by rw [hstep, Bool.false_and]; simp only [H0, J86, J87, und3, und4, und22, und26, und29, und45, und64, info3, info4, info22, info26, info29, info45, info64, info50, aggT, gv, dstAt, aop, evalsA, partsA, evalO, updO, ofArgs, binV, intBin, unV, mmV, builtinA, Nat.reduceLT, Nat.reduceEqDiff, Nat.reduceAdd, Nat.reduceSub, Nat.reduceMul, ↓reduceIte, reduceCtorEq], by simp only [H0, J86, J87, und3, und4, und22, und26, und29, und45, und64, info3, info4, info22, info26, info29, info45, info64, info50, aggT, gv, dstAt, aop, evalsA, partsA, evalO, updO, ofArgs, binV, intBin, unV, mmV, builtinA, Nat.reduceLT, Nat.reduceEqDiff, Nat.reduceAdd, Nat.reduceSub, Nat.reduceMul, ↓reduceIte, reduceCtorEq, t7, hw2]⟩
        · have e2 : decide ((j : Int) < n) = false := by simpa using hjn
          have hjj : j = n := by omega
          rw [hjj] at t6
          change τ 6 = .bool (kingB n M i) at t6
          have hk1 := kings_step n M i
          have hkl := kings_len n M i
          cases hb : kingB n M i with
          | true =>
            rw [hb] at t6 hk1
            rw [if_pos rfl] at hk1
            have b1 := bs_one (T := TT) (S := S3) (x := .int .i64 i) und26 info3 rfl rfl rfl
            obtain ⟨v', S4, a1, a2, a3, a4⟩ := hM.push_one (T := TT) (x := .int .i64 i) hE.ok hE.n und26 info3 rfl rfl (by omega) (by omega)
            have hE4 : Ext S S4 := a3.ext hE fun b hb => (hM.base hb).1
            repeat (first | with_reducible (first | refine W_seq ?_ | refine W_block ?_ | refine W_scope ?_ | refine W_regionV hTT ?_ | refine W_condV ?_ | refine W_ret ?_ | refine W_exit ?_ | refine W_skip ?_ | refine W_label ?_ | refine W_drawV hTT (by kernel_rfl) ?_) | simp only [H0, J86, J87, und3, und4, und22, und26, und29, und45, und64, info3, info4, info22, info26, info29, info45, info64, info50, aggT, gv, dstAt, aop, evalsA, partsA, evalO, updO, ofArgs, binV, intBin, unV, mmV, builtinA, Nat.reduceLT, Nat.reduceEqDiff, Nat.reduceAdd, Nat.reduceSub, Nat.reduceMul, ↓reduceIte, reduceCtorEq, t0, t3, t4, t5, t6, t7, e2, b1, a1, hw])
            refine LoopQ_intro (n - (i + 1)) (by omega) ⟨hE4, rfl, i + 1, v', rfl, by omega, by simp only [H0, J86, J87, und3, und4, und22, und26, und29, und45, und64, info3, info4, info22, info26, info29, info45, info64, info50, aggT, gv, dstAt, aop, evalsA, partsA, evalO, updO, ofArgs, binV, intBin, unV, mmV, builtinA, Nat.reduceLT, Nat.reduceEqDiff, Nat.reduceAdd, Nat.reduceSub, Nat.reduceMul, ↓reduceIte, reduceCtorEq, t0], by simp only [H0, J86, J87, und3, und4, und22, und26, und29, und45, und64, info3, info4, info22, info26, info29, info45, info64, info50, aggT, gv, dstAt, aop, evalsA, partsA, evalO, updO, ofArgs, binV, intBin, unV, mmV, builtinA, Nat.reduceLT, Nat.reduceEqDiff, Nat.reduceAdd, Nat.reduceSub, Nat.reduceMul, ↓reduceIte, reduceCtorEq, t3], by simp only [H0, J86, J87, und3, und4, und22, und26, und29, und45, und64, info3, info4, info22, info26, info29, info45, info64, info50, aggT, gv, dstAt, aop, evalsA, partsA, evalO, updO, ofArgs, binV, intBin, unV, mmV, builtinA, Nat.reduceLT, Nat.reduceEqDiff, Nat.reduceAdd, Nat.reduceSub, Nat.reduceMul, ↓reduceIte, reduceCtorEq], by simp only [H0, J86, J87, und3, und4, und22, und26, und29, und45, und64, info3, info4, info22, info26, info29, info45, info64, info50, aggT, gv, dstAt, aop, evalsA, partsA, evalO, updO, ofArgs, binV, intBin, unV, mmV, builtinA, Nat.reduceLT, Nat.reduceEqDiff, Nat.reduceAdd, Nat.reduceSub, Nat.reduceMul, ↓reduceIte, reduceCtorEq, t5, hw], ?_⟩
            rw [hk1, ← iv_append, List.length_append]
            exact a2
          | false =>
            rw [hb] at t6 hk1
            rw [if_neg (by simp), List.append_nil] at hk1
            repeat (first | with_reducible (first | refine W_seq ?_ | refine W_block ?_ | refine W_scope ?_ | refine W_regionV hTT ?_ | refine W_condV ?_ | refine W_ret ?_ | refine W_exit ?_ | refine W_skip ?_ | refine W_label ?_ | refine W_drawV hTT (by kernel_rfl) ?_) | simp only [H0, J86, J87, und3, und4, und22, und26, und29, und45, und64, info3, info4, info22, info26, info29, info45, info64, info50, aggT, gv, dstAt, aop, evalsA, partsA, evalO, updO, ofArgs, binV, intBin, unV, mmV, builtinA, Nat.reduceLT, Nat.reduceEqDiff, Nat.reduceAdd, Nat.reduceSub, Nat.reduceMul, ↓reduceIte, reduceCtorEq, t0, t3, t4, t5, t6, t7, e2, hw])
            refine LoopQ_intro (n - (i + 1)) (by omega) ⟨hE, rfl, i + 1, v4, rfl, by omega, by simp only [H0, J86, J87, und3, und4, und22, und26, und29, und45, und64, info3, info4, info22, info26, info29, info45, info64, info50, aggT, gv, dstAt, aop, evalsA, partsA, evalO, updO, ofArgs, binV, intBin, unV, mmV, builtinA, Nat.reduceLT, Nat.reduceEqDiff, Nat.reduceAdd, Nat.reduceSub, Nat.reduceMul, ↓reduceIte, reduceCtorEq, t0], by simp only [H0, J86, J87, und3, und4, und22, und26, und29, und45, und64, info3, info4, info22, info26, info29, info45, info64, info50, aggT, gv, dstAt, aop, evalsA, partsA, evalO, updO, ofArgs, binV, intBin, unV, mmV, builtinA, Nat.reduceLT, Nat.reduceEqDiff, Nat.reduceAdd, Nat.reduceSub, Nat.reduceMul, ↓reduceIte, reduceCtorEq, t3], by simp only [H0, J86, J87, und3, und4, und22, und26, und29, und45, und64, info3, info4, info22, info26, info29, info45, info64, info50, aggT, gv, dstAt, aop, evalsA, partsA, evalO, updO, ofArgs, binV, intBin, unV, mmV, builtinA, Nat.reduceLT, Nat.reduceEqDiff, Nat.reduceAdd, Nat.reduceSub, Nat.reduceMul, ↓reduceIte, reduceCtorEq, t4], by simp only [H0, J86, J87, und3, und4, und22, und26, und29, und45, und64, info3, info4, info22, info26, info29, info45, info64, info50, aggT, gv, dstAt, aop, evalsA, partsA, evalO, updO, ofArgs, binV, intBin, unV, mmV, builtinA, Nat.reduceLT, Nat.reduceEqDiff, Nat.reduceAdd, Nat.reduceSub, Nat.reduceMul, ↓reduceIte, reduceCtorEq, t5, hw], ?_⟩
            rw [hk1]
            exact hM
    · have e1 : decide ((i : Int) < n) = false := by simpa using hin
      have hkk : i = n := by omega
      subst hkk
      repeat (first | with_reducible (first | refine W_seq ?_ | refine W_block ?_ | refine W_scope ?_ | refine W_regionV hTT ?_ | refine W_condV ?_ | refine W_ret ?_ | refine W_exit ?_ | refine W_skip ?_ | refine W_label ?_ | refine W_drawV hTT (by kernel_rfl) ?_) | simp only [H0, J86, J87, und3, und4, und22, und26, und29, und45, und64, info3, info4, info22, info26, info29, info45, info64, info50, aggT, gv, dstAt, aop, evalsA, partsA, evalO, updO, ofArgs, binV, intBin, unV, mmV, builtinA, Nat.reduceLT, Nat.reduceEqDiff, Nat.reduceAdd, Nat.reduceSub, Nat.reduceMul, ↓reduceIte, reduceCtorEq, t0, t3, t4, t5, e1])
      exact ⟨hM, hE⟩
end Go.Proofs.Sz
end
/- part Zr -/
section
namespace Go.Proofs.Sz
open Go Go.Ax Go.Proofs Go.RowKit
theorem fn95 : TT.fn 95 = some Tryz.f95 := by kernel_rfl
theorem less_call (S : St) (x y : Int) : CallW PP 95 [.int .i64 x, .int .i64 y] S (fun v S' => v = .bool (decide (x < y)) ∧ S' = S) := by
  refine CallW_of hTT fn95 rfl (by simp [Tryz.f95]) ?_
  unfold Tryz.f95
  repeat (first | with_reducible (first | refine W_seq ?_ | refine W_block ?_ | refine W_scope ?_ | refine W_regionV hTT ?_ | refine W_condV ?_ | refine W_ret ?_ | refine W_exit ?_ | refine W_skip ?_ | refine W_label ?_ | refine W_drawV hTT (by kernel_rfl) ?_) | simp only [H0, J86, J87, und3, und4, und22, und26, und29, und45, und64, info3, info4, info22, info26, info29, info45, info64, info50, aggT, gv, dstAt, aop, evalsA, partsA, evalO, updO, ofArgs, binV, intBin, unV, mmV, builtinA, Nat.reduceLT, Nat.reduceEqDiff, Nat.reduceAdd, Nat.reduceSub, Nat.reduceMul, ↓reduceIte, reduceCtorEq])
  refine VCall_intro (isNaN_call S x) ?_
  rintro v S' ⟨rfl, rfl⟩
  repeat (first | with_reducible (first | refine W_seq ?_ | refine W_block ?_ | refine W_scope ?_ | refine W_regionV hTT ?_ | refine W_condV ?_ | refine W_ret ?_ | refine W_exit ?_ | refine W_skip ?_ | refine W_label ?_ | refine W_drawV hTT (by kernel_rfl) ?_) | simp only [H0, J86, J87, und3, und4, und22, und26, und29, und45, und64, info3, info4, info22, info26, info29, info45, info64, info50, aggT, gv, dstAt, aop, evalsA, partsA, evalO, updO, ofArgs, binV, intBin, unV, mmV, builtinA, Nat.reduceLT, Nat.reduceEqDiff, Nat.reduceAdd, Nat.reduceSub, Nat.reduceMul, ↓reduceIte, reduceCtorEq])
/-- a row of numbers of one's own, from cell 0 of its block -/
structure RowW (S : St) (b : Nat) (v : Value) (xs : List Int) : Prop where
  row : ∃ c g, v = .slice (some ⟨b, 0, none⟩) xs.length c ∧ ((c < BIG ∧ xs.length ≤ c) ∨ (c = BIG ∧ g = 1)) ∧ S.get b = some (.cells (iv xs) 3 g) ∧ (g = 0 ∨ g = 1)
theorem fn89 : TT.fn 89 = some Tryz.f89 := by kernel_rfl
theorem fn82 : TT.fn 82 = some Tryz.f82 := by kernel_rfl
/-- writing a number keeps the row -/
theorem RowW.addr {S : St} {b : Nat} {v : Value} {xs : List Int} (h : RowW S b v xs) {k : IntKind} {i : Nat} (hi : i < xs.length) : indexAddrA TT 26 (.int k i) v = some (.pointer (some ⟨b, i, none⟩)) := by
  obtain ⟨⟨c, g, rfl, _⟩⟩ := h
  exact arr_index und26 info3 rfl hi
theorem RowW.load {S : St} {b : Nat} {v : Value} {xs : List Int} (h : RowW S b v xs) {i : Nat} (hi : i < xs.length) : loadA TT S 3 (.pointer (some ⟨b, i, none⟩)) = some (.int .i64 xs[i]) := by
  obtain ⟨⟨c, g, _, _, hg, _⟩⟩ := h
  rw [load_one und3 info3 rfl hg, iv_get, List.getElem?_eq_getElem hi]
  rfl
theorem RowW.store {S : St} (hok : S.ok) {b : Nat} {v : Value} {xs : List Int} (h : RowW S b v xs) {i : Nat} (hi : i < xs.length) (x : Int) :
    ∃ S', storeA TT S 3 (.int .i64 x) (.pointer (some ⟨b, i, none⟩)) = some S' ∧ RowW S' b v (xs.set i x) ∧ S'.ok ∧ S'.n = S.n ∧ S'.mono = S.mono ∧ ∀ j, j ≠ b → S'.get j = S.get j := by
  obtain ⟨⟨c, g, rfl, hc, hg, hg'⟩⟩ := h
  have hlt := lt_of_get hg
  refine ⟨_, store_one (v := .int .i64 x) info3 hg rfl rfl (by rw [iv_len]; exact hi), ⟨⟨c, g, by rw [List.length_set], by rw [List.length_set]; exact hc, ?_, hg'⟩⟩, by rw [ok_set_iff]; exact hok, rfl, rfl, fun j hj => get_set_ne _ hlt hj⟩
  rw [get_set_same _ hok hlt rfl]
  congr 2
  simp [iv, List.map_set]
set_option maxHeartbeats 4000000 in
/-- insertionSortOrdered: the numbers in some order -/
theorem insOrd_call {S : St} (hok : S.ok) {b : Nat} {va : Value} {xs : List Int} (hx : RowW S b va xs) (hl : xs.length < 1000) :
    CallW PP 89 [va, .int .i64 0, .int .i64 xs.length] S (fun v S' => v = .tuple #[] ∧ (∃ ys : List Int, ys.Perm xs ∧ RowW S' b va ys) ∧ S'.ok ∧ S'.n = S.n ∧ S'.mono = S.mono ∧ ∀ j, j ≠ b → S'.get j = S.get j) := by
  refine CallW_of hTT fn89 rfl (by simp [Tryz.f89]) ?_
  unfold Tryz.f89
  have hw0 : IntKind.i64.wrap (0 + 1) = ((1 : Nat) : Int) := rfl
  repeat (first | with_reducible (first | refine W_seq ?_ | refine W_scope ?_ | refine W_regionV hTT ?_ | refine W_condV ?_ | refine W_ret ?_ | refine W_exit ?_ | refine W_skip ?_ | refine W_label ?_ | refine W_drawV hTT (by kernel_rfl) ?_) | simp only [H0, J86, J87, und3, und4, und22, und26, und29, und45, und64, info3, info4, info22, info26, info29, info45, info64, info50, aggT, gv, dstAt, aop, evalsA, partsA, evalO, updO, ofArgs, binV, intBin, unV, mmV, builtinA, Nat.reduceLT, Nat.reduceEqDiff, Nat.reduceAdd, Nat.reduceSub, Nat.reduceMul, ↓reduceIte, reduceCtorEq, hw0])
  refine W_block ?_
  refine W_loopI (fun m τ ds S' => ds = [] ∧ (∃ ys : List Int, ys.Perm xs ∧ RowW S' b va ys) ∧ (S'.ok ∧ S'.n = S.n ∧ S'.mono = S.mono ∧ ∀ j, j ≠ b → S'.get j = S.get j) ∧ ∃ k : Nat, m = xs.length + 1 - k ∧ k ≤ xs.length + 1 ∧ τ 0 = va ∧ τ 1 = .int .i64 0 ∧ τ 2 = .int .i64 xs.length ∧ τ 6 = .int .i64 k) (xs.length + 1 - 1) ?_ ?_
  · refine ⟨rfl, ⟨xs, .refl _, hx⟩, ⟨hok, rfl, rfl, fun _ _ => rfl⟩, 1, rfl, by omega, ?_, ?_, ?_, ?_⟩ <;> first | rfl | simp only [H0, J86, J87, und3, und4, und22, und26, und29, und45, und64, info3, info4, info22, info26, info29, info45, info64, info50, aggT, gv, dstAt, aop, evalsA, partsA, evalO, updO, ofArgs, binV, intBin, unV, mmV, builtinA, Nat.reduceLT, Nat.reduceEqDiff, Nat.reduceAdd, Nat.reduceSub, Nat.reduceMul, ↓reduceIte, reduceCtorEq]
  · rintro m τ ds S1 ⟨rfl, ⟨ys, hp, hR⟩, hS, k, rfl, hk, t0, t1, t2, t6⟩
    have hy := hp.length_eq
    by_cases hlt : k < xs.length
    · have e1 : decide ((k : Int) < xs.length) = true := by simpa using hlt
      have hw := wrap_succ (k := k) (by omega)
      repeat (first | with_reducible (first | refine W_seq ?_ | refine W_scope ?_ | refine W_regionV hTT ?_ | refine W_condV ?_ | refine W_ret ?_ | refine W_exit ?_ | refine W_skip ?_ | refine W_label ?_ | refine W_drawV hTT (by kernel_rfl) ?_) | simp only [H0, J86, J87, und3, und4, und22, und26, und29, und45, und64, info3, info4, info22, info26, info29, info45, info64, info50, aggT, gv, dstAt, aop, evalsA, partsA, evalO, updO, ofArgs, binV, intBin, unV, mmV, builtinA, Nat.reduceLT, Nat.reduceEqDiff, Nat.reduceAdd, Nat.reduceSub, Nat.reduceMul, ↓reduceIte, reduceCtorEq, t0, t1, t2, t6, e1])
      refine W_block ?_
      repeat (first | with_reducible (first | refine W_seq ?_ | refine W_scope ?_ | refine W_regionV hTT ?_ | refine W_condV ?_ | refine W_ret ?_ | refine W_exit ?_ | refine W_skip ?_ | refine W_label ?_ | refine W_drawV hTT (by kernel_rfl) ?_) | simp only [H0, J86, J87, und3, und4, und22, und26, und29, und45, und64, info3, info4, info22, info26, info29, info45, info64, info50, aggT, gv, dstAt, aop, evalsA, partsA, evalO, updO, ofArgs, binV, intBin, unV, mmV, builtinA, Nat.reduceLT, Nat.reduceEqDiff, Nat.reduceAdd, Nat.reduceSub, Nat.reduceMul, ↓reduceIte, reduceCtorEq, t0, t1, t2, t6])
      refine W_block ?_
      refine W_loopI (fun m τ ds S' => ds = [] ∧ (∃ ys : List Int, ys.Perm xs ∧ RowW S' b va ys) ∧ (S'.ok ∧ S'.n = S.n ∧ S'.mono = S.mono ∧ ∀ j, j ≠ b → S'.get j = S.get j) ∧ ∃ j : Nat, m = j ∧ j < xs.length ∧ τ 0 = va ∧ τ 1 = .int .i64 0 ∧ τ 2 = .int .i64 xs.length ∧ τ 6 = .int .i64 k ∧ τ 7 = .int .i64 j) k ?_ ?_
      · refine ⟨rfl, ⟨ys, hp, hR⟩, hS, k, rfl, hlt, ?_, ?_, ?_, ?_, ?_⟩ <;> first | rfl | simp only [H0, J86, J87, und3, und4, und22, und26, und29, und45, und64, info3, info4, info22, info26, info29, info45, info64, info50, aggT, gv, dstAt, aop, evalsA, partsA, evalO, updO, ofArgs, binV, intBin, unV, mmV, builtinA, Nat.reduceLT, Nat.reduceEqDiff, Nat.reduceAdd, Nat.reduceSub, Nat.reduceMul, ↓reduceIte, reduceCtorEq, t0, t1, t2, t6]
      · rintro m τ ds S1 ⟨rfl, ⟨ys, hp, hR⟩, hS, j, hmj, hj, t0, t1, t2, t6, t7⟩
        subst hmj
        have hy := hp.length_eq
        cases m with
        | zero =>
          have e2 : decide (((0 : Nat) : Int) > 0) = false := rfl
          repeat (first | with_reducible (first | refine W_seq ?_ | refine W_block ?_ | refine W_scope ?_ | refine W_regionV hTT ?_ | refine W_condV ?_ | refine W_ret ?_ | refine W_exit ?_ | refine W_skip ?_ | refine W_label ?_ | refine W_drawV hTT (by kernel_rfl) ?_) | simp only [H0, J86, J87, und3, und4, und22, und26, und29, und45, und64, info3, info4, info22, info26, info29, info45, info64, info50, aggT, gv, dstAt, aop, evalsA, partsA, evalO, updO, ofArgs, binV, intBin, unV, mmV, builtinA, Nat.reduceLT, Nat.reduceEqDiff, Nat.reduceAdd, Nat.reduceSub, Nat.reduceMul, ↓reduceIte, reduceCtorEq, t0, t1, t2, t6, t7, e2, hw])
          refine LoopQ_intro (xs.length + 1 - (k + 1)) (by omega) ⟨rfl, ⟨ys, hp, hR⟩, hS, k + 1, rfl, by omega, by simp only [H0, J86, J87, und3, und4, und22, und26, und29, und45, und64, info3, info4, info22, info26, info29, info45, info64, info50, aggT, gv, dstAt, aop, evalsA, partsA, evalO, updO, ofArgs, binV, intBin, unV, mmV, builtinA, Nat.reduceLT, Nat.reduceEqDiff, Nat.reduceAdd, Nat.reduceSub, Nat.reduceMul, ↓reduceIte, reduceCtorEq, t0], by simp only [H0, J86, J87, und3, und4, und22, und26, und29, und45, und64, info3, info4, info22, info26, info29, info45, info64, info50, aggT, gv, dstAt, aop, evalsA, partsA, evalO, updO, ofArgs, binV, intBin, unV, mmV, builtinA, Nat.reduceLT, Nat.reduceEqDiff, Nat.reduceAdd, Nat.reduceSub, Nat.reduceMul, ↓reduceIte, reduceCtorEq, t1], by simp only [H0, J86, J87, und3, und4, und22, und26, und29, und45, und64, info3, info4, info22, info26, info29, info45, info64, info50, aggT, gv, dstAt, aop, evalsA, partsA, evalO, updO, ofArgs, binV, intBin, unV, mmV, builtinA, Nat.reduceLT, Nat.reduceEqDiff, Nat.reduceAdd, Nat.reduceSub, Nat.reduceMul, ↓reduceIte, reduceCtorEq, t2], by simp only [H0, J86, J87, und3, und4, und22, und26, und29, und45, und64, info3, info4, info22, info26, info29, info45, info64, info50, aggT, gv, dstAt, aop, evalsA, partsA, evalO, updO, ofArgs, binV, intBin, unV, mmV, builtinA, Nat.reduceLT, Nat.reduceEqDiff, Nat.reduceAdd, Nat.reduceSub, Nat.reduceMul, ↓reduceIte, reduceCtorEq, t6, hw]⟩
        | succ j =>
          have e2 : decide (((j + 1 : Nat) : Int) > 0) = true := decide_eq_true (by omega)
          have hw2 : IntKind.i64.wrap (((j + 1 : Nat) : Int) - 1) = (j : Nat) := by rw [wrap_id (by omega) (by omega)]; omega
          have a1 := hR.addr (k := .i64) (i := j + 1) (by omega)
          have a2 := hR.addr (k := .i64) (i := j) (by omega)
          have l1 := hR.load (i := j + 1) (by omega)
          have l2 := hR.load (i := j) (by omega)
          repeat (first | with_reducible (first | refine W_seq ?_ | refine W_block ?_ | refine W_scope ?_ | refine W_regionV hTT ?_ | refine W_condV ?_ | refine W_ret ?_ | refine W_exit ?_ | refine W_skip ?_ | refine W_label ?_ | refine W_drawV hTT (by kernel_rfl) ?_) | simp only [H0, J86, J87, und3, und4, und22, und26, und29, und45, und64, info3, info4, info22, info26, info29, info45, info64, info50, aggT, gv, dstAt, aop, evalsA, partsA, evalO, updO, ofArgs, binV, intBin, unV, mmV, builtinA, Nat.reduceLT, Nat.reduceEqDiff, Nat.reduceAdd, Nat.reduceSub, Nat.reduceMul, ↓reduceIte, reduceCtorEq, t0, t1, t2, t6, t7, e2, hw2, a1, a2, l1, l2])
          refine VCall_intro (less_call _ _ _) ?_
          rintro v S2 ⟨rfl, rfl⟩
          repeat (first | with_reducible (first | refine W_seq ?_ | refine W_block ?_ | refine W_scope ?_ | refine W_regionV hTT ?_ | refine W_condV ?_ | refine W_ret ?_ | refine W_exit ?_ | refine W_skip ?_ | refine W_label ?_ | refine W_drawV hTT (by kernel_rfl) ?_) | simp only [H0, J86, J87, und3, und4, und22, und26, und29, und45, und64, info3, info4, info22, info26, info29, info45, info64, info50, aggT, gv, dstAt, aop, evalsA, partsA, evalO, updO, ofArgs, binV, intBin, unV, mmV, builtinA, Nat.reduceLT, Nat.reduceEqDiff, Nat.reduceAdd, Nat.reduceSub, Nat.reduceMul, ↓reduceIte, reduceCtorEq, t0, t1, t2, t6, t7, hw2, a1, a2, l1, l2])
          refine VIf_split (fun h1 => ?_) (fun h1 => ?_)
          · obtain ⟨S3, s1, hR3, o1, o2, o3, o4⟩ := hR.store hS.1 (i := j + 1) (by omega) ys[j]
            obtain ⟨S4, s2, hR4, q1, q2, q3, q4⟩ := hR3.store o1 (i := j) (by rw [List.length_set]; omega) ys[j + 1]
            repeat (first | with_reducible (first | refine W_seq ?_ | refine W_block ?_ | refine W_scope ?_ | refine W_regionV hTT ?_ | refine W_condV ?_ | refine W_ret ?_ | refine W_exit ?_ | refine W_skip ?_ | refine W_label ?_ | refine W_drawV hTT (by kernel_rfl) ?_) | simp only [H0, J86, J87, und3, und4, und22, und26, und29, und45, und64, info3, info4, info22, info26, info29, info45, info64, info50, aggT, gv, dstAt, aop, evalsA, partsA, evalO, updO, ofArgs, binV, intBin, unV, mmV, builtinA, Nat.reduceLT, Nat.reduceEqDiff, Nat.reduceAdd, Nat.reduceSub, Nat.reduceMul, ↓reduceIte, reduceCtorEq, t0, t1, t2, t6, t7, hw2, a1, a2, l1, l2, s1, s2])
            refine LoopQ_intro j (by omega) ⟨rfl, ⟨_, (List.set_set_perm (by omega) (by omega)).trans hp, hR4⟩, ⟨q1, by rw [q2, o2]; exact hS.2.1, by rw [q3, o3]; exact hS.2.2.1, fun i hi => by rw [q4 i hi, o4 i hi]; exact hS.2.2.2 i hi⟩, j, rfl, by omega, by simp only [H0, J86, J87, und3, und4, und22, und26, und29, und45, und64, info3, info4, info22, info26, info29, info45, info64, info50, aggT, gv, dstAt, aop, evalsA, partsA, evalO, updO, ofArgs, binV, intBin, unV, mmV, builtinA, Nat.reduceLT, Nat.reduceEqDiff, Nat.reduceAdd, Nat.reduceSub, Nat.reduceMul, ↓reduceIte, reduceCtorEq, t0], by simp only [H0, J86, J87, und3, und4, und22, und26, und29, und45, und64, info3, info4, info22, info26, info29, info45, info64, info50, aggT, gv, dstAt, aop, evalsA, partsA, evalO, updO, ofArgs, binV, intBin, unV, mmV, builtinA, Nat.reduceLT, Nat.reduceEqDiff, Nat.reduceAdd, Nat.reduceSub, Nat.reduceMul, ↓reduceIte, reduceCtorEq, t1], by simp only [H0, J86, J87, und3, und4, und22, und26, und29, und45, und64, info3, info4, info22, info26, info29, info45, info64, info50, aggT, gv, dstAt, aop, evalsA, partsA, evalO, updO, ofArgs, binV, intBin, unV, mmV, builtinA, Nat.reduceLT, Nat.reduceEqDiff, Nat.reduceAdd, Nat.reduceSub, Nat.reduceMul, ↓reduceIte, reduceCtorEq, t2], by simp only [H0, J86, J87, und3, und4, und22, und26, und29, und45, und64, info3, info4, info22, info26, info29, info45, info64, info50, aggT, gv, dstAt, aop, evalsA, partsA, evalO, updO, ofArgs, binV, intBin, unV, mmV, builtinA, Nat.reduceLT, Nat.reduceEqDiff, Nat.reduceAdd, Nat.reduceSub, Nat.reduceMul, ↓reduceIte, reduceCtorEq, t6], by simp only [H0, J86, J87, und3, und4, und22, und26, und29, und45, und64, info3, info4, info22, info26, info29, info45, info64, info50, aggT, gv, dstAt, aop, evalsA, partsA, evalO, updO, ofArgs, binV, intBin, unV, mmV, builtinA, Nat.reduceLT, Nat.reduceEqDiff, Nat.reduceAdd, Nat.reduceSub, Nat.reduceMul, ↓reduceIte, reduceCtorEq, t7, hw2]⟩
          · repeat (first | with_reducible (first | refine W_seq ?_ | refine W_block ?_ | refine W_scope ?_ | refine W_regionV hTT ?_ | refine W_condV ?_ | refine W_ret ?_ | refine W_exit ?_ | refine W_skip ?_ | refine W_label ?_ | refine W_drawV hTT (by kernel_rfl) ?_) | simp only [H0, J86, J87, und3, und4, und22, und26, und29, und45, und64, info3, info4, info22, info26, info29, info45, info64, info50, aggT, gv, dstAt, aop, evalsA, partsA, evalO, updO, ofArgs, binV, intBin, unV, mmV, builtinA, Nat.reduceLT, Nat.reduceEqDiff, Nat.reduceAdd, Nat.reduceSub, Nat.reduceMul, ↓reduceIte, reduceCtorEq, t0, t1, t2, t6, t7, hw])
            refine LoopQ_intro (xs.length + 1 - (k + 1)) (by omega) ⟨rfl, ⟨ys, hp, hR⟩, hS, k + 1, rfl, by omega, by simp only [H0, J86, J87, und3, und4, und22, und26, und29, und45, und64, info3, info4, info22, info26, info29, info45, info64, info50, aggT, gv, dstAt, aop, evalsA, partsA, evalO, updO, ofArgs, binV, intBin, unV, mmV, builtinA, Nat.reduceLT, Nat.reduceEqDiff, Nat.reduceAdd, Nat.reduceSub, Nat.reduceMul, ↓reduceIte, reduceCtorEq, t0], by simp only [H0, J86, J87, und3, und4, und22, und26, und29, und45, und64, info3, info4, info22, info26, info29, info45, info64, info50, aggT, gv, dstAt, aop, evalsA, partsA, evalO, updO, ofArgs, binV, intBin, unV, mmV, builtinA, Nat.reduceLT, Nat.reduceEqDiff, Nat.reduceAdd, Nat.reduceSub, Nat.reduceMul, ↓reduceIte, reduceCtorEq, t1], by simp only [H0, J86, J87, und3, und4, und22, und26, und29, und45, und64, info3, info4, info22, info26, info29, info45, info64, info50, aggT, gv, dstAt, aop, evalsA, partsA, evalO, updO, ofArgs, binV, intBin, unV, mmV, builtinA, Nat.reduceLT, Nat.reduceEqDiff, Nat.reduceAdd, Nat.reduceSub, Nat.reduceMul, ↓reduceIte, reduceCtorEq, t2], by simp only [H0, J86, J87, und3, und4, und22, und26, und29, und45, und64, info3, info4, info22, info26, info29, info45, info64, info50, aggT, gv, dstAt, aop, evalsA, partsA, evalO, updO, ofArgs, binV, intBin, unV, mmV, builtinA, Nat.reduceLT, Nat.reduceEqDiff, Nat.reduceAdd, Nat.reduceSub, Nat.reduceMul, ↓reduceIte, reduceCtorEq, t6, hw]⟩
    · have e1 : decide ((k : Int) < xs.length) = false := by simpa using hlt
      repeat (first | with_reducible (first | refine W_seq ?_ | refine W_block ?_ | refine W_scope ?_ | refine W_regionV hTT ?_ | refine W_condV ?_ | refine W_ret ?_ | refine W_exit ?_ | refine W_skip ?_ | refine W_label ?_ | refine W_drawV hTT (by kernel_rfl) ?_) | simp only [H0, J86, J87, und3, und4, und22, und26, und29, und45, und64, info3, info4, info22, info26, info29, info45, info64, info50, aggT, gv, dstAt, aop, evalsA, partsA, evalO, updO, ofArgs, binV, intBin, unV, mmV, builtinA, Nat.reduceLT, Nat.reduceEqDiff, Nat.reduceAdd, Nat.reduceSub, Nat.reduceMul, ↓reduceIte, reduceCtorEq, t0, t1, t2, t6, e1])
      exact ⟨rfl, ⟨ys, hp, hR⟩, hS⟩
end Go.Proofs.Sz
end
/- part Zs -/
section
namespace Go.Proofs.Sz
open Go Go.Ax Go.Proofs Go.RowKit
set_option maxHeartbeats 4000000 in
/-- insertionSortCmpFunc, whatever the order function answers: the numbers in some order -/
theorem insCmp_call {S : St} (hok : S.ok) {b : Nat} {va : Value} {xs : List Int} (hx : RowW S b va xs) (hl : xs.length < 1000) {g : FuncId} {cs : List Value}
    (hcmp : ∀ S', (S'.ok ∧ S'.n = S.n ∧ S'.mono = S.mono ∧ ∀ j, j ≠ b → S'.get j = S.get j) → ∀ x y, x ∈ xs → y ∈ xs → CallW PP g ([.int .i64 x, .int .i64 y] ++ cs) S' (fun v S3 => (∃ r, v = .int .i64 r) ∧ S3 = S')) :
    CallW PP 82 [va, .int .i64 0, .int .i64 xs.length, .func (.func g) #[] cs.toArray] S (fun v S' => v = .tuple #[] ∧ (∃ ys : List Int, ys.Perm xs ∧ RowW S' b va ys) ∧ S'.ok ∧ S'.n = S.n ∧ S'.mono = S.mono ∧ ∀ j, j ≠ b → S'.get j = S.get j) := by
  refine CallW_of hTT fn82 rfl (by simp [Tryz.f82]) ?_
  unfold Tryz.f82
  have hw0 : IntKind.i64.wrap (0 + 1) = ((1 : Nat) : Int) := rfl
  repeat (first | with_reducible (first | refine W_seq ?_ | refine W_scope ?_ | refine W_regionV hTT ?_ | refine W_condV ?_ | refine W_ret ?_ | refine W_exit ?_ | refine W_skip ?_ | refine W_label ?_ | refine W_drawV hTT (by kernel_rfl) ?_) | simp only [H0, J86, J87, und3, und4, und22, und26, und29, und45, und64, info3, info4, info22, info26, info29, info45, info64, info50, aggT, gv, dstAt, aop, evalsA, partsA, evalO, updO, ofArgs, binV, intBin, unV, mmV, builtinA, Nat.reduceLT, Nat.reduceEqDiff, Nat.reduceAdd, Nat.reduceSub, Nat.reduceMul, ↓reduceIte, reduceCtorEq, hw0])
  refine W_block ?_
  refine W_loopI (fun m τ ds S' => ds = [] ∧ (∃ ys : List Int, ys.Perm xs ∧ RowW S' b va ys) ∧ (S'.ok ∧ S'.n = S.n ∧ S'.mono = S.mono ∧ ∀ j, j ≠ b → S'.get j = S.get j) ∧ ∃ k : Nat, m = xs.length + 1 - k ∧ k ≤ xs.length + 1 ∧ τ 0 = va ∧ τ 1 = .int .i64 0 ∧ τ 2 = .int .i64 xs.length ∧ τ 3 = .func (.func g) #[] cs.toArray ∧ τ 8 = .int .i64 k) (xs.length + 1 - 1) ?_ ?_
  · refine ⟨rfl, ⟨xs, .refl _, hx⟩, ⟨hok, rfl, rfl, fun _ _ => rfl⟩, 1, rfl, by omega, ?_, ?_, ?_, ?_, ?_⟩ <;> first | rfl | simp only [H0, J86, J87, und3, und4, und22, und26, und29, und45, und64, info3, info4, info22, info26, info29, info45, info64, info50, aggT, gv, dstAt, aop, evalsA, partsA, evalO, updO, ofArgs, binV, intBin, unV, mmV, builtinA, Nat.reduceLT, Nat.reduceEqDiff, Nat.reduceAdd, Nat.reduceSub, Nat.reduceMul, ↓reduceIte, reduceCtorEq]
  · rintro m τ ds S1 ⟨rfl, ⟨ys, hp, hR⟩, hS, k, rfl, hk, t0, t1, t2, t3, t6⟩
    have hy := hp.length_eq
    by_cases hlt : k < xs.length
    · have e1 : decide ((k : Int) < xs.length) = true := by simpa using hlt
      have hw := wrap_succ (k := k) (by omega)
      repeat (first | with_reducible (first | refine W_seq ?_ | refine W_scope ?_ | refine W_regionV hTT ?_ | refine W_condV ?_ | refine W_ret ?_ | refine W_exit ?_ | refine W_skip ?_ | refine W_label ?_ | refine W_drawV hTT (by kernel_rfl) ?_) | simp only [H0, J86, J87, und3, und4, und22, und26, und29, und45, und64, info3, info4, info22, info26, info29, info45, info64, info50, aggT, gv, dstAt, aop, evalsA, partsA, evalO, updO, ofArgs, binV, intBin, unV, mmV, builtinA, Nat.reduceLT, Nat.reduceEqDiff, Nat.reduceAdd, Nat.reduceSub, Nat.reduceMul, ↓reduceIte, reduceCtorEq, t0, t1, t2, t3, t6, e1])
      refine W_block ?_
      repeat (first | with_reducible (first | refine W_seq ?_ | refine W_scope ?_ | refine W_regionV hTT ?_ | refine W_condV ?_ | refine W_ret ?_ | refine W_exit ?_ | refine W_skip ?_ | refine W_label ?_ | refine W_drawV hTT (by kernel_rfl) ?_) | simp only [H0, J86, J87, und3, und4, und22, und26, und29, und45, und64, info3, info4, info22, info26, info29, info45, info64, info50, aggT, gv, dstAt, aop, evalsA, partsA, evalO, updO, ofArgs, binV, intBin, unV, mmV, builtinA, Nat.reduceLT, Nat.reduceEqDiff, Nat.reduceAdd, Nat.reduceSub, Nat.reduceMul, ↓reduceIte, reduceCtorEq, t0, t1, t2, t3, t6])
      refine W_block ?_
      refine W_loopI (fun m τ ds S' => ds = [] ∧ (∃ ys : List Int, ys.Perm xs ∧ RowW S' b va ys) ∧ (S'.ok ∧ S'.n = S.n ∧ S'.mono = S.mono ∧ ∀ j, j ≠ b → S'.get j = S.get j) ∧ ∃ j : Nat, m = j ∧ j < xs.length ∧ τ 0 = va ∧ τ 1 = .int .i64 0 ∧ τ 2 = .int .i64 xs.length ∧ τ 3 = .func (.func g) #[] cs.toArray ∧ τ 8 = .int .i64 k ∧ τ 9 = .int .i64 j) k ?_ ?_
      · refine ⟨rfl, ⟨ys, hp, hR⟩, hS, k, rfl, hlt, ?_, ?_, ?_, ?_, ?_, ?_⟩ <;> first | rfl | simp only [H0, J86, J87, und3, und4, und22, und26, und29, und45, und64, info3, info4, info22, info26, info29, info45, info64, info50, aggT, gv, dstAt, aop, evalsA, partsA, evalO, updO, ofArgs, binV, intBin, unV, mmV, builtinA, Nat.reduceLT, Nat.reduceEqDiff, Nat.reduceAdd, Nat.reduceSub, Nat.reduceMul, ↓reduceIte, reduceCtorEq, t0, t1, t2, t3, t6]
      · rintro m τ ds S1 ⟨rfl, ⟨ys, hp, hR⟩, hS, j, hmj, hj, t0, t1, t2, t3, t6, t7⟩
        subst hmj
        have hy := hp.length_eq
        cases m with
        | zero =>
          have e2 : decide (((0 : Nat) : Int) > 0) = false := rfl
          repeat (first | with_reducible (first | refine W_seq ?_ | refine W_block ?_ | refine W_scope ?_ | refine W_regionV hTT ?_ | refine W_condV ?_ | refine W_ret ?_ | refine W_exit ?_ | refine W_skip ?_ | refine W_label ?_ | refine W_drawV hTT (by kernel_rfl) ?_) | simp only [H0, J86, J87, und3, und4, und22, und26, und29, und45, und64, info3, info4, info22, info26, info29, info45, info64, info50, aggT, gv, dstAt, aop, evalsA, partsA, evalO, updO, ofArgs, binV, intBin, unV, mmV, builtinA, Nat.reduceLT, Nat.reduceEqDiff, Nat.reduceAdd, Nat.reduceSub, Nat.reduceMul, ↓reduceIte, reduceCtorEq, t0, t1, t2, t3, t6, t7, e2, hw])
          refine LoopQ_intro (xs.length + 1 - (k + 1)) (by omega) ⟨rfl, ⟨ys, hp, hR⟩, hS, k + 1, rfl, by omega, by simp only [H0, J86, J87, und3, und4, und22, und26, und29, und45, und64, info3, info4, info22, info26, info29, info45, info64, info50, aggT, gv, dstAt, aop, evalsA, partsA, evalO, updO, ofArgs, binV, intBin, unV, mmV, builtinA, Nat.reduceLT, Nat.reduceEqDiff, Nat.reduceAdd, Nat.reduceSub, Nat.reduceMul, ↓reduceIte, reduceCtorEq, t0], by simp only [H0, J86, J87, und3, und4, und22, und26, und29, und45, und64, info3, info4, info22, info26, info29, info45, info64, info50, aggT, gv, dstAt, aop, evalsA, partsA, evalO, updO, ofArgs, binV, intBin, unV, mmV, builtinA, Nat.reduceLT, Nat.reduceEqDiff, Nat.reduceAdd, Nat.reduceSub, Nat.reduceMul, ↓reduceIte, reduceCtorEq, t1], by simp only [H0, J86, J87, und3, und4, und22, und26, und29, und45, und64, info3, info4, info22, info26, info29, info45, info64, info50, aggT, gv, dstAt, aop, evalsA, partsA, evalO, updO, ofArgs, binV, intBin, unV, mmV, builtinA, Nat.reduceLT, Nat.reduceEqDiff, Nat.reduceAdd, Nat.reduceSub, Nat.reduceMul, ↓reduceIte, reduceCtorEq, t2], by simp only [H0, J86, J87, und3, und4, und22, und26, und29, und45, und64, info3, info4, info22, info26, info29, info45, info64, info50, aggT, gv, dstAt, aop, evalsA, partsA, evalO, updO, ofArgs, binV, intBin, unV, mmV, builtinA, Nat.reduceLT, Nat.reduceEqDiff, Nat.reduceAdd, Nat.reduceSub, Nat.reduceMul, ↓reduceIte, reduceCtorEq, t3], by simp only [H0, J86, J87, und3, und4, und22, und26, und29, und45, und64, info3, info4, info22, info26, info29, info45, info64, info50, aggT, gv, dstAt, aop, evalsA, partsA, evalO, updO, ofArgs, binV, intBin, unV, mmV, builtinA, Nat.reduceLT, Nat.reduceEqDiff, Nat.reduceAdd, Nat.reduceSub, Nat.reduceMul, ↓reduceIte, reduceCtorEq, t6, hw]⟩
        | succ j =>
          have e2 : decide (((j + 1 : Nat) : Int) > 0) = true := decide_eq_true (by omega)
          have hw2 : IntKind.i64.wrap (((j + 1 : Nat) : Int) - 1) = (j : Nat) := by rw [wrap_id (by omega) (by omega)]; omega
          have a1 := hR.addr (k := .i64) (i := j + 1) (by omega)
          have a2 := hR.addr (k := .i64) (i := j) (by omega)
          have l1 := hR.load (i := j + 1) (by omega)
          have l2 := hR.load (i := j) (by omega)
          repeat (first | with_reducible (first | refine W_seq ?_ | refine W_block ?_ | refine W_scope ?_ | refine W_regionV hTT ?_ | refine W_condV ?_ | refine W_ret ?_ | refine W_exit ?_ | refine W_skip ?_ | refine W_label ?_ | refine W_drawV hTT (by kernel_rfl) ?_) | simp only [H0, J86, J87, und3, und4, und22, und26, und29, und45, und64, info3, info4, info22, info26, info29, info45, info64, info50, aggT, gv, dstAt, aop, evalsA, partsA, evalO, updO, ofArgs, binV, intBin, unV, mmV, builtinA, Nat.reduceLT, Nat.reduceEqDiff, Nat.reduceAdd, Nat.reduceSub, Nat.reduceMul, ↓reduceIte, reduceCtorEq, t0, t1, t2, t3, t6, t7, e2, hw2, a1, a2, l1, l2])
          refine VCall_intro (hcmp S1 hS _ _ (hp.mem_iff.1 (List.getElem_mem _)) (hp.mem_iff.1 (List.getElem_mem _))) ?_
          rintro v S2 ⟨⟨r, rfl⟩, rfl⟩
          repeat (first | with_reducible (first | refine W_seq ?_ | refine W_block ?_ | refine W_scope ?_ | refine W_regionV hTT ?_ | refine W_condV ?_ | refine W_ret ?_ | refine W_exit ?_ | refine W_skip ?_ | refine W_label ?_ | refine W_drawV hTT (by kernel_rfl) ?_) | simp only [H0, J86, J87, und3, und4, und22, und26, und29, und45, und64, info3, info4, info22, info26, info29, info45, info64, info50, aggT, gv, dstAt, aop, evalsA, partsA, evalO, updO, ofArgs, binV, intBin, unV, mmV, builtinA, Nat.reduceLT, Nat.reduceEqDiff, Nat.reduceAdd, Nat.reduceSub, Nat.reduceMul, ↓reduceIte, reduceCtorEq, t0, t1, t2, t3, t6, t7, hw2, a1, a2, l1, l2])
          refine VIf_split (fun h1 => ?_) (fun h1 => ?_)
          · obtain ⟨S3, s1, hR3, o1, o2, o3, o4⟩ := hR.store hS.1 (i := j + 1) (by omega) ys[j]
            obtain ⟨S4, s2, hR4, q1, q2, q3, q4⟩ := hR3.store o1 (i := j) (by rw [List.length_set]; omega) ys[j + 1]
            repeat (first | with_reducible (first | refine W_seq ?_ | refine W_block ?_ | refine W_scope ?_ | refine W_regionV hTT ?_ | refine W_condV ?_ | refine W_ret ?_ | refine W_exit ?_ | refine W_skip ?_ | refine W_label ?_ | refine W_drawV hTT (by kernel_rfl) ?_) | simp only [H0, J86, J87, und3, und4, und22, und26, und29, und45, und64, info3, info4, info22, info26, info29, info45, info64, info50, aggT, gv, dstAt, aop, evalsA, partsA, evalO, updO, ofArgs, binV, intBin, unV, mmV, builtinA, Nat.reduceLT, Nat.reduceEqDiff, Nat.reduceAdd, Nat.reduceSub, Nat.reduceMul, ↓reduceIte, reduceCtorEq, t0, t1, t2, t3, t6, t7, hw2, a1, a2, l1, l2, s1, s2])
            refine LoopQ_intro j (by omega) ⟨rfl, ⟨_, (List.set_set_perm (by omega) (by omega)).trans hp, hR4⟩, ⟨q1, by rw [q2, o2]; exact hS.2.1, by rw [q3, o3]; exact hS.2.2.1, fun i hi => by rw [q4 i hi, o4 i hi]; exact hS.2.2.2 i hi⟩, j, rfl, by omega, by simp only [H0, J86, J87, und3, und4, und22, und26, und29, und45, und64, info3, info4, info22, info26, info29, info45, info64, info50, aggT, gv, dstAt, aop, evalsA, partsA, evalO, updO, ofArgs, binV, intBin, unV, mmV, builtinA, Nat.reduceLT, Nat.reduceEqDiff, Nat.reduceAdd, Nat.reduceSub, Nat.reduceMul, ↓reduceIte, reduceCtorEq, t0], by simp only [H0, J86, J87, und3, und4, und22, und26, und29, und45, und64, info3, info4, info22, info26, info29, info45, info64, info50, aggT, gv, dstAt, aop, evalsA, partsA, evalO, updO, ofArgs, binV, intBin, unV, mmV, builtinA, Nat.reduceLT, Nat.reduceEqDiff, Nat.reduceAdd, Nat.reduceSub, Nat.reduceMul, ↓reduceIte, reduceCtorEq, t1], by simp only [H0, J86, J87, und3, und4, und22, und26, und29, und45, und64, info3, info4, info22, info26, info29, info45, info64, info50, aggT, gv, dstAt, aop, evalsA, partsA, evalO, updO, ofArgs, binV, intBin, unV, mmV, builtinA, Nat.reduceLT, Nat.reduceEqDiff, Nat.reduceAdd, Nat.reduceSub, Nat.reduceMul, ↓reduceIte, reduceCtorEq, t2], by simp only [H0, J86, J87, und3, und4, und22, und26, und29, und45, und64, info3, info4, info22, info26, info29, info45, info64, info50, aggT, gv, dstAt, aop, evalsA, partsA, evalO, updO, ofArgs, binV, intBin, unV, mmV, builtinA, Nat.reduceLT, Nat.reduceEqDiff, Nat.reduceAdd, Nat.reduceSub, Nat.reduceMul, ↓reduceIte, reduceCtorEq, t3], by simp only [H0, J86, J87, und3, und4, und22, und26, und29, und45, und64, info3, info4, info22, info26, info29, info45, info64, info50, aggT, gv, dstAt, aop, evalsA, partsA, evalO, updO, ofArgs, binV, intBin, unV, mmV, builtinA, Nat.reduceLT, Nat.reduceEqDiff, Nat.reduceAdd, Nat.reduceSub, Nat.reduceMul, ↓reduceIte, reduceCtorEq, t6], by simp only [H0, J86, J87, und3, und4, und22, und26, und29, und45, und64, info3, info4, info22, info26, info29, info45, info64, info50, aggT, gv, dstAt, aop, evalsA, partsA, evalO, updO, ofArgs, binV, intBin, unV, mmV, builtinA, Nat.reduceLT, Nat.reduceEqDiff, Nat.reduceAdd, Nat.reduceSub, Nat.reduceMul, ↓reduceIte, reduceCtorEq, t7, hw2]⟩
          · repeat (first | with_reducible (first | refine W_seq ?_ | refine W_block ?_ | refine W_scope ?_ | refine W_regionV hTT ?_ | refine W_condV ?_ | refine W_ret ?_ | refine W_exit ?_ | refine W_skip ?_ | refine W_label ?_ | refine W_drawV hTT (by kernel_rfl) ?_) | simp only [H0, J86, J87, und3, und4, und22, und26, und29, und45, und64, info3, info4, info22, info26, info29, info45, info64, info50, aggT, gv, dstAt, aop, evalsA, partsA, evalO, updO, ofArgs, binV, intBin, unV, mmV, builtinA, Nat.reduceLT, Nat.reduceEqDiff, Nat.reduceAdd, Nat.reduceSub, Nat.reduceMul, ↓reduceIte, reduceCtorEq, t0, t1, t2, t3, t6, t7, hw])
            refine LoopQ_intro (xs.length + 1 - (k + 1)) (by omega) ⟨rfl, ⟨ys, hp, hR⟩, hS, k + 1, rfl, by omega, by simp only [H0, J86, J87, und3, und4, und22, und26, und29, und45, und64, info3, info4, info22, info26, info29, info45, info64, info50, aggT, gv, dstAt, aop, evalsA, partsA, evalO, updO, ofArgs, binV, intBin, unV, mmV, builtinA, Nat.reduceLT, Nat.reduceEqDiff, Nat.reduceAdd, Nat.reduceSub, Nat.reduceMul, ↓reduceIte, reduceCtorEq, t0], by simp only [H0, J86, J87, und3, und4, und22, und26, und29, und45, und64, info3, info4, info22, info26, info29, info45, info64, info50, aggT, gv, dstAt, aop, evalsA, partsA, evalO, updO, ofArgs, binV, intBin, unV, mmV, builtinA, Nat.reduceLT, Nat.reduceEqDiff, Nat.reduceAdd, Nat.reduceSub, Nat.reduceMul, ↓reduceIte, reduceCtorEq, t1], by simp only [H0, J86, J87, und3, und4, und22, und26, und29, und45, und64, info3, info4, info22, info26, info29, info45, info64, info50, aggT, gv, dstAt, aop, evalsA, partsA, evalO, updO, ofArgs, binV, intBin, unV, mmV, builtinA, Nat.reduceLT, Nat.reduceEqDiff, Nat.reduceAdd, Nat.reduceSub, Nat.reduceMul, ↓reduceIte, reduceCtorEq, t2], by simp only [H0, J86, J87, und3, und4, und22, und26, und29, und45, und64, info3, info4, info22, info26, info29, info45, info64, info50, aggT, gv, dstAt, aop, evalsA, partsA, evalO, updO, ofArgs, binV, intBin, unV, mmV, builtinA, Nat.reduceLT, Nat.reduceEqDiff, Nat.reduceAdd, Nat.reduceSub, Nat.reduceMul, ↓reduceIte, reduceCtorEq, t3], by simp only [H0, J86, J87, und3, und4, und22, und26, und29, und45, und64, info3, info4, info22, info26, info29, info45, info64, info50, aggT, gv, dstAt, aop, evalsA, partsA, evalO, updO, ofArgs, binV, intBin, unV, mmV, builtinA, Nat.reduceLT, Nat.reduceEqDiff, Nat.reduceAdd, Nat.reduceSub, Nat.reduceMul, ↓reduceIte, reduceCtorEq, t6, hw]⟩
    · have e1 : decide ((k : Int) < xs.length) = false := by simpa using hlt
      repeat (first | with_reducible (first | refine W_seq ?_ | refine W_block ?_ | refine W_scope ?_ | refine W_regionV hTT ?_ | refine W_condV ?_ | refine W_ret ?_ | refine W_exit ?_ | refine W_skip ?_ | refine W_label ?_ | refine W_drawV hTT (by kernel_rfl) ?_) | simp only [H0, J86, J87, und3, und4, und22, und26, und29, und45, und64, info3, info4, info22, info26, info29, info45, info64, info50, aggT, gv, dstAt, aop, evalsA, partsA, evalO, updO, ofArgs, binV, intBin, unV, mmV, builtinA, Nat.reduceLT, Nat.reduceEqDiff, Nat.reduceAdd, Nat.reduceSub, Nat.reduceMul, ↓reduceIte, reduceCtorEq, t0, t1, t2, t3, t6, e1])
      exact ⟨rfl, ⟨ys, hp, hR⟩, hS⟩
theorem fn71 : TT.fn 71 = some Tryz.f71 := by kernel_rfl
theorem fn51 : TT.fn 51 = some Tryz.f51 := by kernel_rfl
theorem RowW.len {S : St} {b : Nat} {v : Value} {xs : List Int} (h : RowW S b v xs) : lenOpA TT S 26 v = some (.int .i64 xs.length) := by
  obtain ⟨⟨c, g, rfl, _⟩⟩ := h
  simp [lenOpA, und26]
/-- SortStableFunc, of fewer than 20 -/
theorem stable_call {S : St} (hok : S.ok) {b : Nat} {va : Value} {xs : List Int} (hx : RowW S b va xs) (hl : xs.length < 20) {g : FuncId} {cs : List Value}
    (hcmp : ∀ S', (S'.ok ∧ S'.n = S.n ∧ S'.mono = S.mono ∧ ∀ j, j ≠ b → S'.get j = S.get j) → ∀ x y, x ∈ xs → y ∈ xs → CallW PP g ([.int .i64 x, .int .i64 y] ++ cs) S' (fun v S3 => (∃ r, v = .int .i64 r) ∧ S3 = S')) :
    CallW PP 51 [va, .func (.func g) #[] cs.toArray] S (fun v S' => v = .tuple #[] ∧ (∃ ys : List Int, ys.Perm xs ∧ RowW S' b va ys) ∧ S'.ok ∧ S'.n = S.n ∧ S'.mono = S.mono ∧ ∀ j, j ≠ b → S'.get j = S.get j) := by
  have h71 : CallW PP 71 [va, .int .i64 xs.length, .func (.func g) #[] cs.toArray] S (fun v S' => v = .tuple #[] ∧ (∃ ys : List Int, ys.Perm xs ∧ RowW S' b va ys) ∧ S'.ok ∧ S'.n = S.n ∧ S'.mono = S.mono ∧ ∀ j, j ≠ b → S'.get j = S.get j) := by
    refine CallW_of hTT fn71 rfl (by simp [Tryz.f71]) ?_
    unfold Tryz.f71
    have e1 : decide ((20 : Int) ≤ xs.length) = false := decide_eq_false (by omega)
    have e2 : decide ((20 : Int) < xs.length) = false := decide_eq_false (by omega)
    repeat (first | with_reducible (first | refine W_seq ?_ | refine W_scope ?_ | refine W_regionV hTT ?_ | refine W_condV ?_ | refine W_ret ?_ | refine W_exit ?_ | refine W_skip ?_ | refine W_label ?_ | refine W_drawV hTT (by kernel_rfl) ?_) | simp only [H0, J86, J87, und3, und4, und22, und26, und29, und45, und64, info3, info4, info22, info26, info29, info45, info64, info50, aggT, gv, dstAt, aop, evalsA, partsA, evalO, updO, ofArgs, binV, intBin, unV, mmV, builtinA, Nat.reduceLT, Nat.reduceEqDiff, Nat.reduceAdd, Nat.reduceSub, Nat.reduceMul, ↓reduceIte, reduceCtorEq])
    refine W_block ?_
    refine W_loopI (fun m τ ds S' => S' = S ∧ ds = [] ∧ τ 0 = va ∧ τ 1 = .int .i64 xs.length ∧ τ 2 = .func (.func g) #[] cs.toArray ∧ τ 6 = .int .i64 20 ∧ τ 7 = .int .i64 0 ∧ τ 8 = .int .i64 20) 0 ?_ ?_
    · refine ⟨rfl, rfl, ?_, ?_, ?_, ?_, ?_, ?_⟩ <;> first | rfl | simp only [H0, J86, J87, und3, und4, und22, und26, und29, und45, und64, info3, info4, info22, info26, info29, info45, info64, info50, aggT, gv, dstAt, aop, evalsA, partsA, evalO, updO, ofArgs, binV, intBin, unV, mmV, builtinA, Nat.reduceLT, Nat.reduceEqDiff, Nat.reduceAdd, Nat.reduceSub, Nat.reduceMul, ↓reduceIte, reduceCtorEq]
    · rintro m τ ds S' ⟨rfl, rfl, t0, t1, t2, t6, t7, t8⟩
      repeat (first | with_reducible (first | refine W_seq ?_ | refine W_block ?_ | refine W_scope ?_ | refine W_regionV hTT ?_ | refine W_condV ?_ | refine W_ret ?_ | refine W_exit ?_ | refine W_skip ?_ | refine W_label ?_ | refine W_drawV hTT (by kernel_rfl) ?_) | simp only [H0, J86, J87, und3, und4, und22, und26, und29, und45, und64, info3, info4, info22, info26, info29, info45, info64, info50, aggT, gv, dstAt, aop, evalsA, partsA, evalO, updO, ofArgs, binV, intBin, unV, mmV, builtinA, Nat.reduceLT, Nat.reduceEqDiff, Nat.reduceAdd, Nat.reduceSub, Nat.reduceMul, ↓reduceIte, reduceCtorEq, t0, t1, t2, t6, t7, t8, e1])
      refine VCall_intro (insCmp_call hok hx (by omega) hcmp) ?_
      rintro v S2 ⟨rfl, h2⟩
      repeat (first | with_reducible (first | refine W_seq ?_ | refine W_scope ?_ | refine W_regionV hTT ?_ | refine W_condV ?_ | refine W_ret ?_ | refine W_exit ?_ | refine W_skip ?_ | refine W_label ?_ | refine W_drawV hTT (by kernel_rfl) ?_) | simp only [H0, J86, J87, und3, und4, und22, und26, und29, und45, und64, info3, info4, info22, info26, info29, info45, info64, info50, aggT, gv, dstAt, aop, evalsA, partsA, evalO, updO, ofArgs, binV, intBin, unV, mmV, builtinA, Nat.reduceLT, Nat.reduceEqDiff, Nat.reduceAdd, Nat.reduceSub, Nat.reduceMul, ↓reduceIte, reduceCtorEq, t0, t1, t2, t6, t7, t8])
      refine W_block ?_
      refine W_loopI (fun m τ ds S' => S' = S2 ∧ ds = [] ∧ τ 1 = .int .i64 xs.length ∧ τ 6 = .int .i64 20) 0 ?_ ?_
      · refine ⟨rfl, rfl, ?_, ?_⟩ <;> first | rfl | simp only [H0, J86, J87, und3, und4, und22, und26, und29, und45, und64, info3, info4, info22, info26, info29, info45, info64, info50, aggT, gv, dstAt, aop, evalsA, partsA, evalO, updO, ofArgs, binV, intBin, unV, mmV, builtinA, Nat.reduceLT, Nat.reduceEqDiff, Nat.reduceAdd, Nat.reduceSub, Nat.reduceMul, ↓reduceIte, reduceCtorEq, t1, t6]
      · rintro m τ ds S3 ⟨rfl, rfl, t1, t6⟩
        repeat (first | with_reducible (first | refine W_seq ?_ | refine W_block ?_ | refine W_scope ?_ | refine W_regionV hTT ?_ | refine W_condV ?_ | refine W_ret ?_ | refine W_exit ?_ | refine W_skip ?_ | refine W_label ?_ | refine W_drawV hTT (by kernel_rfl) ?_) | simp only [H0, J86, J87, und3, und4, und22, und26, und29, und45, und64, info3, info4, info22, info26, info29, info45, info64, info50, aggT, gv, dstAt, aop, evalsA, partsA, evalO, updO, ofArgs, binV, intBin, unV, mmV, builtinA, Nat.reduceLT, Nat.reduceEqDiff, Nat.reduceAdd, Nat.reduceSub, Nat.reduceMul, ↓reduceIte, reduceCtorEq, t1, t6, e2])
        exact ⟨rfl, h2⟩
  have hla := hx.len
  refine CallW_of hTT fn51 rfl (by simp [Tryz.f51]) ?_
  unfold Tryz.f51
  repeat (first | with_reducible (first | refine W_seq ?_ | refine W_block ?_ | refine W_scope ?_ | refine W_regionV hTT ?_ | refine W_condV ?_ | refine W_ret ?_ | refine W_exit ?_ | refine W_skip ?_ | refine W_label ?_ | refine W_drawV hTT (by kernel_rfl) ?_) | simp only [H0, J86, J87, und3, und4, und22, und26, und29, und45, und64, info3, info4, info22, info26, info29, info45, info64, info50, aggT, gv, dstAt, aop, evalsA, partsA, evalO, updO, ofArgs, binV, intBin, unV, mmV, builtinA, Nat.reduceLT, Nat.reduceEqDiff, Nat.reduceAdd, Nat.reduceSub, Nat.reduceMul, ↓reduceIte, reduceCtorEq, hla])
  refine VCall_intro h71 ?_
  rintro v S2 ⟨rfl, h2⟩
  repeat (first | with_reducible (first | refine W_seq ?_ | refine W_block ?_ | refine W_scope ?_ | refine W_regionV hTT ?_ | refine W_condV ?_ | refine W_ret ?_ | refine W_exit ?_ | refine W_skip ?_ | refine W_label ?_ | refine W_drawV hTT (by kernel_rfl) ?_) | simp only [H0, J86, J87, und3, und4, und22, und26, und29, und45, und64, info3, info4, info22, info26, info29, info45, info64, info50, aggT, gv, dstAt, aop, evalsA, partsA, evalO, updO, ofArgs, binV, intBin, unV, mmV, builtinA, Nat.reduceLT, Nat.reduceEqDiff, Nat.reduceAdd, Nat.reduceSub, Nat.reduceMul, ↓reduceIte, reduceCtorEq])
  exact ⟨rfl, h2⟩
end Go.Proofs.Sz
end
/- part Zu -/
section
namespace Go.Proofs.Sz
open Go Go.Ax Go.Proofs Go.RowKit
theorem bs0 (S : St) : buildSliceA TT S 26 0 [] = some (.slice (some ⟨S.n, 0, none⟩) 0 0, S.push (.cells [] 3 0)) := by
  intros; kernel_rfl
theorem app0 {S : St} {x : Value} {n : Nat} {news : List Value} (hx : lenA x = some n) (hs : srcA (S.push (.cells [] 3 0)) 1 n x = some news) (h1 : ones news = true) (hl : news.length = n) (hn0 : 0 < n) (hn : n < 1000) :
    appendOpA TT (S.push (.cells [] 3 0)) 26 26 (.slice (some ⟨S.n, 0, none⟩) 0 0) x = some (.slice (some ⟨S.n + 1, 0, none⟩) n BIG, (S.push (.cells [] 3 0)).push (.cells news 3 1)) := by
  have hg : growOk ⟨.int .i64 0, 1, 8⟩ n = true := grow_ok (by simp only; omega) (by omega)
  unfold appendOpA
  simp only [und26, info3, intT, hx, hs, Bool.false_eq_true, if_false]
  rw [if_pos ⟨by decide, by decide⟩, if_pos ⟨h1, by omega⟩]
  unfold appendA
  simp only [get_push_new _ rfl]
  rw [if_pos (by simp), if_pos (by unfold BIG; omega), if_neg (by omega), if_pos (by simpa using hg)]
  simp [push_n]
theorem fn28 : TT.fn 28 = some Tryz.f28 := by kernel_rfl
/-- Clone, of a list that is not empty -/
theorem clone_call {S : St} (hok : S.ok) {b n c : Nat} {xs : List Int} (hx : Sl S 1 (.slice (some ⟨b, 0, none⟩) n c) (iv xs) n) (hn0 : 0 < n) (hn : n < 1000) :
    CallW PP 28 [.slice (some ⟨b, 0, none⟩) n c] S (fun v S' => (∃ b', S.n ≤ b' ∧ v = .slice (some ⟨b', 0, none⟩) n BIG ∧ S'.get b' = some (.cells (iv xs) 3 1)) ∧ Ext S S') := by
  have hlen := hx.length
  rw [Nat.mul_one] at hlen
  have hE : Ext S (S.push (.cells [] 3 0)) := (Ext.refl hok).push _
  have hx1 := hx.extd hE
  have ha := app0 (S := S) hx1.lenA hx1.src (ones_iv _) hlen hn0 hn
  refine CallW_of hTT fn28 rfl (by simp [Tryz.f28]) ?_
  unfold Tryz.f28
  repeat (first | with_reducible (first | refine W_seq ?_ | refine W_block ?_ | refine W_scope ?_ | refine W_regionV hTT ?_ | refine W_condV ?_ | refine W_ret ?_ | refine W_exit ?_ | refine W_skip ?_ | refine W_label ?_ | refine W_drawV hTT (by kernel_rfl) ?_) | simp only [H0, J86, J87, und3, und4, und22, und26, und29, und45, und64, info3, info4, info22, info26, info29, info45, info64, info50, aggT, gv, dstAt, aop, evalsA, partsA, evalO, updO, ofArgs, binV, intBin, unV, mmV, builtinA, Nat.reduceLT, Nat.reduceEqDiff, Nat.reduceAdd, Nat.reduceSub, Nat.reduceMul, ↓reduceIte, reduceCtorEq, bs0, ha, binAx, binA, nilEqA])
  exact ⟨⟨S.n + 1, by omega, rfl, get_push_new _ rfl⟩, hE.push _⟩
end Go.Proofs.Sz
end
/- part Zv -/
section
namespace Go.Proofs.Sz
open Go Go.Ax Go.Proofs Go.RowKit
theorem fn33 : TT.fn 33 = some Tryz.f33 := by kernel_rfl
/-- Way's closure: has v beaten u -/
theorem beaten_call {S : St} {vl : Value} {n : Nat} {M : Nat → Nat → Int} (hx : Mat S vl (mrows n n M)) {bl bv v u : Nat} (hl : S.get bl = some (.cells [vl] 22 0)) (hv : S.get bv = some (.cells [.int .i64 v] 3 0)) (h1 : v < n) (h2 : u < n) :
    CallW PP 33 [.int .i64 u, .pointer (some ⟨bl, 0, none⟩), .pointer (some ⟨bv, 0, none⟩)] S (fun r S' => r = .bool (M v u == 1) ∧ S' = S) := by
  have r1 := load_one (o := 0) und22 info22 rfl hl
  have r2 := load_one (o := 0) und3 info3 rfl hv
  simp only [List.getElem?_cons_zero] at r1 r2
  obtain ⟨p, rv, p1, p2, hrow, _⟩ := hx.row (T := TT) (k := .i64) und22 info26 und26 rfl (i := v) (by rw [mrows_len]; exact h1)
  rw [mrows_get] at hrow
  obtain ⟨q, q1, q2, _⟩ := hrow.at1 (T := TT) (k := .i64) und26 info3 und3 rfl rfl (i := u) (by rw [mrow_len]; exact h2)
  rw [iv_get, mrow_get _ h2] at q2
  refine CallW_of hTT fn33 rfl (by simp [Tryz.f33]) ?_
  unfold Tryz.f33
  repeat (first | with_reducible (first | refine W_seq ?_ | refine W_block ?_ | refine W_scope ?_ | refine W_regionV hTT ?_ | refine W_condV ?_ | refine W_ret ?_ | refine W_exit ?_ | refine W_skip ?_ | refine W_label ?_ | refine W_drawV hTT (by kernel_rfl) ?_) | simp only [H0, J86, J87, und3, und4, und22, und26, und29, und45, und64, info3, info4, info22, info26, info29, info45, info64, info50, aggT, gv, dstAt, aop, evalsA, partsA, evalO, updO, ofArgs, binV, intBin, unV, mmV, builtinA, Nat.reduceLT, Nat.reduceEqDiff, Nat.reduceAdd, Nat.reduceSub, Nat.reduceMul, ↓reduceIte, reduceCtorEq, r1, r2, p1, p2, q1, q2])
theorem fn30 : TT.fn 30 = some Tryz.f30 := by kernel_rfl
/-- Contest's closure: what is left of a player's score -/
theorem left_call {S : St} {bl bd n c : Nat} {xs : List Int} (hl : S.get bl = some (.cells [.slice (some ⟨bd, 0, none⟩) n c] 26 0)) {g : Nat} (hd : S.get bd = some (.cells (iv xs) 3 g)) (hn : xs.length = n) {i : Nat} (hi : i < n) :
    CallW PP 30 [.int .i64 i, .pointer (some ⟨bl, 0, none⟩)] S (fun r S' => r = .int .i64 (xs.getD i 0) ∧ S' = S) := by
  have r1 := load_one (o := 0) und26 info26 rfl hl
  simp only [List.getElem?_cons_zero] at r1
  have a1 := arr_index (T := TT) (b := bd) (c := c) (k := .i64) und26 info3 rfl hi
  have r2 := load_one (o := i) und3 info3 rfl hd
  rw [iv_get, List.getElem?_eq_getElem (by omega)] at r2
  refine CallW_of hTT fn30 rfl (by simp [Tryz.f30]) ?_
  unfold Tryz.f30
  repeat (first | with_reducible (first | refine W_seq ?_ | refine W_block ?_ | refine W_scope ?_ | refine W_regionV hTT ?_ | refine W_condV ?_ | refine W_ret ?_ | refine W_exit ?_ | refine W_skip ?_ | refine W_label ?_ | refine W_drawV hTT (by kernel_rfl) ?_) | simp only [H0, J86, J87, und3, und4, und22, und26, und29, und45, und64, info3, info4, info22, info26, info29, info45, info64, info50, aggT, gv, dstAt, aop, evalsA, partsA, evalO, updO, ofArgs, binV, intBin, unV, mmV, builtinA, Nat.reduceLT, Nat.reduceEqDiff, Nat.reduceAdd, Nat.reduceSub, Nat.reduceMul, ↓reduceIte, reduceCtorEq, r1, a1, r2])
  rw [List.getD_eq_getElem?_getD, List.getElem?_eq_getElem (by omega)]
  rfl
end Go.Proofs.Sz
end
/- part Zw -/
section
namespace Go.Proofs.Sz
open Go Go.Ax Go.Proofs Go.RowKit
theorem fn80 : TT.fn 80 = some Tryz.f80 := by kernel_rfl
/-- pdqsortOrdered, of 12 or fewer -/
theorem pdq_call {S : St} (hok : S.ok) {b : Nat} {va : Value} {xs : List Int} (hx : RowW S b va xs) (hl : xs.length ≤ 12) (lim : Int) :
    CallW PP 80 [va, .int .i64 0, .int .i64 xs.length, .int .i64 lim] S (fun v S' => v = .tuple #[] ∧ (∃ ys : List Int, ys.Perm xs ∧ RowW S' b va ys) ∧ S'.ok ∧ S'.n = S.n ∧ S'.mono = S.mono ∧ ∀ j, j ≠ b → S'.get j = S.get j) := by
  refine CallW_of hTT fn80 rfl (by simp [Tryz.f80]) ?_
  unfold Tryz.f80
  have e1 : decide ((xs.length : Int) ≤ 12) = true := decide_eq_true (by omega)
  have hw : IntKind.i64.wrap ((xs.length : Int) - 0) = xs.length := by rw [wrap_id (by omega) (by omega)]; omega
  repeat (first | with_reducible (first | refine W_seq ?_ | refine W_scope ?_ | refine W_regionV hTT ?_ | refine W_condV ?_ | refine W_ret ?_ | refine W_exit ?_ | refine W_skip ?_ | refine W_label ?_ | refine W_drawV hTT (by kernel_rfl) ?_) | simp only [H0, J86, J87, und3, und4, und22, und26, und29, und45, und64, info3, info4, info22, info26, info29, info45, info64, info50, aggT, gv, dstAt, aop, evalsA, partsA, evalO, updO, ofArgs, binV, intBin, unV, mmV, builtinA, Nat.reduceLT, Nat.reduceEqDiff, Nat.reduceAdd, Nat.reduceSub, Nat.reduceMul, ↓reduceIte, reduceCtorEq])
  refine W_block ?_
  refine W_loopI (fun m τ ds S' => S' = S ∧ ds = [] ∧ τ 0 = va ∧ τ 1 = .int .i64 0 ∧ τ 2 = .int .i64 xs.length) 0 ?_ ?_
  · refine ⟨rfl, rfl, ?_, ?_, ?_⟩ <;> first | rfl | simp only [H0, J86, J87, und3, und4, und22, und26, und29, und45, und64, info3, info4, info22, info26, info29, info45, info64, info50, aggT, gv, dstAt, aop, evalsA, partsA, evalO, updO, ofArgs, binV, intBin, unV, mmV, builtinA, Nat.reduceLT, Nat.reduceEqDiff, Nat.reduceAdd, Nat.reduceSub, Nat.reduceMul, ↓reduceIte, reduceCtorEq]
  · rintro m τ ds S' ⟨rfl, rfl, t0, t1, t2⟩
    repeat (first | with_reducible (first | refine W_seq ?_ | refine W_block ?_ | refine W_scope ?_ | refine W_regionV hTT ?_ | refine W_condV ?_ | refine W_ret ?_ | refine W_exit ?_ | refine W_skip ?_ | refine W_label ?_ | refine W_drawV hTT (by kernel_rfl) ?_) | simp only [H0, J86, J87, und3, und4, und22, und26, und29, und45, und64, info3, info4, info22, info26, info29, info45, info64, info50, aggT, gv, dstAt, aop, evalsA, partsA, evalO, updO, ofArgs, binV, intBin, unV, mmV, builtinA, Nat.reduceLT, Nat.reduceEqDiff, Nat.reduceAdd, Nat.reduceSub, Nat.reduceMul, ↓reduceIte, reduceCtorEq, t0, t1, t2, hw, e1])
    refine VCall_intro (insOrd_call hok hx (by omega)) ?_
    rintro v S2 ⟨rfl, h2⟩
    repeat (first | with_reducible (first | refine W_seq ?_ | refine W_block ?_ | refine W_scope ?_ | refine W_regionV hTT ?_ | refine W_condV ?_ | refine W_ret ?_ | refine W_exit ?_ | refine W_skip ?_ | refine W_label ?_ | refine W_drawV hTT (by kernel_rfl) ?_) | simp only [H0, J86, J87, und3, und4, und22, und26, und29, und45, und64, info3, info4, info22, info26, info29, info45, info64, info50, aggT, gv, dstAt, aop, evalsA, partsA, evalO, updO, ofArgs, binV, intBin, unV, mmV, builtinA, Nat.reduceLT, Nat.reduceEqDiff, Nat.reduceAdd, Nat.reduceSub, Nat.reduceMul, ↓reduceIte, reduceCtorEq])
    exact ⟨rfl, h2⟩
end Go.Proofs.Sz
end
/- part Zx -/
section
namespace Go.Proofs.Sz
open Go Go.Ax Go.Proofs Go.RowKit
theorem und114 : TT.und 114 = some (.int .u64) := by kernel_rfl
theorem und5 : TT.und 5 = some (.int .u8) := by kernel_rfl
theorem und9 : TT.und 9 = some .string := by kernel_rfl
theorem VOp_index {m n : Nat} {ops : Array Oper} {d : Option Tmp} {l : List Oper} {τ : Nat → Value} {K : (Nat → Value) → St → Prop} {S : St} {s : ByteArray} (h : n < s.size) (hk : ∀ r : Int, VOp (CallC PP) PP TT m ops d l τ K (some [(.int .u8 r, S)])) :
    VOp (CallC PP) PP TT m ops d l τ K (onev S (indexA TT 9 (.int .u8 n) (.string s))) := by
  have : ∃ r, indexA TT 9 (.int .u8 n) (.string s) = some (.int .u8 r) := by
    simp only [indexA, und9, Int.toNat_natCast]
    rw [if_pos (by omega)]
    cases hs : s[n]? with
    | none => simp at hs; omega
    | some b => exact ⟨_, rfl⟩
  obtain ⟨r, hr⟩ := this
  rw [hr, onev_some]
  exact hk r
set_option maxRecDepth 100000 in
theorem fn99 : TT.fn 99 = some Tryz.f99 := by kernel_rfl
set_option maxRecDepth 100000 in
/-- bits.Len64, of 12 or fewer: some number -/
theorem len64_call (S : St) {n : Nat} (hn : n ≤ 12) : CallW PP 99 [.int .u64 n] S (fun v S' => (∃ r, v = .int .i64 r) ∧ S' = S) := by
  refine CallW_of hTT fn99 rfl (by simp [Tryz.f99]) ?_
  unfold Tryz.f99
  have e1 : decide ((n : Int) ≥ 4294967296) = false := decide_eq_false (by omega)
  have e2 : decide ((n : Int) ≥ 65536) = false := decide_eq_false (by omega)
  have e3 : decide ((n : Int) ≥ 256) = false := decide_eq_false (by omega)
  have hw : IntKind.u8.wrap (n : Int) = n := IntWalk.u8_in _ (by omega)
  repeat (first | with_reducible (first | refine W_seq ?_ | refine W_block ?_ | refine W_scope ?_ | refine W_regionV hTT ?_ | refine W_condV ?_ | refine W_ret ?_ | refine W_exit ?_ | refine W_skip ?_ | refine W_label ?_ | refine W_drawV hTT (by kernel_rfl) ?_) | simp only [H0, J86, J87, und3, und4, und22, und26, und29, und45, und64, info3, info4, info22, info26, info29, info45, info64, info50, und114, und5, aggT, gv, dstAt, aop, evalsA, partsA, evalO, updO, ofArgs, binV, intBin, unV, mmV, builtinA, Nat.reduceLT, Nat.reduceEqDiff, Nat.reduceAdd, Nat.reduceSub, Nat.reduceMul, ↓reduceIte, reduceCtorEq, e1, e2, e3, convA, hw])
  refine VOp_index (Nat.lt_of_le_of_lt hn (of_decide_eq_true (by kernel_rfl))) (fun r => ?_)
  repeat (first | with_reducible (first | refine W_seq ?_ | refine W_block ?_ | refine W_scope ?_ | refine W_regionV hTT ?_ | refine W_condV ?_ | refine W_ret ?_ | refine W_exit ?_ | refine W_skip ?_ | refine W_label ?_ | refine W_drawV hTT (by kernel_rfl) ?_) | simp only [H0, J86, J87, und3, und4, und22, und26, und29, und45, und64, info3, info4, info22, info26, info29, info45, info64, info50, und114, und5, aggT, gv, dstAt, aop, evalsA, partsA, evalO, updO, ofArgs, binV, intBin, unV, mmV, builtinA, Nat.reduceLT, Nat.reduceEqDiff, Nat.reduceAdd, Nat.reduceSub, Nat.reduceMul, ↓reduceIte, reduceCtorEq, convA])
  exact ⟨_, rfl⟩
theorem fn81 : TT.fn 81 = some Tryz.f81 := by kernel_rfl
theorem len_call (S : St) {n : Nat} (hn : n ≤ 12) : CallW PP 81 [.int .u64 n] S (fun v S' => (∃ r, v = .int .i64 r) ∧ S' = S) := by
  refine CallW_of hTT fn81 rfl (by simp [Tryz.f81]) ?_
  unfold Tryz.f81
  repeat (first | with_reducible (first | refine W_seq ?_ | refine W_block ?_ | refine W_scope ?_ | refine W_regionV hTT ?_ | refine W_condV ?_ | refine W_ret ?_ | refine W_exit ?_ | refine W_skip ?_ | refine W_label ?_ | refine W_drawV hTT (by kernel_rfl) ?_) | simp only [H0, J86, J87, und3, und4, und22, und26, und29, und45, und64, info3, info4, info22, info26, info29, info45, info64, info50, und114, und5, aggT, gv, dstAt, aop, evalsA, partsA, evalO, updO, ofArgs, binV, intBin, unV, mmV, builtinA, Nat.reduceLT, Nat.reduceEqDiff, Nat.reduceAdd, Nat.reduceSub, Nat.reduceMul, ↓reduceIte, reduceCtorEq])
  refine VCall_intro (len64_call S hn) ?_
  rintro v S' ⟨⟨r, rfl⟩, rfl⟩
  repeat (first | with_reducible (first | refine W_seq ?_ | refine W_block ?_ | refine W_scope ?_ | refine W_regionV hTT ?_ | refine W_condV ?_ | refine W_ret ?_ | refine W_exit ?_ | refine W_skip ?_ | refine W_label ?_ | refine W_drawV hTT (by kernel_rfl) ?_) | simp only [H0, J86, J87, und3, und4, und22, und26, und29, und45, und64, info3, info4, info22, info26, info29, info45, info64, info50, und114, und5, aggT, gv, dstAt, aop, evalsA, partsA, evalO, updO, ofArgs, binV, intBin, unV, mmV, builtinA, Nat.reduceLT, Nat.reduceEqDiff, Nat.reduceAdd, Nat.reduceSub, Nat.reduceMul, ↓reduceIte, reduceCtorEq])
  exact ⟨_, rfl⟩
theorem fn69 : TT.fn 69 = some Tryz.f69 := by kernel_rfl
/-- slices.Sort, of 12 or fewer -/
theorem sort_call {S : St} (hok : S.ok) {b : Nat} {va : Value} {xs : List Int} (hx : RowW S b va xs) (hl : xs.length ≤ 12) :
    CallW PP 69 [va] S (fun v S' => v = .tuple #[] ∧ (∃ ys : List Int, ys.Perm xs ∧ RowW S' b va ys) ∧ S'.ok ∧ S'.n = S.n ∧ S'.mono = S.mono ∧ ∀ j, j ≠ b → S'.get j = S.get j) := by
  have hla := hx.len
  have hw : IntKind.u64.wrap (xs.length : Int) = xs.length := IntWalk.u64_in _ (by omega)
  refine CallW_of hTT fn69 rfl (by simp [Tryz.f69]) ?_
  unfold Tryz.f69
  repeat (first | with_reducible (first | refine W_seq ?_ | refine W_block ?_ | refine W_scope ?_ | refine W_regionV hTT ?_ | refine W_condV ?_ | refine W_ret ?_ | refine W_exit ?_ | refine W_skip ?_ | refine W_label ?_ | refine W_drawV hTT (by kernel_rfl) ?_) | simp only [H0, J86, J87, und3, und4, und22, und26, und29, und45, und64, info3, info4, info22, info26, info29, info45, info64, info50, und114, und5, aggT, gv, dstAt, aop, evalsA, partsA, evalO, updO, ofArgs, binV, intBin, unV, mmV, builtinA, Nat.reduceLT, Nat.reduceEqDiff, Nat.reduceAdd, Nat.reduceSub, Nat.reduceMul, ↓reduceIte, reduceCtorEq, hla, convA, hw])
  refine VCall_intro (len_call S hl) ?_
  rintro v S' ⟨⟨r, rfl⟩, rfl⟩
  repeat (first | with_reducible (first | refine W_seq ?_ | refine W_block ?_ | refine W_scope ?_ | refine W_regionV hTT ?_ | refine W_condV ?_ | refine W_ret ?_ | refine W_exit ?_ | refine W_skip ?_ | refine W_label ?_ | refine W_drawV hTT (by kernel_rfl) ?_) | simp only [H0, J86, J87, und3, und4, und22, und26, und29, und45, und64, info3, info4, info22, info26, info29, info45, info64, info50, und114, und5, aggT, gv, dstAt, aop, evalsA, partsA, evalO, updO, ofArgs, binV, intBin, unV, mmV, builtinA, Nat.reduceLT, Nat.reduceEqDiff, Nat.reduceAdd, Nat.reduceSub, Nat.reduceMul, ↓reduceIte, reduceCtorEq])
  refine VCall_intro (pdq_call hok hx hl r) ?_
  rintro v S2 ⟨rfl, h2⟩
  repeat (first | with_reducible (first | refine W_seq ?_ | refine W_block ?_ | refine W_scope ?_ | refine W_regionV hTT ?_ | refine W_condV ?_ | refine W_ret ?_ | refine W_exit ?_ | refine W_skip ?_ | refine W_label ?_ | refine W_drawV hTT (by kernel_rfl) ?_) | simp only [H0, J86, J87, und3, und4, und22, und26, und29, und45, und64, info3, info4, info22, info26, info29, info45, info64, info50, und114, und5, aggT, gv, dstAt, aop, evalsA, partsA, evalO, updO, ofArgs, binV, intBin, unV, mmV, builtinA, Nat.reduceLT, Nat.reduceEqDiff, Nat.reduceAdd, Nat.reduceSub, Nat.reduceMul, ↓reduceIte, reduceCtorEq])
  exact ⟨rfl, h2⟩
end Go.Proofs.Sz
end
/- part Zy -/
section
namespace Go.Proofs.Sz
open Go Go.Ax Go.Proofs Go.RowKit
theorem lenNil (S : St) : lenOpA TT S 26 (.slice none 0 0) = some (.int .i64 0) := by simp [lenOpA, und26]
/-- insertionSortCmpFunc of nothing -/
theorem insNil_call (S : St) (fv : Value) : CallW PP 82 [.slice none 0 0, .int .i64 0, .int .i64 0, fv] S (fun v S' => v = .tuple #[] ∧ S' = S) := by
  refine CallW_of hTT fn82 rfl (by simp [Tryz.f82]) ?_
  unfold Tryz.f82
  have hw0 : IntKind.i64.wrap (0 + 1) = 1 := rfl
  have e1 : decide ((1 : Int) < 0) = false := rfl
  repeat (first | with_reducible (first | refine W_seq ?_ | refine W_scope ?_ | refine W_regionV hTT ?_ | refine W_condV ?_ | refine W_ret ?_ | refine W_exit ?_ | refine W_skip ?_ | refine W_label ?_ | refine W_drawV hTT (by kernel_rfl) ?_) | simp only [H0, J86, J87, und3, und4, und22, und26, und29, und45, und64, info3, info4, info22, info26, info29, info45, info64, info50, aggT, gv, dstAt, aop, evalsA, partsA, evalO, updO, ofArgs, binV, intBin, unV, mmV, builtinA, Nat.reduceLT, Nat.reduceEqDiff, Nat.reduceAdd, Nat.reduceSub, Nat.reduceMul, ↓reduceIte, reduceCtorEq, hw0])
  refine W_block ?_
  refine W_loopI (fun m τ ds S' => S' = S ∧ ds = [] ∧ τ 2 = .int .i64 0 ∧ τ 8 = .int .i64 1) 0 ?_ ?_
  · refine ⟨rfl, rfl, ?_, ?_⟩ <;> first | rfl | simp only [H0, J86, J87, und3, und4, und22, und26, und29, und45, und64, info3, info4, info22, info26, info29, info45, info64, info50, aggT, gv, dstAt, aop, evalsA, partsA, evalO, updO, ofArgs, binV, intBin, unV, mmV, builtinA, Nat.reduceLT, Nat.reduceEqDiff, Nat.reduceAdd, Nat.reduceSub, Nat.reduceMul, ↓reduceIte, reduceCtorEq]
  · rintro m τ ds S' ⟨rfl, rfl, t2, t8⟩
    repeat (first | with_reducible (first | refine W_seq ?_ | refine W_block ?_ | refine W_scope ?_ | refine W_regionV hTT ?_ | refine W_condV ?_ | refine W_ret ?_ | refine W_exit ?_ | refine W_skip ?_ | refine W_label ?_ | refine W_drawV hTT (by kernel_rfl) ?_) | simp only [H0, J86, J87, und3, und4, und22, und26, und29, und45, und64, info3, info4, info22, info26, info29, info45, info64, info50, aggT, gv, dstAt, aop, evalsA, partsA, evalO, updO, ofArgs, binV, intBin, unV, mmV, builtinA, Nat.reduceLT, Nat.reduceEqDiff, Nat.reduceAdd, Nat.reduceSub, Nat.reduceMul, ↓reduceIte, reduceCtorEq, t2, t8, e1])
    exact rfl
/-- SortStableFunc of nothing -/
theorem stableNil_call (S : St) (fv : Value) : CallW PP 51 [.slice none 0 0, fv] S (fun v S' => v = .tuple #[] ∧ S' = S) := by
  have h71 : CallW PP 71 [.slice none 0 0, .int .i64 0, fv] S (fun v S' => v = .tuple #[] ∧ S' = S) := by
    refine CallW_of hTT fn71 rfl (by simp [Tryz.f71]) ?_
    unfold Tryz.f71
    have e1 : decide ((20 : Int) ≤ 0) = false := rfl
    have e2 : decide ((20 : Int) < 0) = false := rfl
    repeat (first | with_reducible (first | refine W_seq ?_ | refine W_scope ?_ | refine W_regionV hTT ?_ | refine W_condV ?_ | refine W_ret ?_ | refine W_exit ?_ | refine W_skip ?_ | refine W_label ?_ | refine W_drawV hTT (by kernel_rfl) ?_) | simp only [H0, J86, J87, und3, und4, und22, und26, und29, und45, und64, info3, info4, info22, info26, info29, info45, info64, info50, aggT, gv, dstAt, aop, evalsA, partsA, evalO, updO, ofArgs, binV, intBin, unV, mmV, builtinA, Nat.reduceLT, Nat.reduceEqDiff, Nat.reduceAdd, Nat.reduceSub, Nat.reduceMul, ↓reduceIte, reduceCtorEq])
    refine W_block ?_
    refine W_loopI (fun m τ ds S' => S' = S ∧ ds = [] ∧ τ 0 = .slice none 0 0 ∧ τ 1 = .int .i64 0 ∧ τ 2 = fv ∧ τ 6 = .int .i64 20 ∧ τ 7 = .int .i64 0 ∧ τ 8 = .int .i64 20) 0 ?_ ?_
    · refine ⟨rfl, rfl, ?_, ?_, ?_, ?_, ?_, ?_⟩ <;> first | rfl | simp only [H0, J86, J87, und3, und4, und22, und26, und29, und45, und64, info3, info4, info22, info26, info29, info45, info64, info50, aggT, gv, dstAt, aop, evalsA, partsA, evalO, updO, ofArgs, binV, intBin, unV, mmV, builtinA, Nat.reduceLT, Nat.reduceEqDiff, Nat.reduceAdd, Nat.reduceSub, Nat.reduceMul, ↓reduceIte, reduceCtorEq]
    · rintro m τ ds S' ⟨rfl, rfl, t0, t1, t2, t6, t7, t8⟩
      repeat (first | with_reducible (first | refine W_seq ?_ | refine W_block ?_ | refine W_scope ?_ | refine W_regionV hTT ?_ | refine W_condV ?_ | refine W_ret ?_ | refine W_exit ?_ | refine W_skip ?_ | refine W_label ?_ | refine W_drawV hTT (by kernel_rfl) ?_) | simp only [H0, J86, J87, und3, und4, und22, und26, und29, und45, und64, info3, info4, info22, info26, info29, info45, info64, info50, aggT, gv, dstAt, aop, evalsA, partsA, evalO, updO, ofArgs, binV, intBin, unV, mmV, builtinA, Nat.reduceLT, Nat.reduceEqDiff, Nat.reduceAdd, Nat.reduceSub, Nat.reduceMul, ↓reduceIte, reduceCtorEq, t0, t1, t2, t6, t7, t8, e1])
      refine VCall_intro (insNil_call S' fv) ?_
      rintro v S2 ⟨rfl, rfl⟩
      repeat (first | with_reducible (first | refine W_seq ?_ | refine W_scope ?_ | refine W_regionV hTT ?_ | refine W_condV ?_ | refine W_ret ?_ | refine W_exit ?_ | refine W_skip ?_ | refine W_label ?_ | refine W_drawV hTT (by kernel_rfl) ?_) | simp only [H0, J86, J87, und3, und4, und22, und26, und29, und45, und64, info3, info4, info22, info26, info29, info45, info64, info50, aggT, gv, dstAt, aop, evalsA, partsA, evalO, updO, ofArgs, binV, intBin, unV, mmV, builtinA, Nat.reduceLT, Nat.reduceEqDiff, Nat.reduceAdd, Nat.reduceSub, Nat.reduceMul, ↓reduceIte, reduceCtorEq, t0, t1, t2, t6, t7, t8])
      refine W_block ?_
      refine W_loopI (fun m τ ds S' => S' = S2 ∧ ds = [] ∧ τ 1 = .int .i64 0 ∧ τ 6 = .int .i64 20) 0 ?_ ?_
      · refine ⟨rfl, rfl, ?_, ?_⟩ <;> first | rfl | simp only [H0, J86, J87, und3, und4, und22, und26, und29, und45, und64, info3, info4, info22, info26, info29, info45, info64, info50, aggT, gv, dstAt, aop, evalsA, partsA, evalO, updO, ofArgs, binV, intBin, unV, mmV, builtinA, Nat.reduceLT, Nat.reduceEqDiff, Nat.reduceAdd, Nat.reduceSub, Nat.reduceMul, ↓reduceIte, reduceCtorEq, t1, t6]
      · rintro m τ ds S3 ⟨rfl, rfl, t1, t6⟩
        repeat (first | with_reducible (first | refine W_seq ?_ | refine W_block ?_ | refine W_scope ?_ | refine W_regionV hTT ?_ | refine W_condV ?_ | refine W_ret ?_ | refine W_exit ?_ | refine W_skip ?_ | refine W_label ?_ | refine W_drawV hTT (by kernel_rfl) ?_) | simp only [H0, J86, J87, und3, und4, und22, und26, und29, und45, und64, info3, info4, info22, info26, info29, info45, info64, info50, aggT, gv, dstAt, aop, evalsA, partsA, evalO, updO, ofArgs, binV, intBin, unV, mmV, builtinA, Nat.reduceLT, Nat.reduceEqDiff, Nat.reduceAdd, Nat.reduceSub, Nat.reduceMul, ↓reduceIte, reduceCtorEq, t1, t6, e2])
        exact rfl
  refine CallW_of hTT fn51 rfl (by simp [Tryz.f51]) ?_
  unfold Tryz.f51
  repeat (first | with_reducible (first | refine W_seq ?_ | refine W_block ?_ | refine W_scope ?_ | refine W_regionV hTT ?_ | refine W_condV ?_ | refine W_ret ?_ | refine W_exit ?_ | refine W_skip ?_ | refine W_label ?_ | refine W_drawV hTT (by kernel_rfl) ?_) | simp only [H0, J86, J87, und3, und4, und22, und26, und29, und45, und64, info3, info4, info22, info26, info29, info45, info64, info50, aggT, gv, dstAt, aop, evalsA, partsA, evalO, updO, ofArgs, binV, intBin, unV, mmV, builtinA, Nat.reduceLT, Nat.reduceEqDiff, Nat.reduceAdd, Nat.reduceSub, Nat.reduceMul, ↓reduceIte, reduceCtorEq, lenNil])
  refine VCall_intro h71 ?_
  rintro v S2 ⟨rfl, rfl⟩
  repeat (first | with_reducible (first | refine W_seq ?_ | refine W_block ?_ | refine W_scope ?_ | refine W_regionV hTT ?_ | refine W_condV ?_ | refine W_ret ?_ | refine W_exit ?_ | refine W_skip ?_ | refine W_label ?_ | refine W_drawV hTT (by kernel_rfl) ?_) | simp only [H0, J86, J87, und3, und4, und22, und26, und29, und45, und64, info3, info4, info22, info26, info29, info45, info64, info50, aggT, gv, dstAt, aop, evalsA, partsA, evalO, updO, ofArgs, binV, intBin, unV, mmV, builtinA, Nat.reduceLT, Nat.reduceEqDiff, Nat.reduceAdd, Nat.reduceSub, Nat.reduceMul, ↓reduceIte, reduceCtorEq])
  exact rfl
end Go.Proofs.Sz
end
/- part Ze -/
section
namespace Go.Proofs.Sz
open Go Go.Ax Go.Proofs Go.RowKit
theorem fn29 : TT.fn 29 = some Tryz.f29 := by kernel_rfl
def upto (n : Nat) : List Int := (List.range n).map fun i : Nat => (i : Int)
theorem upto_len (n : Nat) : (upto n).length = n := by simp [upto]
theorem upto_succ (n : Nat) : upto (n + 1) = upto n ++ [(n : Int)] := by simp [upto, List.range_succ]
theorem upto_mem {n : Nat} {x : Int} (h : x ∈ upto n) : ∃ i : Nat, i < n ∧ x = i := by
  unfold upto at h
  rw [List.mem_map] at h
  obtain ⟨i, hi, rfl⟩ := h
  exact ⟨i, List.mem_range.1 hi, rfl⟩
/-- sorted: the places in some order -/
theorem sorted_call {S : St} (hok : S.ok) {n : Nat} (hn : n < 20) {g : FuncId} {cs : List Value} (hby : ∀ S', Ext S S' → ∀ i : Nat, i < n → CallW PP g ([.int .i64 (i : Int)] ++ cs) S' (fun v S3 => (∃ r, v = .int .i64 r) ∧ S3 = S')) :
    CallW PP 29 [.int .i64 n, .func (.func g) #[] cs.toArray] S (fun v S' => (∃ ys : List Int, ys.Perm (upto n) ∧ Mine S' 3 1 S.n v (iv ys) n) ∧ Ext S S') := by
  have hE0 : Ext S (S.push (.cells [.func (.func g) #[] cs.toArray] 50 0)) := (Ext.refl hok).push _
  have hl : (S.push (.cells [.func (.func g) #[] cs.toArray] 50 0)).get S.n = some (.cells [.func (.func g) #[] cs.toArray] 50 0) := get_push_new _ rfl
  refine CallW_of hTT fn29 rfl (by simp [Tryz.f29]) ?_
  unfold Tryz.f29
  repeat (first | with_reducible (first | refine W_seq ?_ | refine W_scope ?_ | refine W_regionV hTT ?_ | refine W_condV ?_ | refine W_ret ?_ | refine W_exit ?_ | refine W_skip ?_ | refine W_label ?_ | refine W_drawV hTT (by kernel_rfl) ?_) | simp only [H0, J86, J87, und3, und4, und22, und26, und29, und45, und64, info3, info4, info22, info26, info29, info45, info64, info50, und50, aggT, gv, dstAt, aop, evalsA, partsA, evalO, updO, ofArgs, binV, intBin, unV, mmV, builtinA, Nat.reduceLT, Nat.reduceEqDiff, Nat.reduceAdd, Nat.reduceSub, Nat.reduceMul, ↓reduceIte, reduceCtorEq, boxA, Value.cells])
  refine W_cut (fun τ ds S' => ds = [] ∧ Ext (S.push (.cells [.func (.func g) #[] cs.toArray] 50 0)) S' ∧ τ 3 = .pointer (some ⟨S.n, 0, none⟩) ∧ ∃ v, τ 5 = v ∧ Mine S' 3 1 (S.n + 1) v (iv (upto n)) n) ?_ ?_
  · refine W_block ?_
    refine W_loopI (fun m τ ds S' => ds = [] ∧ Ext (S.push (.cells [.func (.func g) #[] cs.toArray] 50 0)) S' ∧ ∃ k v, m = n - k ∧ k ≤ n ∧ τ 3 = .pointer (some ⟨S.n, 0, none⟩) ∧ τ 5 = v ∧ τ 7 = .int .i64 n ∧ τ 8 = .int .i64 (k : Nat) ∧ Mine S' 3 1 (S.n + 1) v (iv (upto k)) k) n ?_ ?_
    · refine ⟨rfl, Ext.refl (by rw [ok_push_iff]; exact hok), 0, .slice none 0 0, by omega, by omega, ?_, ?_, ?_, ?_, .nil _ _ _ _⟩ <;> first | rfl | simp only [H0, J86, J87, und3, und4, und22, und26, und29, und45, und64, info3, info4, info22, info26, info29, info45, info64, info50, und50, aggT, gv, dstAt, aop, evalsA, partsA, evalO, updO, ofArgs, binV, intBin, unV, mmV, builtinA, Nat.reduceLT, Nat.reduceEqDiff, Nat.reduceAdd, Nat.reduceSub, Nat.reduceMul, ↓reduceIte, reduceCtorEq]
    · rintro m τ ds S' ⟨rfl, hE, k, v, rfl, hk, t3, t5, t7, t8, hM⟩
      have hw := wrap_succ (k := k) (by omega)
      have hSn := hE.n
      rw [push_n] at hSn
      by_cases hlt : k < n
      · have e1 : decide ((k : Int) < n) = true := by simpa using hlt
        have b1 := bs_one (T := TT) (S := S') (x := .int .i64 k) und26 info3 rfl rfl rfl
        obtain ⟨v', S4, a1, a2, a3, a4⟩ := hM.push_one (T := TT) (x := .int .i64 k) hE.ok (by omega) und26 info3 rfl rfl (by omega) (by omega)
        have hE4 := a3.ext hE fun b hb => by rw [push_n]; exact (hM.base hb).1
        repeat (first | with_reducible (first | refine W_seq ?_ | refine W_block ?_ | refine W_scope ?_ | refine W_regionV hTT ?_ | refine W_condV ?_ | refine W_ret ?_ | refine W_exit ?_ | refine W_skip ?_ | refine W_label ?_ | refine W_drawV hTT (by kernel_rfl) ?_) | simp only [H0, J86, J87, und3, und4, und22, und26, und29, und45, und64, info3, info4, info22, info26, info29, info45, info64, info50, und50, aggT, gv, dstAt, aop, evalsA, partsA, evalO, updO, ofArgs, binV, intBin, unV, mmV, builtinA, Nat.reduceLT, Nat.reduceEqDiff, Nat.reduceAdd, Nat.reduceSub, Nat.reduceMul, ↓reduceIte, reduceCtorEq, t3, t5, t7, t8, e1, b1, a1, hw])
        refine LoopQ_intro (n - (k + 1)) (by omega) ⟨rfl, hE4, k + 1, v', rfl, by omega, by simp only [H0, J86, J87, und3, und4, und22, und26, und29, und45, und64, info3, info4, info22, info26, info29, info45, info64, info50, und50, aggT, gv, dstAt, aop, evalsA, partsA, evalO, updO, ofArgs, binV, intBin, unV, mmV, builtinA, Nat.reduceLT, Nat.reduceEqDiff, Nat.reduceAdd, Nat.reduceSub, Nat.reduceMul, ↓reduceIte, reduceCtorEq, t3], by simp only [H0, J86, J87, und3, und4, und22, und26, und29, und45, und64, info3, info4, info22, info26, info29, info45, info64, info50, und50, aggT, gv, dstAt, aop, evalsA, partsA, evalO, updO, ofArgs, binV, intBin, unV, mmV, builtinA, Nat.reduceLT, Nat.reduceEqDiff, Nat.reduceAdd, Nat.reduceSub, Nat.reduceMul, ↓reduceIte, reduceCtorEq], by simp only [H0, J86, J87, und3, und4, und22, und26, und29, und45, und64, info3, info4, info22, info26, info29, info45, info64, info50, und50, aggT, gv, dstAt, aop, evalsA, partsA, evalO, updO, ofArgs, binV, intBin, unV, mmV, builtinA, Nat.reduceLT, Nat.reduceEqDiff, Nat.reduceAdd, Nat.reduceSub, Nat.reduceMul, ↓reduceIte, reduceCtorEq, t7], by simp only [H0, J86, J87, und3, und4, und22, und26, und29, und45, und64, info3, info4, info22, info26, info29, info45, info64, info50, und50, aggT, gv, dstAt, aop, evalsA, partsA, evalO, updO, ofArgs, binV, intBin, unV, mmV, builtinA, Nat.reduceLT, Nat.reduceEqDiff, Nat.reduceAdd, Nat.reduceSub, Nat.reduceMul, ↓reduceIte, reduceCtorEq, t8, hw], ?_⟩
        rw [upto_succ, ← iv_append]
        exact a2
      · have e1 : decide ((k : Int) < n) = false := by simpa using hlt
        have hkk : k = n := by omega
        subst hkk
        repeat (first | with_reducible (first | refine W_seq ?_ | refine W_block ?_ | refine W_scope ?_ | refine W_regionV hTT ?_ | refine W_condV ?_ | refine W_ret ?_ | refine W_exit ?_ | refine W_skip ?_ | refine W_label ?_ | refine W_drawV hTT (by kernel_rfl) ?_) | simp only [H0, J86, J87, und3, und4, und22, und26, und29, und45, und64, info3, info4, info22, info26, info29, info45, info64, info50, und50, aggT, gv, dstAt, aop, evalsA, partsA, evalO, updO, ofArgs, binV, intBin, unV, mmV, builtinA, Nat.reduceLT, Nat.reduceEqDiff, Nat.reduceAdd, Nat.reduceSub, Nat.reduceMul, ↓reduceIte, reduceCtorEq, t3, t5, t7, t8, e1])
        refine NQ_intro ⟨rfl, hE, ?_, v, ?_, hM⟩
        · simp only [H0, J86, J87, und3, und4, und22, und26, und29, und45, und64, info3, info4, info22, info26, info29, info45, info64, info50, und50, aggT, gv, dstAt, aop, evalsA, partsA, evalO, updO, ofArgs, binV, intBin, unV, mmV, builtinA, Nat.reduceLT, Nat.reduceEqDiff, Nat.reduceAdd, Nat.reduceSub, Nat.reduceMul, ↓reduceIte, reduceCtorEq, t3]
        · simp only [H0, J86, J87, und3, und4, und22, und26, und29, und45, und64, info3, info4, info22, info26, info29, info45, info64, info50, und50, aggT, gv, dstAt, aop, evalsA, partsA, evalO, updO, ofArgs, binV, intBin, unV, mmV, builtinA, Nat.reduceLT, Nat.reduceEqDiff, Nat.reduceAdd, Nat.reduceSub, Nat.reduceMul, ↓reduceIte, reduceCtorEq, t5]
  · rintro τ ds S1 ⟨rfl, hE, t3, v, t5, hM⟩
    have hSn := hE.n
    rw [push_n] at hSn
    have hE1 : Ext S S1 := hE0.trans hE
    have hl1 := hE.get hl
    rcases hM with ⟨rfl, hnil, rfl⟩ | ⟨b, rfl, hlo, hget, hlen⟩
    · repeat (first | with_reducible (first | refine W_seq ?_ | refine W_block ?_ | refine W_scope ?_ | refine W_regionV hTT ?_ | refine W_condV ?_ | refine W_ret ?_ | refine W_exit ?_ | refine W_skip ?_ | refine W_label ?_ | refine W_drawV hTT (by kernel_rfl) ?_) | simp only [H0, J86, J87, und3, und4, und22, und26, und29, und45, und64, info3, info4, info22, info26, info29, info45, info64, info50, und50, aggT, gv, dstAt, aop, evalsA, partsA, evalO, updO, ofArgs, binV, intBin, unV, mmV, builtinA, Nat.reduceLT, Nat.reduceEqDiff, Nat.reduceAdd, Nat.reduceSub, Nat.reduceMul, ↓reduceIte, reduceCtorEq, t3, t5, fnOk_func])
      refine VCall_intro (stableNil_call S1 _) ?_
      rintro v S2 ⟨rfl, rfl⟩
      repeat (first | with_reducible (first | refine W_seq ?_ | refine W_block ?_ | refine W_scope ?_ | refine W_regionV hTT ?_ | refine W_condV ?_ | refine W_ret ?_ | refine W_exit ?_ | refine W_skip ?_ | refine W_label ?_ | refine W_drawV hTT (by kernel_rfl) ?_) | simp only [H0, J86, J87, und3, und4, und22, und26, und29, und45, und64, info3, info4, info22, info26, info29, info45, info64, info50, und50, aggT, gv, dstAt, aop, evalsA, partsA, evalO, updO, ofArgs, binV, intBin, unV, mmV, builtinA, Nat.reduceLT, Nat.reduceEqDiff, Nat.reduceAdd, Nat.reduceSub, Nat.reduceMul, ↓reduceIte, reduceCtorEq, t3, t5])
      exact ⟨⟨[], by simp [upto], .inl ⟨rfl, rfl, rfl⟩⟩, hE1⟩
    · have hx : RowW S1 b (.slice (some ⟨b, 0, none⟩) n BIG) (upto n) := ⟨⟨BIG, 1, by rw [upto_len], .inr ⟨rfl, rfl⟩, hget, .inr rfl⟩⟩
      repeat (first | with_reducible (first | refine W_seq ?_ | refine W_block ?_ | refine W_scope ?_ | refine W_regionV hTT ?_ | refine W_condV ?_ | refine W_ret ?_ | refine W_exit ?_ | refine W_skip ?_ | refine W_label ?_ | refine W_drawV hTT (by kernel_rfl) ?_) | simp only [H0, J86, J87, und3, und4, und22, und26, und29, und45, und64, info3, info4, info22, info26, info29, info45, info64, info50, und50, aggT, gv, dstAt, aop, evalsA, partsA, evalO, updO, ofArgs, binV, intBin, unV, mmV, builtinA, Nat.reduceLT, Nat.reduceEqDiff, Nat.reduceAdd, Nat.reduceSub, Nat.reduceMul, ↓reduceIte, reduceCtorEq, t3, t5, fnOk_func])
      refine VCall_intro (stable_call hE1.ok hx (by rw [upto_len]; exact hn) (g := 52) (cs := [.pointer (some ⟨S.n, 0, none⟩)]) ?_) ?_
      · rintro S' ⟨h1, h2, h3, h4⟩ x y hxm hym
        obtain ⟨i, hi, rfl⟩ := upto_mem hxm
        obtain ⟨j, hj, rfl⟩ := upto_mem hym
        have hE' : Ext S S' := ⟨h1, by rw [h2]; omega, fun a ha => by rw [h4 a (by omega), hE1.same a ha], h3.trans hE1.mono⟩
        have hl2 : S'.get S.n = some (.cells [.func (.func g) #[] cs.toArray] 50 0) := by rw [h4 _ (by omega)]; exact hl1
        exact by_call hl2 (hby S' hE' i hi) (hby S' hE' j hj)
      · rintro v S2 ⟨rfl, ⟨ys, hp, hR⟩, h1, h2, h3, h4⟩
        repeat (first | with_reducible (first | refine W_seq ?_ | refine W_block ?_ | refine W_scope ?_ | refine W_regionV hTT ?_ | refine W_condV ?_ | refine W_ret ?_ | refine W_exit ?_ | refine W_skip ?_ | refine W_label ?_ | refine W_drawV hTT (by kernel_rfl) ?_) | simp only [H0, J86, J87, und3, und4, und22, und26, und29, und45, und64, info3, info4, info22, info26, info29, info45, info64, info50, und50, aggT, gv, dstAt, aop, evalsA, partsA, evalO, updO, ofArgs, binV, intBin, unV, mmV, builtinA, Nat.reduceLT, Nat.reduceEqDiff, Nat.reduceAdd, Nat.reduceSub, Nat.reduceMul, ↓reduceIte, reduceCtorEq, t3, t5])
        refine ⟨⟨ys, hp, ?_⟩, ⟨h1, by rw [h2]; omega, fun a ha => by rw [h4 a (by omega), hE1.same a ha], h3.trans hE1.mono⟩⟩
        obtain ⟨⟨c, g', hc1, hc2, hg1, hg2⟩⟩ := hR
        have hyl := hp.length_eq
        rw [upto_len] at hyl
        cases hc1
        rcases hc2 with ⟨hc2, _⟩ | ⟨_, rfl⟩
        · omega
        · exact .inr ⟨b, rfl, by omega, hg1, by rw [iv_len, hyl, Nat.mul_one]⟩
end Go.Proofs.Sz
end
/- part Wr -/
section
/- Loops over functions, walked. -/
namespace Go.Ax
open Go.RowKit
section
variable {P : Program} {T : Tab} {n : Nat} {ro : Option Nat} {τ : Nat → Value} {ds : List Nat} {S : St} {Q : Post}
/-- code is known at two points -/
noncomputable def G2 (ro1 : Option Nat) (c1 : Code) (t1 : List Value) (d1 : List Nat) (S1 : St) (r1 : Res) (ro2 : Option Nat) (c2 : Code) (t2 : List Value) (d2 : List Nat) (S2 : St) (r2 : Res) : Fns :=
  { call := fun _ _ _ => none, code := fun ro c ts ds S => open Classical in if ro = ro1 ∧ c = c1 ∧ ts = t1 ∧ ds = d1 ∧ S = S1 then some [r1] else if ro = ro2 ∧ c = c2 ∧ ts = t2 ∧ ds = d2 ∧ S = S2 then some [r2] else none }
theorem G2_ok {ro1 ro2 : Option Nat} {c1 c2 : Code} {t1 t2 : List Value} {d1 d2 : List Nat} {S1 S2 : St} {r1 r2 : Res} (h1 : CodeIs P ro1 c1 t1 d1 S1 r1) (h2 : CodeIs P ro2 c2 t2 d2 S2 r2) : OK P (G2 ro1 c1 t1 d1 S1 r1 ro2 c2 t2 d2 S2 r2) := by
  refine ⟨fun h => (by cases h), ?_⟩
  intro ro c ts ds S outs hx w0 E w a ro' m R hro hS ht hd hQ
  simp only [G2] at hx
  split at hx
  · rename_i hc
    obtain ⟨rfl, rfl, rfl, rfl, rfl⟩ := hc
    cases hx
    exact h1 hro hS ht hd fun E' a' w' g1 g2 g3 g4 g5 g6 => hQ r1 (by simp) E' a' w' g1 g2 g3 g4 g5 g6
  · split at hx
    · rename_i hc
      obtain ⟨rfl, rfl, rfl, rfl, rfl⟩ := hc
      cases hx
      exact h2 hro hS ht hd fun E' a' w' g1 g2 g3 g4 g5 g6 => hQ r2 (by simp) E' a' w' g1 g2 g3 g4 g5 g6
    · cases hx
/-- one call and one code are known -/
noncomputable def G3 (f0 : FuncId) (args0 : List Value) (S0 : St) (v : Value) (S' : St) (ro2 : Option Nat) (c2 : Code) (t2 : List Value) (d2 : List Nat) (S2 : St) (r2 : Res) : Fns :=
  { call := (G1 f0 args0 S0 v S').call, code := (G2 ro2 c2 t2 d2 S2 r2 ro2 c2 t2 d2 S2 r2).code }
theorem G3_ok {f : FuncId} {args : List Value} {S0 : St} {v : Value} {S' : St} (h : CallIs P f args S0 [(v, some S')]) {ro2 : Option Nat} {c2 : Code} {t2 : List Value} {d2 : List Nat} {S2 : St} {r2 : Res} (h2 : CodeIs P ro2 c2 t2 d2 S2 r2) : OK P (G3 f args S0 v S' ro2 c2 t2 d2 S2 r2) := by
  refine ⟨fun hx => (G1_ok h).call hx, fun hx => (G2_ok h2 h2).code hx⟩
noncomputable def zipT : List Tmp → List Value → (Nat → Value) → (Nat → Value)
  | t :: ps, v :: vs, τ => zipT ps vs (upd τ t v)
  | _, _, τ => τ
theorem zipT_two {t : Tmp} {v : Value} {ps : List Tmp} {vs : List Value} : zipT (t :: ps) (v :: vs) τ = zipT ps vs (upd τ t v) := Eq.trans rfl rfl
theorem zipT_nil {ps : List Tmp} : zipT ps [] τ = τ := by cases ps <;> rfl
theorem zipT_nil' {vs : List Value} : zipT [] vs τ = τ := by cases vs <;> rfl
theorem zipSet_tl : ∀ (ps : List Tmp) (vs : List Value) (τ : Nat → Value), zipSet ps vs (tl n τ) = tl n (zipT ps vs τ) := by
  intro ps
  induction ps with
  | nil => intro vs τ; cases vs <;> rfl
  | cons t ps ih =>
    intro vs τ
    cases vs with
    | nil => rfl
    | cons v vs =>
      show zipSet ps vs (lset (tl n τ) t v) = tl n (zipT ps vs (upd τ t v))
      rw [tl_lset]
      exact ih _ _
/-- a round's end -/
def YE (l : Nat) (Q : Value → St → Prop) : Post := fun e _ _ S => ∃ st pd tm ps asg bd df, S.get l = some (.loop st pd tm ps asg bd df) ∧ (match e with
  | .normal => Q (.bool true) (S.set l (.loop .ready none tm ps asg bd df))
  | .ret => Q (.bool false) (S.set l (.loop .done (some .ret) tm ps asg bd df))
  | .exit id => Q (.bool false) (S.set l (.loop .done (some (.exit id)) tm ps asg bd df)))
/-- a round's body, behind what is assigned -/
def YB (P : Program) (n : Nat) (l : Nat) (bd0 : Code) (Q : Value → St → Prop) : Post := fun e τ ds S => match e with
  | .normal => ∃ pd tm ps asg bd df, S.get l = some (.loop .ready pd tm ps asg bd df) ∧ W P n (some l) bd0 τ ds (S.set l (.loop .busy pd tm ps asg bd df)) (YE l Q)
  | _ => False
theorem YB_normal {l : Nat} {bd0 : Code} {R : Value → St → Prop} : YB P n l bd0 R .normal τ ds S = ∃ pd tm ps asg bd df, S.get l = some (.loop .ready pd tm ps asg bd df) ∧ W P n (some l) bd0 τ ds (S.set l (.loop .busy pd tm ps asg bd df)) (YE l R) := Eq.trans rfl rfl
theorem YE_normal {l : Nat} {R : Value → St → Prop} : YE l R .normal τ ds S = ∃ st pd tm ps asg bd df, S.get l = some (.loop st pd tm ps asg bd df) ∧ R (.bool true) (S.set l (.loop .ready none tm ps asg bd df)) := Eq.trans rfl rfl
theorem YE_ret {l : Nat} {R : Value → St → Prop} : YE l R .ret τ ds S = ∃ st pd tm ps asg bd df, S.get l = some (.loop st pd tm ps asg bd df) ∧ R (.bool false) (S.set l (.loop .done (some .ret) tm ps asg bd df)) := Eq.trans rfl rfl
theorem YE_exit {l id : Nat} {R : Value → St → Prop} : YE l R (.exit id) τ ds S = ∃ st pd tm ps asg bd df, S.get l = some (.loop st pd tm ps asg bd df) ∧ R (.bool false) (S.set l (.loop .done (some (.exit id)) tm ps asg bd df)) := Eq.trans rfl rfl
theorem CallC_yield {l : Nat} {pd : Option Code} {ps : Array Tmp} {asg bd : Code} {df : Nat} {args : List Value} {R : Value → St → Prop} (hl : S.get l = some (.loop .ready pd (tl n τ) ps asg bd df)) (hlen : args.length = ps.toList.length)
    (h : W P n (some l) asg (zipT ps.toList args τ) [] S (YB P n l bd R)) : CallC P (.y l) args S R := by
  obtain ⟨e1, τ1, ds1, S1, h1, h2⟩ := h
  cases e1 with
  | exit id => exact h2.elim
  | ret => exact h2.elim
  | normal =>
    obtain ⟨pd2, tm2, ps2, as2, bd2, df2, g1, e3, τ3, ds3, S3, g3, st3, pd3, tm3, ps3, as3, bd3, df3, g4, g5⟩ := h2
    have hok := G2_ok h1 g3
    have hne : ¬ (S1.set l (.loop .busy pd2 tm2 ps2 as2 bd2 df2)) = S := by
      intro he
      by_cases hk : S1.ok
      · have := St.get_set_same hk (lt_of_get g1) (.loop .busy pd2 tm2 ps2 as2 bd2 df2)
        rw [he, hl] at this
        cases this
      · have hk2 : ¬ (S1.set l (.loop .busy pd2 tm2 ps2 as2 bd2 df2)).ok := by rw [ok_set_iff]; exact hk
        have hlt := lt_of_get g1
        -- the object is there all the same
        have h9 : (S1.set l (.loop .busy pd2 tm2 ps2 as2 bd2 df2)).get l = some (.loop .busy pd2 tm2 ps2 as2 bd2 df2) := by
          rw [St.get_def, if_pos hlt] at g1
          rw [St.get_def, if_pos (by rw [set_n]; exact hlt)]
          have hlt2 : S1.n - 1 - l < S1.objs.length := (List.getElem?_eq_some_iff.1 g1).1
          unfold St.set
          simp only [lset_eq]
          rw [List.getElem?_set_self hlt2]
        rw [he, hl] at h9
        cases h9
    have hcall : yieldA (G2 (some l) asg (tl n (zipT ps.toList args τ)) [] S { e := .normal, ts := tl n τ1, ds := ds1, S := S1 } (some l) bd (tl n τ1) ds1 (S1.set l (.loop .busy pd2 tm2 ps2 as2 bd2 df2)) { e := e3, ts := tl n τ3, ds := ds3, S := S3 }) l args S
        = (match e3 with
          | .normal => some [(.bool true, some (S3.set l (.loop .ready none tm3 ps3 as3 bd3 df3)))]
          | .ret => some [(.bool false, some (S3.set l (.loop .done (some .ret) tm3 ps3 as3 bd3 df3)))]
          | .exit id => some [(.bool false, some (S3.set l (.loop .done (some (.exit id)) tm3 ps3 as3 bd3 df3)))]) := by
      have hc1 : (G2 (some l) asg (tl n (zipT ps.toList args τ)) [] S { e := .normal, ts := tl n τ1, ds := ds1, S := S1 } (some l) bd (tl n τ1) ds1 (S1.set l (.loop .busy pd2 tm2 ps2 as2 bd2 df2)) { e := e3, ts := tl n τ3, ds := ds3, S := S3 }).code (some l) asg (tl n (zipT ps.toList args τ)) [] S = some [{ e := .normal, ts := tl n τ1, ds := ds1, S := S1 }] := by
        simp only [G2, and_self, if_true]
      have hc2 : (G2 (some l) asg (tl n (zipT ps.toList args τ)) [] S { e := .normal, ts := tl n τ1, ds := ds1, S := S1 } (some l) bd (tl n τ1) ds1 (S1.set l (.loop .busy pd2 tm2 ps2 as2 bd2 df2)) { e := e3, ts := tl n τ3, ds := ds3, S := S3 }).code (some l) bd (tl n τ1) ds1 (S1.set l (.loop .busy pd2 tm2 ps2 as2 bd2 df2)) = some [{ e := e3, ts := tl n τ3, ds := ds3, S := S3 }] := by
        simp only [G2, and_self, if_true, hne, and_false, if_false]
      unfold yieldA
      rw [hl]
      simp only [hlen, if_true, zipSet_tl, hc1, bindL, allL, g1, hc2, g4]
      cases e3 <;> rfl
    cases e3 with
    | normal => exact ⟨_, _, _, hok, hcall, g5⟩
    | ret => exact ⟨_, _, _, hok, hcall, g5⟩
    | exit id => exact ⟨_, _, _, hok, hcall, g5⟩
/-- what follows a loop over a function: its pending exit -/
def After (P : Program) (n : Nat) (ro : Option Nat) (l : Nat) (τ : Nat → Value) (ds : List Nat) (Q : Post) : Value → St → Prop := fun _ S => ∃ st pd tm ps asg bd df, S.get l = some (.loop st pd tm ps asg bd df) ∧ st ≠ .busy ∧ (match pd with
  | none => Q .normal τ ds (S.set l (.loop .exhausted none tm ps asg bd df))
  | some c => W P n ro c τ ds (S.set l (.loop .exhausted (some c) tm ps asg bd df)) Q)
theorem W_rangeFunc {f : Operand} {ps : Array Tmp} {asg bd : Code} {g : FuncId} {xs ys : List Value} (hf : evalA (tl n τ) f = some (.func (.func g) xs.toArray ys.toArray))
    (h : CallW P g (xs ++ [.func (.yield (S.n + 1)) #[] #[]] ++ ys) ((S.push (.defd true)).push (.loop .ready none (tl n τ) ps asg bd S.n)) (After P n none (S.n + 1) τ (S.n :: ds) Q)) :
    W P n none (.rangeFunc f ps asg bd) τ ds S Q := by
  obtain ⟨v, S', h1, st, pd, tm, ps2, as2, bd2, df2, g1, g2, g3⟩ := h
  cases pd with
  | none =>
    refine ⟨.normal, τ, S.n :: ds, _, ?_, g3⟩
    intro w0 E w a ro' m R hro hS ht hd hQ
    refine rangeF_ok (G1_ok h1) (outs := [{ e := .normal, ts := tl n τ, ds := S.n :: ds, S := S'.set (S.n + 1) (.loop .exhausted none tm ps2 as2 bd2 df2) }]) ?_ hro hS ht hd ?_
    · unfold rangeF
      simp only [hf, push_n, G1_call, bindL, allL, Option.getD_some, g1, g2, if_false, List.append_nil, List.nil_append]
    · intro r hr E' a' w' k1 k2 k3 k4 k5 k6
      rw [List.mem_singleton] at hr
      subst hr
      exact hQ E' a' w' k1 k2 k3 k4 k5 k6
  | some c =>
    obtain ⟨e, τ', ds', S2, k1, k2⟩ := g3
    refine ⟨e, τ', ds', S2, ?_, k2⟩
    intro w0 E w a ro' m R hro hS ht hd hQ
    refine rangeF_ok (G3_ok h1 k1) (outs := [{ e := e, ts := tl n τ', ds := ds', S := S2 }]) ?_ hro hS ht hd ?_
    · unfold rangeF
      have hc1 := G1_call (f := g) (args := xs ++ [.func (.yield (S.n + 1)) #[] #[]] ++ ys) (S := (S.push (.defd true)).push (.loop .ready none (tl n τ) ps asg bd S.n)) (v := v) (S' := S')
      simp only [hf, push_n, G3, hc1, bindL, allL, Option.getD_some, g1, g2, if_false, G2, and_self, if_true, List.append_nil, List.nil_append]
    · intro r hr E' a' w' k1 k2 k3 k4 k5 k6
      rw [List.mem_singleton] at hr
      subst hr
      exact hQ E' a' w' k1 k2 k3 k4 k5 k6
theorem W_rangeFuncE {f : Operand} {ps : Array Tmp} {asg bd : Code} {g : FuncId} {xs ys : List Value} (hok : S.ok) (hf : evalA (tl n τ) f = some (.func (.func g) xs.toArray ys.toArray))
    (h : ∀ S0 l, l = S.n + 1 → Ext S S0 → S0.n = S.n + 2 → S0.get S.n = some (.defd true) → S0.get l = some (.loop .ready none (tl n τ) ps asg bd S.n) → CallW P g (xs ++ [.func (.yield l) #[] #[]] ++ ys) S0 (After P n none l τ (S.n :: ds) Q)) :
    W P n none (.rangeFunc f ps asg bd) τ ds S Q := by
  refine W_rangeFunc hf (h _ _ rfl (((Ext.refl hok).push _).push _) rfl ?_ (get_push_new _ rfl))
  rw [get_push_ne _ (by rw [push_n]; omega)]
  exact get_push_new _ rfl
theorem After_none {l : Nat} {st : LoopState} {tm : List Value} {ps : Array Tmp} {asg bd : Code} {df : Nat} {v : Value} (h : S.get l = some (.loop st none tm ps asg bd df)) (hs : st ≠ .busy) (hk : Q .normal τ ds (S.set l (.loop .exhausted none tm ps asg bd df))) : After P n ro l τ ds Q v S := ⟨st, none, tm, ps, asg, bd, df, h, hs, hk⟩
theorem After_some {l : Nat} {st : LoopState} {c : Code} {tm : List Value} {ps : Array Tmp} {asg bd : Code} {df : Nat} {v : Value} (h : S.get l = some (.loop st (some c) tm ps asg bd df)) (hs : st ≠ .busy) (hk : W P n ro c τ ds (S.set l (.loop .exhausted (some c) tm ps asg bd df)) Q) : After P n ro l τ ds Q v S := ⟨st, some c, tm, ps, asg, bd, df, h, hs, hk⟩
theorem closeA_defd {d : Nat} (hd : S.get d = some (.defd true)) : closeA (d :: ds) S = closeA ds (S.set d (.defd false)) := by
  conv => lhs; unfold closeA
  rw [hd]
theorem RetQ_defd {rs : List ResultVar} {R : Value → St → Prop} {d : Nat} (hd : S.get d = some (.defd true)) {e : AExit} (he : e = .normal ∨ e = .ret) (h : RetQ T n rs R e τ ds (S.set d (.defd false))) : RetQ T n rs R e τ (d :: ds) S := by
  rcases he with rfl | rfl
  · unfold RetQ at *
    rw [closeA_defd hd]
    exact h
  · unfold RetQ at *
    rw [closeA_defd hd]
    exact h
end
end Go.Ax
end
/- part Zf -/
section
namespace Go.Proofs.Sz
open Go Go.Ax Go.Proofs Go.RowKit
theorem fn50 : TT.fn 50 = some Tryz.f50 := by kernel_rfl
theorem fn49 : TT.fn 49 = some Tryz.f49 := by kernel_rfl
theorem fn68 : TT.fn 68 = some Tryz.f68 := by kernel_rfl
theorem fn70 : TT.fn 70 = some Tryz.f70 := by kernel_rfl
theorem fn79 : TT.fn 79 = some Tryz.f79 := by kernel_rfl
/-- Values: a closure upon the list -/
theorem values_call {S : St} {va : Value} {n : Nat} (hpl : Plain va n) :
    CallW PP 50 [va] S (fun v S' => v = .func (.func 70) #[] #[.pointer (some ⟨S.n, 0, none⟩)] ∧ S' = S.push (.cells [va] 26 0)) := by
  have hcp := hpl.cells
  refine CallW_of hTT fn50 rfl (by simp [Tryz.f50]) ?_
  unfold Tryz.f50
  repeat (first | with_reducible (first | refine W_seq ?_ | refine W_block ?_ | refine W_scope ?_ | refine W_regionV hTT ?_ | refine W_condV ?_ | refine W_ret ?_ | refine W_exit ?_ | refine W_skip ?_ | refine W_label ?_ | refine W_drawV hTT (by kernel_rfl) ?_) | simp only [H0, J86, J87, und3, und4, und22, und26, und29, und45, und64, info3, info4, info22, info26, info29, info45, info64, info50, und50, aggT, gv, dstAt, aop, evalsA, partsA, evalO, updO, ofArgs, binV, intBin, unV, mmV, builtinA, Nat.reduceLT, Nat.reduceEqDiff, Nat.reduceAdd, Nat.reduceSub, Nat.reduceMul, ↓reduceIte, reduceCtorEq, boxA, hcp.1, fnOk_func])
/-- Values' closure: each number to the loop -/
theorem each_call {S : St} {bl l : Nat} {va : Value} {xs : List Int} (hl : S.get bl = some (.cells [va] 26 0)) (hx : Sl S 1 va (iv xs) xs.length) (hn : xs.length < 1000)
    (I : Nat → St → Prop) (h0 : I 0 S) (hI : ∀ k S', I k S' → Sl S' 1 va (iv xs) xs.length)
    (hstep : ∀ k (h : k < xs.length) S', I k S' → CallC PP (.y l) [.int .i64 xs[k]] S' (fun v S'' => v = .bool true ∧ I (k + 1) S'')) :
    CallW PP 70 [.func (.yield l) #[] #[], .pointer (some ⟨bl, 0, none⟩)] S (fun v S' => v = .tuple #[] ∧ I xs.length S') := by
  have r1 := load_one (o := 0) und26 info26 rfl hl
  simp only [List.getElem?_cons_zero] at r1
  have hla := hx.len (T := TT) und26
  refine CallW_of hTT fn70 rfl (by simp [Tryz.f70]) ?_
  unfold Tryz.f70
  repeat (first | with_reducible (first | refine W_seq ?_ | refine W_scope ?_ | refine W_regionV hTT ?_ | refine W_condV ?_ | refine W_ret ?_ | refine W_exit ?_ | refine W_skip ?_ | refine W_label ?_ | refine W_drawV hTT (by kernel_rfl) ?_) | simp only [H0, J86, J87, und3, und4, und22, und26, und29, und45, und64, info3, info4, info22, info26, info29, info45, info64, info50, und50, aggT, gv, dstAt, aop, evalsA, partsA, evalO, updO, ofArgs, binV, intBin, unV, mmV, builtinA, Nat.reduceLT, Nat.reduceEqDiff, Nat.reduceAdd, Nat.reduceSub, Nat.reduceMul, ↓reduceIte, reduceCtorEq, r1, hla])
  refine W_block ?_
  refine W_loopI (fun m τ ds S' => ds = [] ∧ ∃ k, m = xs.length - k ∧ k ≤ xs.length ∧ τ 0 = .func (.yield l) #[] #[] ∧ τ 5 = va ∧ τ 6 = .int .i64 xs.length ∧ τ 7 = .int .i64 (k : Nat) ∧ I k S') xs.length ?_ ?_
  · refine ⟨rfl, 0, by omega, by omega, ?_, ?_, ?_, ?_, h0⟩ <;> first | rfl | simp only [H0, J86, J87, und3, und4, und22, und26, und29, und45, und64, info3, info4, info22, info26, info29, info45, info64, info50, und50, aggT, gv, dstAt, aop, evalsA, partsA, evalO, updO, ofArgs, binV, intBin, unV, mmV, builtinA, Nat.reduceLT, Nat.reduceEqDiff, Nat.reduceAdd, Nat.reduceSub, Nat.reduceMul, ↓reduceIte, reduceCtorEq]
  · rintro m τ ds S' ⟨rfl, k, rfl, hk, t0, t5, t6, t7, hIk⟩
    have hw := wrap_succ (k := k) (by omega)
    by_cases hlt : k < xs.length
    · have e1 : decide ((k : Int) < xs.length) = true := by simpa using hlt
      obtain ⟨q, q1, q2, _⟩ := (hI k S' hIk).at1 (T := TT) (k := .i64) und26 info3 und3 rfl rfl (i := k) hlt
      rw [iv_get, List.getElem?_eq_getElem hlt] at q2
      simp only [Option.map_some] at q2
      repeat (first | with_reducible (first | refine W_seq ?_ | refine W_block ?_ | refine W_scope ?_ | refine W_regionV hTT ?_ | refine W_condV ?_ | refine W_ret ?_ | refine W_exit ?_ | refine W_skip ?_ | refine W_label ?_ | refine W_drawV hTT (by kernel_rfl) ?_) | simp only [H0, J86, J87, und3, und4, und22, und26, und29, und45, und64, info3, info4, info22, info26, info29, info45, info64, info50, und50, aggT, gv, dstAt, aop, evalsA, partsA, evalO, updO, ofArgs, binV, intBin, unV, mmV, builtinA, Nat.reduceLT, Nat.reduceEqDiff, Nat.reduceAdd, Nat.reduceSub, Nat.reduceMul, ↓reduceIte, reduceCtorEq, t0, t5, t6, t7, e1, q1, q2])
      refine VCallC_intro (hstep k hlt S' hIk) ?_
      rintro v S2 ⟨rfl, hI2⟩
      repeat (first | with_reducible (first | refine W_seq ?_ | refine W_block ?_ | refine W_scope ?_ | refine W_regionV hTT ?_ | refine W_condV ?_ | refine W_ret ?_ | refine W_exit ?_ | refine W_skip ?_ | refine W_label ?_ | refine W_drawV hTT (by kernel_rfl) ?_) | simp only [H0, J86, J87, und3, und4, und22, und26, und29, und45, und64, info3, info4, info22, info26, info29, info45, info64, info50, und50, aggT, gv, dstAt, aop, evalsA, partsA, evalO, updO, ofArgs, binV, intBin, unV, mmV, builtinA, Nat.reduceLT, Nat.reduceEqDiff, Nat.reduceAdd, Nat.reduceSub, Nat.reduceMul, ↓reduceIte, reduceCtorEq, t0, t5, t6, t7, hw])
      refine LoopQ_intro (xs.length - (k + 1)) (by omega) ⟨rfl, k + 1, rfl, by omega, by simp only [H0, J86, J87, und3, und4, und22, und26, und29, und45, und64, info3, info4, info22, info26, info29, info45, info64, info50, und50, aggT, gv, dstAt, aop, evalsA, partsA, evalO, updO, ofArgs, binV, intBin, unV, mmV, builtinA, Nat.reduceLT, Nat.reduceEqDiff, Nat.reduceAdd, Nat.reduceSub, Nat.reduceMul, ↓reduceIte, reduceCtorEq, t0], by simp only [H0, J86, J87, und3, und4, und22, und26, und29, und45, und64, info3, info4, info22, info26, info29, info45, info64, info50, und50, aggT, gv, dstAt, aop, evalsA, partsA, evalO, updO, ofArgs, binV, intBin, unV, mmV, builtinA, Nat.reduceLT, Nat.reduceEqDiff, Nat.reduceAdd, Nat.reduceSub, Nat.reduceMul, ↓reduceIte, reduceCtorEq, t5], by simp only [H0, J86, J87, und3, und4, und22, und26, und29, und45, und64, info3, info4, info22, info26, info29, info45, info64, info50, und50, aggT, gv, dstAt, aop, evalsA, partsA, evalO, updO, ofArgs, binV, intBin, unV, mmV, builtinA, Nat.reduceLT, Nat.reduceEqDiff, Nat.reduceAdd, Nat.reduceSub, Nat.reduceMul, ↓reduceIte, reduceCtorEq, t6], by simp only [H0, J86, J87, und3, und4, und22, und26, und29, und45, und64, info3, info4, info22, info26, info29, info45, info64, info50, und50, aggT, gv, dstAt, aop, evalsA, partsA, evalO, updO, ofArgs, binV, intBin, unV, mmV, builtinA, Nat.reduceLT, Nat.reduceEqDiff, Nat.reduceAdd, Nat.reduceSub, Nat.reduceMul, ↓reduceIte, reduceCtorEq, t7, hw], hI2⟩
    · have e1 : decide ((k : Int) < xs.length) = false := by simpa using hlt
      have hkk : k = xs.length := by omega
      subst hkk
      repeat (first | with_reducible (first | refine W_seq ?_ | refine W_block ?_ | refine W_scope ?_ | refine W_regionV hTT ?_ | refine W_condV ?_ | refine W_ret ?_ | refine W_exit ?_ | refine W_skip ?_ | refine W_label ?_ | refine W_drawV hTT (by kernel_rfl) ?_) | simp only [H0, J86, J87, und3, und4, und22, und26, und29, und45, und64, info3, info4, info22, info26, info29, info45, info64, info50, und50, aggT, gv, dstAt, aop, evalsA, partsA, evalO, updO, ofArgs, binV, intBin, unV, mmV, builtinA, Nat.reduceLT, Nat.reduceEqDiff, Nat.reduceAdd, Nat.reduceSub, Nat.reduceMul, ↓reduceIte, reduceCtorEq, t0, t5, t6, t7, e1])
      exact ⟨rfl, hIk⟩
/-- AppendSeq to nothing, of Values -/
theorem appendSeq_call {S : St} (hok : S.ok) {bl : Nat} {va : Value} {xs : List Int} (hl : S.get bl = some (.cells [va] 26 0)) (hx : Sl S 1 va (iv xs) xs.length) (hn : xs.length < 1000) :
    CallW PP 79 [.slice none 0 0, .func (.func 70) #[] #[.pointer (some ⟨bl, 0, none⟩)]] S (fun v S' => Mine S' 3 1 S.n v (iv xs) xs.length ∧ Ext S S') := by
  have hE0 : Ext S (S.push (.cells [.slice none 0 0] 26 0)) := (Ext.refl hok).push _
  have hb0 : (S.push (.cells [.slice none 0 0] 26 0)).get S.n = some (.cells [.slice none 0 0] 26 0) := get_push_new _ rfl
  refine CallW_of hTT fn79 rfl (by simp [Tryz.f79]) ?_
  unfold Tryz.f79
  repeat (first | with_reducible (first | refine W_seq ?_ | refine W_block ?_ | refine W_scope ?_ | refine W_regionV hTT ?_ | refine W_condV ?_ | refine W_ret ?_ | refine W_exit ?_ | refine W_skip ?_ | refine W_label ?_ | refine W_drawV hTT (by kernel_rfl) ?_) | simp only [H0, J86, J87, und3, und4, und22, und26, und29, und45, und64, info3, info4, info22, info26, info29, info45, info64, info50, und50, aggT, gv, dstAt, aop, evalsA, partsA, evalO, updO, ofArgs, binV, intBin, unV, mmV, builtinA, Nat.reduceLT, Nat.reduceEqDiff, Nat.reduceAdd, Nat.reduceSub, Nat.reduceMul, ↓reduceIte, reduceCtorEq, boxA, Value.cells])
  refine W_rangeFuncE hE0.ok (g := 70) (xs := []) (ys := [.pointer (some ⟨bl, 0, none⟩)]) (by simp only [H0, J86, J87, und3, und4, und22, und26, und29, und45, und64, info3, info4, info22, info26, info29, info45, info64, info50, und50, aggT, gv, dstAt, aop, evalsA, partsA, evalO, updO, ofArgs, binV, intBin, unV, mmV, builtinA, Nat.reduceLT, Nat.reduceEqDiff, Nat.reduceAdd, Nat.reduceSub, Nat.reduceMul, ↓reduceIte, reduceCtorEq]) ?_
  rintro S0 l hll hE hSn hd hloop
  rw [push_n] at hll hSn hd
  have hE2 := hE0.trans hE
  refine (each_call (xs := xs) (hE2.get hl) (hx.extd hE2) hn (fun k S' => S'.ok ∧ S'.mono = S.mono ∧ S0.n ≤ S'.n ∧ (∀ i, i < S.n → S'.get i = S.get i) ∧ S'.get (S.n + 1) = some (.defd true) ∧ S'.get l = S0.get l ∧ ∃ v, S'.get S.n = some (.cells [v] 26 0) ∧ Mine S' 3 1 S0.n v (iv (xs.take k)) k) ?_ ?_ ?_).mono ?_
  · refine ⟨hE2.ok, hE2.mono, Nat.le_refl _, hE2.same, hd, rfl, _, hE.get hb0, by rw [List.take_zero]; exact .nil _ _ _ _⟩
  · rintro k S' ⟨h1, h2, h3, h4, _⟩
    exact hx.same fun b hb => h4 b (hx.base hb)
  · rintro k hk S' ⟨h1, h2, h3, h4, h5, h6, v, h7, hM⟩
    have hl' := h6.trans hloop
    refine CallC_yield hl' rfl ?_
    simp only [zipT_two, zipT_nil]
    repeat (first | with_reducible (first | refine W_seq ?_ | refine W_block ?_ | refine W_scope ?_ | refine W_regionV hTT ?_ | refine W_condV ?_ | refine W_ret ?_ | refine W_exit ?_ | refine W_skip ?_ | refine W_label ?_ | refine W_drawV hTT (by kernel_rfl) ?_) | simp only [H0, J86, J87, und3, und4, und22, und26, und29, und45, und64, info3, info4, info22, info26, info29, info45, info64, info50, und50, aggT, gv, dstAt, aop, evalsA, partsA, evalO, updO, ofArgs, binV, intBin, unV, mmV, builtinA, Nat.reduceLT, Nat.reduceEqDiff, Nat.reduceAdd, Nat.reduceSub, Nat.reduceMul, ↓reduceIte, reduceCtorEq, YB_normal])
    refine ⟨_, _, _, _, _, _, hl', ?_⟩
    have hlt := lt_of_get hl'
    generalize hL2 : AObj.loop LoopState.busy _ _ _ _ _ _ = L2
    have hS2 : S'.set l L2 = S'.set l L2 := rfl
    generalize hS2e : S'.set l L2 = S2 at hS2
    have g2l : S2.get l = some L2 := by rw [← hS2e]; exact get_set_same _ h1 hlt rfl
    have g2 : ∀ i, i ≠ l → S2.get i = S'.get i := fun i hi => by rw [← hS2e]; exact get_set_ne _ hlt hi
    have o2 : S2.ok := by rw [← hS2e, ok_set_iff]; exact h1
    have n2 : S2.n = S'.n := by rw [← hS2e]; rfl
    have m2 : S2.mono = S'.mono := by rw [← hS2e]; rfl
    have hc2 : S2.get S.n = some (.cells [v] 26 0) := by rw [g2 _ (by omega)]; exact h7
    have r1 := load_one (o := 0) und26 info26 rfl hc2
    simp only [List.getElem?_cons_zero] at r1
    have hM2 : Mine S2 3 1 S0.n v (iv (xs.take k)) k := hM.same fun b hb => g2 b (by have := (hM.base hb).1; omega)
    have b1 := bs_one (T := TT) (S := S2) (x := .int .i64 xs[k]) und26 info3 rfl rfl rfl
    obtain ⟨v', S4, a1, a2, a3, a4⟩ := hM2.push_one (T := TT) (x := .int .i64 xs[k]) o2 (by omega) und26 info3 rfl rfl (by omega) (by omega)
    have hnb : ∀ i, i < S0.n → S4.get i = S2.get i := fun i hi => a3.same i (by omega) fun hb => by have := (hM2.base hb).1; omega
    have hc4 : S4.get S.n = some (.cells [v] 26 0) := by rw [hnb _ (by omega)]; exact hc2
    have hone := a2.one
    have s1 := store_one (T := TT) (o := 0) info26 hc4 hone.1 hone.2 (by simp)
    simp only [List.set_cons_zero] at s1
    have hn4 := a3.n
    have hlt4 := lt_of_get hc4
    repeat (first | with_reducible (first | refine W_seq ?_ | refine W_block ?_ | refine W_scope ?_ | refine W_regionV hTT ?_ | refine W_condV ?_ | refine W_ret ?_ | refine W_exit ?_ | refine W_skip ?_ | refine W_label ?_ | refine W_drawV hTT (by kernel_rfl) ?_) | simp only [H0, J86, J87, und3, und4, und22, und26, und29, und45, und64, info3, info4, info22, info26, info29, info45, info64, info50, und50, aggT, gv, dstAt, aop, evalsA, partsA, evalO, updO, ofArgs, binV, intBin, unV, mmV, builtinA, Nat.reduceLT, Nat.reduceEqDiff, Nat.reduceAdd, Nat.reduceSub, Nat.reduceMul, ↓reduceIte, reduceCtorEq, r1, b1, a1, s1, YE_normal])
    have g5l : (S4.set S.n (.cells [v'] 26 0)).get l = some L2 := by
      rw [get_set_ne _ hlt4 (by omega), hnb _ (by omega)]; exact g2l
    rw [← hL2] at g5l
    refine ⟨_, _, _, _, _, _, _, g5l, ?_⟩
    have hlt5 := lt_of_get g5l
    have hok5 : (S4.set S.n (.cells [v'] 26 0)).ok := by rw [ok_set_iff]; exact a3.ok
    refine ⟨by rw [ok_set_iff]; exact hok5, ?_, ?_, ?_, ?_, ?_, v', ?_, ?_⟩
    · rw [set_mono, set_mono, a3.mono, m2, h2]
    · rw [set_n, set_n]; omega
    · intro i hi
      rw [get_set_ne _ hlt5 (by omega), get_set_ne _ hlt4 (by omega), hnb _ (by omega), g2 _ (by omega), h4 i hi]
    · rw [get_set_ne _ hlt5 (by omega), get_set_ne _ hlt4 (by omega), hnb _ (by omega), g2 _ (by omega), h5]
    · rw [get_set_same _ hok5 hlt5 rfl, hloop]
    · rw [get_set_ne _ hlt5 (by omega), get_set_same _ a3.ok hlt4 rfl]
    · have : iv (xs.take (k + 1)) = iv (xs.take k) ++ [.int .i64 xs[k]] := by rw [List.take_succ_eq_append_getElem hk]; unfold iv; rw [List.map_append]; rfl
      rw [this]
      refine a2.same fun b hb => ?_
      have := (a2.base hb).1
      rw [get_set_ne _ hlt5 (by omega), get_set_ne _ hlt4 (by omega)]
  · rintro v S' ⟨rfl, h1, h2, h3, h4, h5, h6, v, h7, hM⟩
    have hl' := h6.trans hloop
    have hlt := lt_of_get hl'
    refine After_none hl' (by simp) ?_
    generalize AObj.loop LoopState.exhausted _ _ _ _ _ _ = L2
    have hd2 : (S'.set l L2).get (S.n + 1) = some (.defd true) := by rw [get_set_ne _ hlt (by omega)]; exact h5
    have hdlt := lt_of_get hd2
    have hc3 : ((S'.set l L2).set (S.n + 1) (.defd false)).get S.n = some (.cells [v] 26 0) := by
      rw [get_set_ne _ hdlt (by omega), get_set_ne _ hlt (by omega)]; exact h7
    have hc2 : (S'.set l L2).get S.n = some (.cells [v] 26 0) := by rw [get_set_ne _ hlt (by omega)]; exact h7
    have r1 := load_one (o := 0) und26 info26 rfl hc2
    simp only [List.getElem?_cons_zero] at r1
    repeat (first | with_reducible (first | refine W_seq ?_ | refine W_block ?_ | refine W_scope ?_ | refine W_regionV hTT ?_ | refine W_condV ?_ | refine W_ret ?_ | refine W_exit ?_ | refine W_skip ?_ | refine W_label ?_ | refine W_drawV hTT (by kernel_rfl) ?_) | simp only [H0, J86, J87, und3, und4, und22, und26, und29, und45, und64, info3, info4, info22, info26, info29, info45, info64, info50, und50, aggT, gv, dstAt, aop, evalsA, partsA, evalO, updO, ofArgs, binV, intBin, unV, mmV, builtinA, Nat.reduceLT, Nat.reduceEqDiff, Nat.reduceAdd, Nat.reduceSub, Nat.reduceMul, ↓reduceIte, reduceCtorEq, r1])
    refine RetQ_defd hd2 (.inr rfl) ?_
    simp only [H0, J86, J87, und3, und4, und22, und26, und29, und45, und64, info3, info4, info22, info26, info29, info45, info64, info50, und50, aggT, gv, dstAt, aop, evalsA, partsA, evalO, updO, ofArgs, binV, intBin, unV, mmV, builtinA, Nat.reduceLT, Nat.reduceEqDiff, Nat.reduceAdd, Nat.reduceSub, Nat.reduceMul, ↓reduceIte, reduceCtorEq]
    refine ⟨?_, ?_⟩
    · rw [List.take_length] at hM
      refine (hM.mono (by omega)).same fun b hb => ?_
      have := (hM.base hb).1
      rw [get_set_ne _ hdlt (by omega), get_set_ne _ hlt (by omega)]
    · refine ⟨by rw [ok_set_iff, ok_set_iff]; exact h1, by rw [set_n, set_n]; omega, fun i hi => ?_, by rw [set_mono, set_mono]; exact h2⟩
      rw [get_set_ne _ hdlt (by omega), get_set_ne _ hlt (by omega), h4 i hi]
/-- Collect, of Values -/
theorem collect_call {S : St} (hok : S.ok) {bl : Nat} {va : Value} {xs : List Int} (hl : S.get bl = some (.cells [va] 26 0)) (hx : Sl S 1 va (iv xs) xs.length) (hn : xs.length < 1000) :
    CallW PP 68 [.func (.func 70) #[] #[.pointer (some ⟨bl, 0, none⟩)]] S (fun v S' => Mine S' 3 1 S.n v (iv xs) xs.length ∧ Ext S S') := by
  refine CallW_of hTT fn68 rfl (by simp [Tryz.f68]) ?_
  unfold Tryz.f68
  repeat (first | with_reducible (first | refine W_seq ?_ | refine W_block ?_ | refine W_scope ?_ | refine W_regionV hTT ?_ | refine W_condV ?_ | refine W_ret ?_ | refine W_exit ?_ | refine W_skip ?_ | refine W_label ?_ | refine W_drawV hTT (by kernel_rfl) ?_) | simp only [H0, J86, J87, und3, und4, und22, und26, und29, und45, und64, info3, info4, info22, info26, info29, info45, info64, info50, und50, aggT, gv, dstAt, aop, evalsA, partsA, evalO, updO, ofArgs, binV, intBin, unV, mmV, builtinA, Nat.reduceLT, Nat.reduceEqDiff, Nat.reduceAdd, Nat.reduceSub, Nat.reduceMul, ↓reduceIte, reduceCtorEq])
  refine VCall_intro (appendSeq_call hok hl hx hn) ?_
  rintro v S' ⟨hM, hE⟩
  repeat (first | with_reducible (first | refine W_seq ?_ | refine W_block ?_ | refine W_scope ?_ | refine W_regionV hTT ?_ | refine W_condV ?_ | refine W_ret ?_ | refine W_exit ?_ | refine W_skip ?_ | refine W_label ?_ | refine W_drawV hTT (by kernel_rfl) ?_) | simp only [H0, J86, J87, und3, und4, und22, und26, und29, und45, und64, info3, info4, info22, info26, info29, info45, info64, info50, und50, aggT, gv, dstAt, aop, evalsA, partsA, evalO, updO, ofArgs, binV, intBin, unV, mmV, builtinA, Nat.reduceLT, Nat.reduceEqDiff, Nat.reduceAdd, Nat.reduceSub, Nat.reduceMul, ↓reduceIte, reduceCtorEq])
  exact ⟨hM, hE⟩
/-- Sorted, of Values: the numbers in some order -/
theorem sortedOf_call {S : St} (hok : S.ok) {bl : Nat} {va : Value} {xs : List Int} (hl : S.get bl = some (.cells [va] 26 0)) (hx : Sl S 1 va (iv xs) xs.length) (hn : xs.length ≤ 12) (hn0 : 0 < xs.length) :
    CallW PP 49 [.func (.func 70) #[] #[.pointer (some ⟨bl, 0, none⟩)]] S (fun v S' => (∃ ys : List Int, ys.Perm xs ∧ Mine S' 3 1 S.n v (iv ys) xs.length) ∧ Ext S S') := by
  refine CallW_of hTT fn49 rfl (by simp [Tryz.f49]) ?_
  unfold Tryz.f49
  repeat (first | with_reducible (first | refine W_seq ?_ | refine W_block ?_ | refine W_scope ?_ | refine W_regionV hTT ?_ | refine W_condV ?_ | refine W_ret ?_ | refine W_exit ?_ | refine W_skip ?_ | refine W_label ?_ | refine W_drawV hTT (by kernel_rfl) ?_) | simp only [H0, J86, J87, und3, und4, und22, und26, und29, und45, und64, info3, info4, info22, info26, info29, info45, info64, info50, und50, aggT, gv, dstAt, aop, evalsA, partsA, evalO, updO, ofArgs, binV, intBin, unV, mmV, builtinA, Nat.reduceLT, Nat.reduceEqDiff, Nat.reduceAdd, Nat.reduceSub, Nat.reduceMul, ↓reduceIte, reduceCtorEq])
  refine VCall_intro (collect_call hok hl hx (by omega)) ?_
  rintro v S1 ⟨hM, hE⟩
  rcases hM with ⟨_, _, h0⟩ | ⟨b, rfl, hlo, hget, hlen⟩
  · omega
  · have hR : RowW S1 b (.slice (some ⟨b, 0, none⟩) xs.length BIG) xs := ⟨⟨BIG, 1, rfl, .inr ⟨rfl, rfl⟩, hget, .inr rfl⟩⟩
    repeat (first | with_reducible (first | refine W_seq ?_ | refine W_block ?_ | refine W_scope ?_ | refine W_regionV hTT ?_ | refine W_condV ?_ | refine W_ret ?_ | refine W_exit ?_ | refine W_skip ?_ | refine W_label ?_ | refine W_drawV hTT (by kernel_rfl) ?_) | simp only [H0, J86, J87, und3, und4, und22, und26, und29, und45, und64, info3, info4, info22, info26, info29, info45, info64, info50, und50, aggT, gv, dstAt, aop, evalsA, partsA, evalO, updO, ofArgs, binV, intBin, unV, mmV, builtinA, Nat.reduceLT, Nat.reduceEqDiff, Nat.reduceAdd, Nat.reduceSub, Nat.reduceMul, ↓reduceIte, reduceCtorEq])
    refine VCall_intro (sort_call hE.ok hR hn) ?_
    rintro v S2 ⟨rfl, ⟨ys, hp, hR2⟩, h1, h2, h3, h4⟩
    repeat (first | with_reducible (first | refine W_seq ?_ | refine W_block ?_ | refine W_scope ?_ | refine W_regionV hTT ?_ | refine W_condV ?_ | refine W_ret ?_ | refine W_exit ?_ | refine W_skip ?_ | refine W_label ?_ | refine W_drawV hTT (by kernel_rfl) ?_) | simp only [H0, J86, J87, und3, und4, und22, und26, und29, und45, und64, info3, info4, info22, info26, info29, info45, info64, info50, und50, aggT, gv, dstAt, aop, evalsA, partsA, evalO, updO, ofArgs, binV, intBin, unV, mmV, builtinA, Nat.reduceLT, Nat.reduceEqDiff, Nat.reduceAdd, Nat.reduceSub, Nat.reduceMul, ↓reduceIte, reduceCtorEq])
    obtain ⟨⟨c, g', hc1, hc2, hg1, hg2⟩⟩ := hR2
    have hyl := hp.length_eq
    simp only [Value.slice.injEq, true_and] at hc1
    obtain ⟨_, rfl⟩ := hc1
    rcases hc2 with ⟨hc2, _⟩ | ⟨_, rfl⟩
    · omega
    · exact ⟨⟨ys, hp, .inr ⟨b, rfl, by omega, hg1, by rw [iv_len, hyl, Nat.mul_one]⟩⟩, ⟨h1, by rw [h2]; exact hE.n, fun i hi => by rw [h4 i (by omega), hE.same i hi], by rw [h3, hE.mono]⟩⟩
theorem fn27 : TT.fn 27 = some Tryz.f27 := by kernel_rfl
/-- lack: some number -/
theorem lack_call {S : St} (hok : S.ok) {va : Value} {xs : List Int} (hpl : Plain va xs.length) (hx : Sl S 1 va (iv xs) xs.length) (hn : xs.length ≤ 12) {k : Nat} (hk : k ≤ xs.length) (hn0 : 0 < xs.length) :
    CallW PP 27 [va, .int .i64 k] S (fun v S' => (∃ r, v = .int .i64 r) ∧ Ext S S') := by
  refine CallW_of hTT fn27 rfl (by simp [Tryz.f27]) ?_
  unfold Tryz.f27
  have e2 : ((2 : Int) = 0) = False := by simp
  repeat (first | with_reducible (first | refine W_seq ?_ | refine W_block ?_ | refine W_scope ?_ | refine W_regionV hTT ?_ | refine W_condV ?_ | refine W_ret ?_ | refine W_exit ?_ | refine W_skip ?_ | refine W_label ?_ | refine W_drawV hTT (by kernel_rfl) ?_) | simp only [H0, J86, J87, und3, und4, und22, und26, und29, und45, und64, info3, info4, info22, info26, info29, info45, info64, info50, und50, aggT, gv, dstAt, aop, evalsA, partsA, evalO, updO, ofArgs, binV, intBin, unV, mmV, builtinA, Nat.reduceLT, Nat.reduceEqDiff, Nat.reduceAdd, Nat.reduceSub, Nat.reduceMul, ↓reduceIte, reduceCtorEq])
  refine VCall_intro (values_call hpl) ?_
  rintro v S1 ⟨rfl, rfl⟩
  repeat (first | with_reducible (first | refine W_seq ?_ | refine W_block ?_ | refine W_scope ?_ | refine W_regionV hTT ?_ | refine W_condV ?_ | refine W_ret ?_ | refine W_exit ?_ | refine W_skip ?_ | refine W_label ?_ | refine W_drawV hTT (by kernel_rfl) ?_) | simp only [H0, J86, J87, und3, und4, und22, und26, und29, und45, und64, info3, info4, info22, info26, info29, info45, info64, info50, und50, aggT, gv, dstAt, aop, evalsA, partsA, evalO, updO, ofArgs, binV, intBin, unV, mmV, builtinA, Nat.reduceLT, Nat.reduceEqDiff, Nat.reduceAdd, Nat.reduceSub, Nat.reduceMul, ↓reduceIte, reduceCtorEq])
  have hE1 : Ext S (S.push (.cells [va] 26 0)) := (Ext.refl hok).push _
  refine VCall_intro (sortedOf_call hE1.ok (get_push_new _ rfl) (hx.extd hE1) hn hn0) ?_
  rintro v S2 ⟨⟨ys, hp, hM⟩, hE2⟩
  have hyl := hp.length_eq
  obtain ⟨u, u1, u2, _⟩ := hM.sl.cut (T := TT) (ty := 26) (lo := 0) (hi := k) (l := none) (r := some (.int .i64 k)) und26 info3 rfl (by omega) (.inl ⟨rfl, rfl⟩) (.inr ⟨.i64, rfl⟩) (by omega) hk hM.plain
  have hu : ((iv ys).take (k * 1)).drop (0 * 1) = iv (ys.take k) := by simp [iv, List.map_take]
  have hkl : (ys.take k).length = k := by rw [List.length_take]; omega
  rw [hu, Nat.sub_zero, ← hkl] at u2
  rw [hkl] at u2
  have u3 : Sl S2 1 u (iv (ys.take k)) (ys.take k).length := by rw [hkl]; exact u2
  repeat (first | with_reducible (first | refine W_seq ?_ | refine W_block ?_ | refine W_scope ?_ | refine W_regionV hTT ?_ | refine W_condV ?_ | refine W_ret ?_ | refine W_exit ?_ | refine W_skip ?_ | refine W_label ?_ | refine W_drawV hTT (by kernel_rfl) ?_) | simp only [H0, J86, J87, und3, und4, und22, und26, und29, und45, und64, info3, info4, info22, info26, info29, info45, info64, info50, und50, aggT, gv, dstAt, aop, evalsA, partsA, evalO, updO, ofArgs, binV, intBin, unV, mmV, builtinA, Nat.reduceLT, Nat.reduceEqDiff, Nat.reduceAdd, Nat.reduceSub, Nat.reduceMul, ↓reduceIte, reduceCtorEq, e2, u1])
  refine VCall_intro (sum_call u3 (by omega)) ?_
  rintro v3 S3 ⟨⟨r, rfl⟩, rfl⟩
  repeat (first | with_reducible (first | refine W_seq ?_ | refine W_block ?_ | refine W_scope ?_ | refine W_regionV hTT ?_ | refine W_condV ?_ | refine W_ret ?_ | refine W_exit ?_ | refine W_skip ?_ | refine W_label ?_ | refine W_drawV hTT (by kernel_rfl) ?_) | simp only [H0, J86, J87, und3, und4, und22, und26, und29, und45, und64, info3, info4, info22, info26, info29, info45, info64, info50, und50, aggT, gv, dstAt, aop, evalsA, partsA, evalO, updO, ofArgs, binV, intBin, unV, mmV, builtinA, Nat.reduceLT, Nat.reduceEqDiff, Nat.reduceAdd, Nat.reduceSub, Nat.reduceMul, ↓reduceIte, reduceCtorEq, e2, u1])
  exact ⟨⟨_, rfl⟩, hE1.trans hE2⟩
end Go.Proofs.Sz
end
/- part Zg -/
section
namespace Go.Proofs.Sz
open Go Go.Ax Go.Proofs Go.RowKit
theorem fn11 : TT.fn 11 = some Tryz.f11 := by kernel_rfl
/-- Contest's own store: the table and what is left -/
structure CSt (S S' : St) (n ba bl bd : Nat) (bs : List Nat) (M : Nat → Nat → Int) (ys : List Int) : Prop where
  ext : Ext S S'
  lo : S.n ≤ ba ∧ S.n ≤ bl ∧ S.n ≤ bd
  tab : S'.get ba = some (.cells (bs.map (rowv n)) 26 0)
  len : bs.length = n
  rows : OwnR S' S.n n 3 bs M
  box : S'.get bl = some (.cells [.slice (some ⟨bd, 0, none⟩) n BIG] 26 0)
  left : S'.get bd = some (.cells (iv ys) 3 1)
  llen : ys.length = n
theorem CSt.more {S S' S'' : St} {n ba bl bd : Nat} {bs : List Nat} {M : Nat → Nat → Int} {ys : List Int} (h : CSt S S' n ba bl bd bs M ys) (hE : Ext S' S'') : CSt S S'' n ba bl bd bs M ys :=
  ⟨h.ext.trans hE, h.lo, hE.get h.tab, h.len, h.rows.keep fun i hi => hE.same _ (lt_of_get (h.rows.get i hi)), hE.get h.box, hE.get h.left, h.llen⟩
theorem CSt.setM {S S' : St} {n ba bl bd : Nat} {bs : List Nat} {M : Nat → Nat → Int} {ys : List Int} (h : CSt S S' n ba bl bd bs M ys) {i j : Nat} (hi : i < bs.length) (hj : j < n) (x : Int) :
    ∃ S'', storeA TT S' 3 (.int .i64 x) (.pointer (some ⟨bs[i], j, none⟩)) = some S'' ∧ CSt S S'' n ba bl bd bs (setM M i j x) ys ∧ ∀ k, (∀ i (h : i < bs.length), bs[i] ≠ k) → k ≠ bd → S''.get k = S'.get k := by
  obtain ⟨s1, hR⟩ := h.rows.store (T := TT) h.ext.ok info3 hi hj x
  have hg := h.rows.get i hi
  have hl := lt_of_get hg
  refine ⟨_, s1, ⟨h.ext.set _ (h.rows.lo i hi) hl, h.lo, ?_, h.len, hR, ?_, ?_, h.llen⟩, fun k hk _ => get_set_ne _ hl (fun e => hk i hi e.symm)⟩
  · rw [get_set_ne _ hl (fun e => by have := h.tab; rw [e, hg] at this; simp at this)]; exact h.tab
  · rw [get_set_ne _ hl (fun e => by have := h.box; rw [e, hg] at this; simp at this)]; exact h.box
  · rw [get_set_ne _ hl (fun e => by have := h.left; rw [e, hg] at this; simp at this)]; exact h.left
theorem CSt.setL {S S' : St} {n ba bl bd : Nat} {bs : List Nat} {M : Nat → Nat → Int} {ys : List Int} (h : CSt S S' n ba bl bd bs M ys) {i : Nat} (hi : i < n) (x : Int) :
    ∃ S'', storeA TT S' 3 (.int .i64 x) (.pointer (some ⟨bd, i, none⟩)) = some S'' ∧ CSt S S'' n ba bl bd bs M (ys.set i x) ∧ ∀ k, (∀ i (h : i < bs.length), bs[i] ≠ k) → k ≠ bd → S''.get k = S'.get k := by
  have hl := lt_of_get h.left
  have s1 := store_one (T := TT) (v := .int .i64 x) (o := i) info3 h.left rfl rfl (by rw [iv_len, h.llen]; exact hi)
  refine ⟨_, s1, ⟨h.ext.set _ h.lo.2.2 hl, h.lo, ?_, h.len, h.rows.keep fun k hk => ?_, ?_, ?_, by rw [List.length_set]; exact h.llen⟩, fun k _ hk => get_set_ne _ hl hk⟩
  · rw [get_set_ne _ hl (fun e => by have := h.tab; rw [e, h.left] at this; simp at this)]; exact h.tab
  · rw [get_set_ne _ hl (fun e => by have := h.rows.get k hk; rw [e, h.left] at this; simp at this)]
  · rw [get_set_ne _ hl (fun e => by have := h.box; rw [e, h.left] at this; simp at this)]; exact h.box
  · rw [get_set_same _ h.ext.ok hl rfl]
    congr 2
    simp [iv, List.map_set]
/-- a table that a call has made -/
def Tabl (S' : St) (lo n : Nat) (v : Value) : Prop := v = .slice none 0 0 ∨ ∃ ba bs M, v = .slice (some ⟨ba, 0, none⟩) n n ∧ S'.get ba = some (.cells (bs.map (rowv n)) 26 0) ∧ bs.length = n ∧ OwnR S' lo n 3 bs M
theorem al26 (S : St) : allocA TT S 26 = some (.pointer (some ⟨S.n, 0, none⟩), S.push (.cells [.slice none 0 0] 26 0)) := by
  simp only [allocA, info26, boxA, Value.cells]
  rfl
set_option maxHeartbeats 4000000 in
/-- Contest: no error, and a table of its own -/
theorem build_call {S : St} (hok : S.ok) {b0 c0 : Nat} {xs : List Int} (hx : Sl S 1 (.slice (some ⟨b0, 0, none⟩) xs.length c0) (iv xs) xs.length) (hn : xs.length ≤ 12) (hn0 : 0 < xs.length) (hb : ∀ x ∈ xs, 0 ≤ x ∧ x ≤ 30) :
    CallW PP 11 [.slice (some ⟨b0, 0, none⟩) xs.length c0] S (fun v S' => ∃ a k, v = .tuple #[a, .int .i64 k, .int .i64 0] ∧ Tabl S' S.n xs.length a ∧ Ext S S') := by
  have hpl : Plain (.slice (some ⟨b0, 0, none⟩) xs.length c0) xs.length := .mk
  generalize hva : Value.slice (some ⟨b0, 0, none⟩) xs.length c0 = va at hpl
  have hla := hx.len (T := TT) und26
  rw [hva] at hla
  refine CallW_of hTT fn11 rfl (by simp [Tryz.f11]) ?_
  unfold Tryz.f11
  have e2 : ((2 : Int) = 0) = False := by simp
  repeat (first | with_reducible (first | refine W_seq ?_ | refine W_block ?_ | refine W_scope ?_ | refine W_regionV hTT ?_ | refine W_condV ?_ | refine W_ret ?_ | refine W_exit ?_ | refine W_skip ?_ | refine W_label ?_ | refine W_drawV hTT (by kernel_rfl) ?_) | simp only [H0, J86, J87, und3, und4, und22, und26, und29, und45, und64, info3, info4, info22, info26, info29, info45, info64, info50, und50, aggT, gv, dstAt, aop, evalsA, partsA, evalO, updO, ofArgs, binV, intBin, unV, mmV, builtinA, Nat.reduceLT, Nat.reduceEqDiff, Nat.reduceAdd, Nat.reduceSub, Nat.reduceMul, ↓reduceIte, reduceCtorEq])
  refine VCall_intro (areNumbers_yes (by rw [hva] at hx; exact hx) (by omega) hb) ?_
  rintro v S1 ⟨rfl, rfl⟩
  repeat (first | with_reducible (first | refine W_seq ?_ | refine W_block ?_ | refine W_scope ?_ | refine W_regionV hTT ?_ | refine W_condV ?_ | refine W_ret ?_ | refine W_exit ?_ | refine W_skip ?_ | refine W_label ?_ | refine W_drawV hTT (by kernel_rfl) ?_) | simp only [H0, J86, J87, und3, und4, und22, und26, und29, und45, und64, info3, info4, info22, info26, info29, info45, info64, info50, und50, aggT, gv, dstAt, aop, evalsA, partsA, evalO, updO, ofArgs, binV, intBin, unV, mmV, builtinA, Nat.reduceLT, Nat.reduceEqDiff, Nat.reduceAdd, Nat.reduceSub, Nat.reduceMul, ↓reduceIte, reduceCtorEq, hla])
  refine VCall_intro (sum_call (by rw [hva] at hx; exact hx) (by omega)) ?_
  rintro v S2 ⟨⟨r, rfl⟩, rfl⟩
  repeat (first | with_reducible (first | refine W_seq ?_ | refine W_block ?_ | refine W_scope ?_ | refine W_regionV hTT ?_ | refine W_condV ?_ | refine W_ret ?_ | refine W_exit ?_ | refine W_skip ?_ | refine W_label ?_ | refine W_drawV hTT (by kernel_rfl) ?_) | simp only [H0, J86, J87, und3, und4, und22, und26, und29, und45, und64, info3, info4, info22, info26, info29, info45, info64, info50, und50, aggT, gv, dstAt, aop, evalsA, partsA, evalO, updO, ofArgs, binV, intBin, unV, mmV, builtinA, Nat.reduceLT, Nat.reduceEqDiff, Nat.reduceAdd, Nat.reduceSub, Nat.reduceMul, ↓reduceIte, reduceCtorEq, hla, e2])
  refine VIf_split (fun hb1 => ?_) (fun hb1 => ?_)
  · repeat (first | with_reducible (first | refine W_seq ?_ | refine W_block ?_ | refine W_scope ?_ | refine W_regionV hTT ?_ | refine W_condV ?_ | refine W_ret ?_ | refine W_exit ?_ | refine W_skip ?_ | refine W_label ?_ | refine W_drawV hTT (by kernel_rfl) ?_) | simp only [H0, J86, J87, und3, und4, und22, und26, und29, und45, und64, info3, info4, info22, info26, info29, info45, info64, info50, und50, aggT, gv, dstAt, aop, evalsA, partsA, evalO, updO, ofArgs, binV, intBin, unV, mmV, builtinA, Nat.reduceLT, Nat.reduceEqDiff, Nat.reduceAdd, Nat.reduceSub, Nat.reduceMul, ↓reduceIte, reduceCtorEq, hla])
    exact ⟨_, _, rfl, .inl rfl, Ext.refl hok⟩
  repeat (first | with_reducible (first | refine W_seq ?_ | refine W_scope ?_ | refine W_regionV hTT ?_ | refine W_condV ?_ | refine W_ret ?_ | refine W_exit ?_ | refine W_skip ?_ | refine W_label ?_ | refine W_drawV hTT (by kernel_rfl) ?_) | simp only [H0, J86, J87, und3, und4, und22, und26, und29, und45, und64, info3, info4, info22, info26, info29, info45, info64, info50, und50, aggT, gv, dstAt, aop, evalsA, partsA, evalO, updO, ofArgs, binV, intBin, unV, mmV, builtinA, Nat.reduceLT, Nat.reduceEqDiff, Nat.reduceAdd, Nat.reduceSub, Nat.reduceMul, ↓reduceIte, reduceCtorEq, hla])
  refine W_block ?_
  refine W_loopI (fun m τ ds S' => Ext S2 S' ∧ ds = [] ∧ ∃ k : Nat, m = xs.length + 1 - k ∧ 1 ≤ k ∧ k ≤ xs.length + 1 ∧ τ 0 = va ∧ τ 5 = .int .i64 xs.length ∧ τ 6 = .int .i64 k) xs.length ?_ ?_
  · refine ⟨Ext.refl hok, rfl, 1, by omega, by omega, by omega, ?_, ?_, ?_⟩ <;> first | rfl | simp only [H0, J86, J87, und3, und4, und22, und26, und29, und45, und64, info3, info4, info22, info26, info29, info45, info64, info50, und50, aggT, gv, dstAt, aop, evalsA, partsA, evalO, updO, ofArgs, binV, intBin, unV, mmV, builtinA, Nat.reduceLT, Nat.reduceEqDiff, Nat.reduceAdd, Nat.reduceSub, Nat.reduceMul, ↓reduceIte, reduceCtorEq]
  rintro m τ ds S1 ⟨hE1, rfl, k, rfl, hk0, hk, t0, t5, t6⟩
  have hw := wrap_succ (k := k) (by omega)
  by_cases hlt : k ≤ xs.length
  · have e1 : decide ((k : Int) ≤ xs.length) = true := by simpa using hlt
    repeat (first | with_reducible (first | refine W_seq ?_ | refine W_block ?_ | refine W_scope ?_ | refine W_regionV hTT ?_ | refine W_condV ?_ | refine W_ret ?_ | refine W_exit ?_ | refine W_skip ?_ | refine W_label ?_ | refine W_drawV hTT (by kernel_rfl) ?_) | simp only [H0, J86, J87, und3, und4, und22, und26, und29, und45, und64, info3, info4, info22, info26, info29, info45, info64, info50, und50, aggT, gv, dstAt, aop, evalsA, partsA, evalO, updO, ofArgs, binV, intBin, unV, mmV, builtinA, Nat.reduceLT, Nat.reduceEqDiff, Nat.reduceAdd, Nat.reduceSub, Nat.reduceMul, ↓reduceIte, reduceCtorEq, t0, t5, t6, e1])
    refine VCall_intro (lack_call hE1.ok hpl (by rw [hva] at hx; exact hx.extd hE1) hn hlt hn0) ?_
    rintro v S3 ⟨⟨r2, rfl⟩, hE3⟩
    repeat (first | with_reducible (first | refine W_seq ?_ | refine W_block ?_ | refine W_scope ?_ | refine W_regionV hTT ?_ | refine W_condV ?_ | refine W_ret ?_ | refine W_exit ?_ | refine W_skip ?_ | refine W_label ?_ | refine W_drawV hTT (by kernel_rfl) ?_) | simp only [H0, J86, J87, und3, und4, und22, und26, und29, und45, und64, info3, info4, info22, info26, info29, info45, info64, info50, und50, aggT, gv, dstAt, aop, evalsA, partsA, evalO, updO, ofArgs, binV, intBin, unV, mmV, builtinA, Nat.reduceLT, Nat.reduceEqDiff, Nat.reduceAdd, Nat.reduceSub, Nat.reduceMul, ↓reduceIte, reduceCtorEq, t0, t5, t6])
    refine VIf_split (fun hb2 => ?_) (fun hb2 => ?_)
    · repeat (first | with_reducible (first | refine W_seq ?_ | refine W_block ?_ | refine W_scope ?_ | refine W_regionV hTT ?_ | refine W_condV ?_ | refine W_ret ?_ | refine W_exit ?_ | refine W_skip ?_ | refine W_label ?_ | refine W_drawV hTT (by kernel_rfl) ?_) | simp only [H0, J86, J87, und3, und4, und22, und26, und29, und45, und64, info3, info4, info22, info26, info29, info45, info64, info50, und50, aggT, gv, dstAt, aop, evalsA, partsA, evalO, updO, ofArgs, binV, intBin, unV, mmV, builtinA, Nat.reduceLT, Nat.reduceEqDiff, Nat.reduceAdd, Nat.reduceSub, Nat.reduceMul, ↓reduceIte, reduceCtorEq, t0, t5, t6])
      exact ⟨_, _, rfl, .inl rfl, hE1.trans hE3⟩
    · repeat (first | with_reducible (first | refine W_seq ?_ | refine W_block ?_ | refine W_scope ?_ | refine W_regionV hTT ?_ | refine W_condV ?_ | refine W_ret ?_ | refine W_exit ?_ | refine W_skip ?_ | refine W_label ?_ | refine W_drawV hTT (by kernel_rfl) ?_) | simp only [H0, J86, J87, und3, und4, und22, und26, und29, und45, und64, info3, info4, info22, info26, info29, info45, info64, info50, und50, aggT, gv, dstAt, aop, evalsA, partsA, evalO, updO, ofArgs, binV, intBin, unV, mmV, builtinA, Nat.reduceLT, Nat.reduceEqDiff, Nat.reduceAdd, Nat.reduceSub, Nat.reduceMul, ↓reduceIte, reduceCtorEq, t0, t5, t6, hw])
      refine LoopQ_intro (xs.length + 1 - (k + 1)) (by omega) ⟨hE1.trans hE3, rfl, k + 1, rfl, by omega, by omega, by simp only [H0, J86, J87, und3, und4, und22, und26, und29, und45, und64, info3, info4, info22, info26, info29, info45, info64, info50, und50, aggT, gv, dstAt, aop, evalsA, partsA, evalO, updO, ofArgs, binV, intBin, unV, mmV, builtinA, Nat.reduceLT, Nat.reduceEqDiff, Nat.reduceAdd, Nat.reduceSub, Nat.reduceMul, ↓reduceIte, reduceCtorEq, t0], by simp only [H0, J86, J87, und3, und4, und22, und26, und29, und45, und64, info3, info4, info22, info26, info29, info45, info64, info50, und50, aggT, gv, dstAt, aop, evalsA, partsA, evalO, updO, ofArgs, binV, intBin, unV, mmV, builtinA, Nat.reduceLT, Nat.reduceEqDiff, Nat.reduceAdd, Nat.reduceSub, Nat.reduceMul, ↓reduceIte, reduceCtorEq, t5], by simp only [H0, J86, J87, und3, und4, und22, und26, und29, und45, und64, info3, info4, info22, info26, info29, info45, info64, info50, und50, aggT, gv, dstAt, aop, evalsA, partsA, evalO, updO, ofArgs, binV, intBin, unV, mmV, builtinA, Nat.reduceLT, Nat.reduceEqDiff, Nat.reduceAdd, Nat.reduceSub, Nat.reduceMul, ↓reduceIte, reduceCtorEq, t6, hw]⟩
  have e1 : decide ((k : Int) ≤ xs.length) = false := by simpa using hlt
  -- the table's rows
  have hmk := make_one (T := TT) (S := S1) (m := xs.length) (k := .i64) (k' := .i64) und22 info26 rfl rfl (by omega) (by omega)
  have hbn : lenOpA TT (S1.push (.cells (List.replicate xs.length (Value.slice none 0 0)) 26 0)) 22 (.slice (some ⟨S1.n, 0, none⟩) xs.length xs.length) = some (.int .i64 xs.length) := by simp [lenOpA, und22]
  repeat (first | with_reducible (first | refine W_seq ?_ | refine W_scope ?_ | refine W_regionV hTT ?_ | refine W_condV ?_ | refine W_ret ?_ | refine W_exit ?_ | refine W_skip ?_ | refine W_label ?_ | refine W_drawV hTT (by kernel_rfl) ?_) | simp only [H0, J86, J87, und3, und4, und22, und26, und29, und45, und64, info3, info4, info22, info26, info29, info45, info64, info50, und50, aggT, gv, dstAt, aop, evalsA, partsA, evalO, updO, ofArgs, binV, intBin, unV, mmV, builtinA, Nat.reduceLT, Nat.reduceEqDiff, Nat.reduceAdd, Nat.reduceSub, Nat.reduceMul, ↓reduceIte, reduceCtorEq, t0, t5, t6, e1, hmk, hbn])
  refine W_block ?_
  have hokA : (S1.push (.cells (List.replicate xs.length (Value.slice none 0 0)) 26 0)).ok := by rw [ok_push_iff]; exact hE1.ok
  have hn1 := hE1.n
  refine W_loopI (fun m τ ds S' => Ext S2 S' ∧ ds = [] ∧ ∃ (i : Nat) (bs : List Nat), m = xs.length - i ∧ i ≤ xs.length ∧ bs.length = i ∧ τ 0 = va ∧ τ 5 = .int .i64 xs.length ∧ τ 7 = .slice (some ⟨S1.n, 0, none⟩) xs.length xs.length ∧ τ 39 = .int .i64 xs.length ∧ τ 40 = .int .i64 i ∧
    S'.get S1.n = some (.cells (bs.map (rowv xs.length) ++ List.replicate (xs.length - i) (Value.slice none 0 0)) 26 0) ∧ OwnR S' S2.n xs.length 3 bs (fun _ _ => 0)) xs.length ?_ ?_
  · refine ⟨hE1.push _, rfl, 0, [], by omega, by omega, rfl, ?_, ?_, ?_, ?_, ?_, get_push_new _ rfl, ⟨by simp, by simp, by simp⟩⟩ <;> first | rfl | simp only [H0, J86, J87, und3, und4, und22, und26, und29, und45, und64, info3, info4, info22, info26, info29, info45, info64, info50, und50, aggT, gv, dstAt, aop, evalsA, partsA, evalO, updO, ofArgs, binV, intBin, unV, mmV, builtinA, Nat.reduceLT, Nat.reduceEqDiff, Nat.reduceAdd, Nat.reduceSub, Nat.reduceMul, ↓reduceIte, reduceCtorEq, t0, t5, t6]
  clear e1 hw t0 t5 t6 hbn
  rintro m τ ds S3 ⟨hE3, rfl, i, bs, rfl, hi, hbs, t0, t5, t7, t39, t40, htab, hR⟩
  have hw := wrap_succ (k := i) (by omega)
  by_cases hlt2 : i < xs.length
  · have e1 : decide ((i : Int) < xs.length) = true := by simpa using hlt2
    have hmk := make_one (T := TT) (S := S3) (m := xs.length) (k := .i64) (k' := .i64) und26 info3 rfl rfl (by omega) (by omega)
    rw [mrow_zero] at hmk
    have a1 := arr_index (T := TT) (b := S1.n) (c := xs.length) (k := .i64) und22 info26 rfl hlt2
    have hlt3 := lt_of_get htab
    have htab' : (S3.push (.cells (iv (mrow xs.length fun _ => 0)) 3 0)).get S1.n = some (.cells (bs.map (rowv xs.length) ++ List.replicate (xs.length - i) (Value.slice none 0 0)) 26 0) := by
      rw [get_push_ne _ (by omega)]; exact htab
    have s1 := store_one (T := TT) (v := rowv xs.length S3.n) (o := i) info26 htab' rfl rfl (by simp [hbs]; omega)
    have hset : (bs.map (rowv xs.length) ++ List.replicate (xs.length - i) (Value.slice none 0 0)).set i (rowv xs.length S3.n) = (bs ++ [S3.n]).map (rowv xs.length) ++ List.replicate (xs.length - (i + 1)) (Value.slice none 0 0) := by
      rw [List.set_append_right _ _ (by simp [hbs])]
      have : xs.length - i = (xs.length - (i + 1)) + 1 := by omega
      rw [this, List.replicate_succ]
      simp [hbs]
    rw [hset] at s1
    change storeA TT _ 26 (.slice (some ⟨S3.n, 0, none⟩) xs.length xs.length) _ = _ at s1
    have hokP : (S3.push (.cells (iv (mrow xs.length fun _ => 0)) 3 0)).ok := by rw [ok_push_iff]; exact hE3.ok
    repeat (first | with_reducible (first | refine W_seq ?_ | refine W_block ?_ | refine W_scope ?_ | refine W_regionV hTT ?_ | refine W_condV ?_ | refine W_ret ?_ | refine W_exit ?_ | refine W_skip ?_ | refine W_label ?_ | refine W_drawV hTT (by kernel_rfl) ?_) | simp only [H0, J86, J87, und3, und4, und22, und26, und29, und45, und64, info3, info4, info22, info26, info29, info45, info64, info50, und50, aggT, gv, dstAt, aop, evalsA, partsA, evalO, updO, ofArgs, binV, intBin, unV, mmV, builtinA, Nat.reduceLT, Nat.reduceEqDiff, Nat.reduceAdd, Nat.reduceSub, Nat.reduceMul, ↓reduceIte, reduceCtorEq, t0, t5, t7, t39, t40, e1, hmk, a1, s1, hw])
    refine LoopQ_intro (xs.length - (i + 1)) (by omega) ⟨(hE3.push _).set _ (by omega) (by rw [push_n]; omega), rfl, i + 1, bs ++ [S3.n], rfl, by omega, by simp [hbs], by simp only [H0, J86, J87, und3, und4, und22, und26, und29, und45, und64, info3, info4, info22, info26, info29, info45, info64, info50, und50, aggT, gv, dstAt, aop, evalsA, partsA, evalO, updO, ofArgs, binV, intBin, unV, mmV, builtinA, Nat.reduceLT, Nat.reduceEqDiff, Nat.reduceAdd, Nat.reduceSub, Nat.reduceMul, ↓reduceIte, reduceCtorEq, t0], by simp only [H0, J86, J87, und3, und4, und22, und26, und29, und45, und64, info3, info4, info22, info26, info29, info45, info64, info50, und50, aggT, gv, dstAt, aop, evalsA, partsA, evalO, updO, ofArgs, binV, intBin, unV, mmV, builtinA, Nat.reduceLT, Nat.reduceEqDiff, Nat.reduceAdd, Nat.reduceSub, Nat.reduceMul, ↓reduceIte, reduceCtorEq, t5], by simp only [H0, J86, J87, und3, und4, und22, und26, und29, und45, und64, info3, info4, info22, info26, info29, info45, info64, info50, und50, aggT, gv, dstAt, aop, evalsA, partsA, evalO, updO, ofArgs, binV, intBin, unV, mmV, builtinA, Nat.reduceLT, Nat.reduceEqDiff, Nat.reduceAdd, Nat.reduceSub, Nat.reduceMul, ↓reduceIte, reduceCtorEq, t7], by simp only [H0, J86, J87, und3, und4, und22, und26, und29, und45, und64, info3, info4, info22, info26, info29, info45, info64, info50, und50, aggT, gv, dstAt, aop, evalsA, partsA, evalO, updO, ofArgs, binV, intBin, unV, mmV, builtinA, Nat.reduceLT, Nat.reduceEqDiff, Nat.reduceAdd, Nat.reduceSub, Nat.reduceMul, ↓reduceIte, reduceCtorEq, t39], by simp only [H0, J86, J87, und3, und4, und22, und26, und29, und45, und64, info3, info4, info22, info26, info29, info45, info64, info50, und50, aggT, gv, dstAt, aop, evalsA, partsA, evalO, updO, ofArgs, binV, intBin, unV, mmV, builtinA, Nat.reduceLT, Nat.reduceEqDiff, Nat.reduceAdd, Nat.reduceSub, Nat.reduceMul, ↓reduceIte, reduceCtorEq, t40, hw], ?_, ?_⟩
    · exact get_set_same _ hokP (by rw [push_n]; omega) rfl
    · refine hR.more (fun _ => rfl) (fun j hj => ?_) (b := S3.n) ?_ hE3.n (fun j hj => ?_)
      · have hg := hR.get j hj
        have hl := lt_of_get hg
        rw [get_set_ne _ (by rw [push_n]; omega) (fun e => by rw [e, htab] at hg; simp at hg), get_push_ne _ (by omega)]
      · rw [get_set_ne _ (by rw [push_n]; omega) (by omega)]
        exact get_push_new _ rfl
      · have := lt_of_get (hR.get j hj)
        omega
  have e1 : decide ((i : Int) < xs.length) = false := by simpa using hlt2
  have hii : i = xs.length := by omega
  subst hii
  repeat (first | with_reducible (first | refine W_seq ?_ | refine W_block ?_ | refine W_scope ?_ | refine W_regionV hTT ?_ | refine W_condV ?_ | refine W_ret ?_ | refine W_exit ?_ | refine W_skip ?_ | refine W_label ?_ | refine W_drawV hTT (by kernel_rfl) ?_) | simp only [H0, J86, J87, und3, und4, und22, und26, und29, und45, und64, info3, info4, info22, info26, info29, info45, info64, info50, und50, aggT, gv, dstAt, aop, evalsA, partsA, evalO, updO, ofArgs, binV, intBin, unV, mmV, builtinA, Nat.reduceLT, Nat.reduceEqDiff, Nat.reduceAdd, Nat.reduceSub, Nat.reduceMul, ↓reduceIte, reduceCtorEq, t0, t5, t7, t39, t40, e1])
  rw [← hva]
  refine VCall_intro (clone_call hE3.ok (hx.extd hE3) hn0 (by omega)) ?_
  rintro v S4 ⟨⟨bd, hbd, rfl, hleft⟩, hE4⟩
  have hn3 := hE3.n
  have hn4 := hE4.n
  have s1 := store_one (T := TT) (S := S4.push (.cells [.slice none 0 0] 26 0)) (b := S4.n) (o := 0) (v := .slice (some ⟨bd, 0, none⟩) xs.length BIG) info26 (get_push_new _ rfl) rfl rfl (by simp)
  simp only [List.set_cons_zero] at s1
  have hbdlt := lt_of_get hleft
  generalize hS5 : (S4.push (.cells [.slice none 0 0] 26 0)).set S4.n (.cells [.slice (some ⟨bd, 0, none⟩) xs.length BIG] 26 0) = S5 at s1
  have hokP : (S4.push (.cells [.slice none 0 0] 26 0)).ok := by rw [ok_push_iff]; exact hE4.ok
  have hE5 : Ext S4 S5 := by
    rw [← hS5]
    exact ((Ext.refl hE4.ok).push _).set _ (Nat.le_refl _) (by rw [push_n]; omega)
  have hE35 := hE4.trans hE5
  have htab2 := hE35.get htab
  rw [Nat.sub_self, List.replicate_zero, List.append_nil] at htab2
  have hC : CSt S2 S5 xs.length S1.n S4.n bd bs (fun _ _ => 0) xs := ⟨hE3.trans hE35, ⟨by omega, by omega, by omega⟩, htab2, hbs, hR.keep fun i hi => hE35.same _ (lt_of_get (hR.get i hi)), by rw [← hS5]; exact get_set_same _ hokP (by rw [push_n]; omega) rfl, hE5.get hleft, rfl⟩
  have hwn : IntKind.i64.wrap ((xs.length : Int) - 1) = xs.length - 1 := wrap_id (by omega) (by omega)
  repeat (first | with_reducible (first | refine W_seq ?_ | refine W_scope ?_ | refine W_regionV hTT ?_ | refine W_condV ?_ | refine W_ret ?_ | refine W_exit ?_ | refine W_skip ?_ | refine W_label ?_ | refine W_drawV hTT (by kernel_rfl) ?_) | simp only [H0, J86, J87, und3, und4, und22, und26, und29, und45, und64, info3, info4, info22, info26, info29, info45, info64, info50, und50, aggT, gv, dstAt, aop, evalsA, partsA, evalO, updO, ofArgs, binV, intBin, unV, mmV, builtinA, Nat.reduceLT, Nat.reduceEqDiff, Nat.reduceAdd, Nat.reduceSub, Nat.reduceMul, ↓reduceIte, reduceCtorEq, t0, t5, t7, al26, s1, hwn])
  clear t0 t39 t40 hmk hw e1 s1 hS5 htab hleft hR hE5 hE35 htab2
  refine W_block ?_
  refine W_loopI (fun m τ ds S' => ds = [] ∧ τ 7 = .slice (some ⟨S1.n, 0, none⟩) xs.length xs.length ∧ τ 9 = .pointer (some ⟨S4.n, 0, none⟩) ∧ τ 10 = .int .i64 ((m : Int) - 1) ∧ m ≤ xs.length ∧ ∃ M ys, CSt S2 S' xs.length S1.n S4.n bd bs M ys) xs.length ?_ ?_
  · refine ⟨rfl, ?_, ?_, ?_, Nat.le_refl _, _, _, hC⟩ <;> first | rfl | simp only [H0, J86, J87, und3, und4, und22, und26, und29, und45, und64, info3, info4, info22, info26, info29, info45, info64, info50, und50, aggT, gv, dstAt, aop, evalsA, partsA, evalO, updO, ofArgs, binV, intBin, unV, mmV, builtinA, Nat.reduceLT, Nat.reduceEqDiff, Nat.reduceAdd, Nat.reduceSub, Nat.reduceMul, ↓reduceIte, reduceCtorEq, t7, hwn]
  clear t5 t7 hC hwn
  rintro m τ ds S6 ⟨rfl, t7, t9, t10, hm, M, ys, hC⟩
  cases m with
  | zero =>
    have e1 : decide ((((0 : Nat) : Int) - 1) ≥ 0) = false := rfl
    repeat (first | with_reducible (first | refine W_seq ?_ | refine W_block ?_ | refine W_scope ?_ | refine W_regionV hTT ?_ | refine W_condV ?_ | refine W_ret ?_ | refine W_exit ?_ | refine W_skip ?_ | refine W_label ?_ | refine W_drawV hTT (by kernel_rfl) ?_) | simp only [H0, J86, J87, und3, und4, und22, und26, und29, und45, und64, info3, info4, info22, info26, info29, info45, info64, info50, und50, aggT, gv, dstAt, aop, evalsA, partsA, evalO, updO, ofArgs, binV, intBin, unV, mmV, builtinA, Nat.reduceLT, Nat.reduceEqDiff, Nat.reduceAdd, Nat.reduceSub, Nat.reduceMul, ↓reduceIte, reduceCtorEq, t7, t9, t10, e1])
    exact ⟨_, _, rfl, .inr ⟨S1.n, bs, M, rfl, hC.tab, hC.len, hC.rows⟩, hC.ext⟩
  | succ p =>
    have hp1 : (((p + 1 : Nat) : Int) - 1) = p := by omega
    rw [hp1] at t10
    have e1 : decide ((p : Int) ≥ 0) = true := by simp
    have hwp : IntKind.i64.wrap ((p : Int) - 1) = p - 1 := wrap_id (by omega) (by omega)
    repeat (first | with_reducible (first | refine W_seq ?_ | refine W_scope ?_ | refine W_regionV hTT ?_ | refine W_condV ?_ | refine W_ret ?_ | refine W_exit ?_ | refine W_skip ?_ | refine W_label ?_ | refine W_drawV hTT (by kernel_rfl) ?_) | simp only [H0, J86, J87, und3, und4, und22, und26, und29, und45, und64, info3, info4, info22, info26, info29, info45, info64, info50, und50, aggT, gv, dstAt, aop, evalsA, partsA, evalO, updO, ofArgs, binV, intBin, unV, mmV, builtinA, Nat.reduceLT, Nat.reduceEqDiff, Nat.reduceAdd, Nat.reduceSub, Nat.reduceMul, ↓reduceIte, reduceCtorEq, t7, t9, t10, e1])
    refine W_cut (fun τ ds S' => ds = [] ∧ τ 7 = .slice (some ⟨S1.n, 0, none⟩) xs.length xs.length ∧ τ 9 = .pointer (some ⟨S4.n, 0, none⟩) ∧ τ 10 = .int .i64 p ∧ ∃ M ys, CSt S2 S' xs.length S1.n S4.n bd bs M ys) ?_ ?_
    · refine W_block ?_
      repeat (first | with_reducible (first | refine W_seq ?_ | refine W_block ?_ | refine W_scope ?_ | refine W_regionV hTT ?_ | refine W_condV ?_ | refine W_ret ?_ | refine W_exit ?_ | refine W_skip ?_ | refine W_label ?_ | refine W_drawV hTT (by kernel_rfl) ?_) | simp only [H0, J86, J87, und3, und4, und22, und26, und29, und45, und64, info3, info4, info22, info26, info29, info45, info64, info50, und50, aggT, gv, dstAt, aop, evalsA, partsA, evalO, updO, ofArgs, binV, intBin, unV, mmV, builtinA, Nat.reduceLT, Nat.reduceEqDiff, Nat.reduceAdd, Nat.reduceSub, Nat.reduceMul, ↓reduceIte, reduceCtorEq, t7, t9, t10, fnOk_func])
      refine VCall_intro (sorted_call hC.ext.ok (n := p) (by omega) (g := 30) (cs := [.pointer (some ⟨S4.n, 0, none⟩)]) ?_) ?_
      · intro S' hE' i hi
        have hC' := hC.more hE'
        exact (left_call hC'.box hC'.left hC'.llen (i := i) (by omega)).mono fun v S3 h => ⟨⟨_, h.1⟩, h.2⟩
      rintro v S7 ⟨⟨at', hat, hM7⟩, hE7⟩
      have hC7 := hC.more hE7
      have hfr : ∀ i (h : i < bs.length), bs[i] < S6.n := fun i h => lt_of_get (hC.rows.get i h)
      have hfd := lt_of_get hC.left
      have hal : at'.length = p := by rw [hat.length_eq, upto_len]
      have hlv := hM7.sl.len (T := TT) und26
      repeat (first | with_reducible (first | refine W_seq ?_ | refine W_scope ?_ | refine W_regionV hTT ?_ | refine W_condV ?_ | refine W_ret ?_ | refine W_exit ?_ | refine W_skip ?_ | refine W_label ?_ | refine W_drawV hTT (by kernel_rfl) ?_) | simp only [H0, J86, J87, und3, und4, und22, und26, und29, und45, und64, info3, info4, info22, info26, info29, info45, info64, info50, und50, aggT, gv, dstAt, aop, evalsA, partsA, evalO, updO, ofArgs, binV, intBin, unV, mmV, builtinA, Nat.reduceLT, Nat.reduceEqDiff, Nat.reduceAdd, Nat.reduceSub, Nat.reduceMul, ↓reduceIte, reduceCtorEq, t7, t9, t10, hlv])
      refine W_block ?_
      refine W_loopI (fun m τ ds S' => ds = [] ∧ ∃ (q : Nat) (M : Nat → Nat → Int) (ys : List Int), m = p - q ∧ q ≤ p ∧ τ 7 = .slice (some ⟨S1.n, 0, none⟩) xs.length xs.length ∧ τ 9 = .pointer (some ⟨S4.n, 0, none⟩) ∧ τ 10 = .int .i64 p ∧ τ 59 = v ∧ τ 60 = .int .i64 p ∧ τ 61 = .int .i64 q ∧ CSt S2 S' xs.length S1.n S4.n bd bs M ys ∧ Mine S' 3 1 S6.n v (iv at') p) p ?_ ?_
      · refine ⟨rfl, 0, M, ys, by omega, by omega, ?_, ?_, ?_, ?_, ?_, ?_, hC7, hM7⟩ <;> first | rfl | simp only [H0, J86, J87, und3, und4, und22, und26, und29, und45, und64, info3, info4, info22, info26, info29, info45, info64, info50, und50, aggT, gv, dstAt, aop, evalsA, partsA, evalO, updO, ofArgs, binV, intBin, unV, mmV, builtinA, Nat.reduceLT, Nat.reduceEqDiff, Nat.reduceAdd, Nat.reduceSub, Nat.reduceMul, ↓reduceIte, reduceCtorEq, t7, t9, t10]
      clear t7 t9 t10 hC7 hM7 hlv
      rintro m τ ds S8 ⟨rfl, q, M8, ys8, rfl, hq, t7, t9, t10, t59, t60, t61, hC8, hM8⟩
      by_cases hqp : q < p
      · have e3 : decide ((q : Int) < p) = true := by simpa using hqp
        have hwq := wrap_succ (k := q) (by omega)
        obtain ⟨p1, a1, a2, _⟩ := hM8.sl.at1 (T := TT) (k := .i64) und26 info3 und3 rfl rfl (i := q) hqp
        have hqa : q < at'.length := by omega
        rw [iv_get, List.getElem?_eq_getElem hqa] at a2
        obtain ⟨x, hx1, hx2⟩ := upto_mem (hat.mem_iff.1 (List.getElem_mem hqa))
        rw [hx2] at a2
        simp only [Option.map_some] at a2
        have r1 := load_one (o := 0) und26 info26 rfl hC8.box
        simp only [List.getElem?_cons_zero] at r1
        have b1 := arr_index (T := TT) (b := bd) (c := BIG) (n := xs.length) (k := .i64) (i := p) und26 info3 rfl (by omega)
        have r2 := load_one (o := p) und3 info3 rfl hC8.left
        rw [iv_get, List.getElem?_eq_getElem (by rw [hC8.llen]; omega)] at r2
        simp only [Option.map_some] at r2
        have hpb : p < bs.length := by omega
        have hxb : x < bs.length := by omega
        have c1 := arr_index (T := TT) (b := S1.n) (c := xs.length) (n := xs.length) (k := .i64) (i := p) und22 info26 rfl (by omega)
        have c2 := arr_index (T := TT) (b := S1.n) (c := xs.length) (n := xs.length) (k := .i64) (i := x) und22 info26 rfl (by omega)
        have l1 := load_one (o := p) und26 info26 rfl hC8.tab
        have l2 := load_one (o := x) und26 info26 rfl hC8.tab
        rw [List.getElem?_map, List.getElem?_eq_getElem hpb] at l1
        rw [List.getElem?_map, List.getElem?_eq_getElem hxb] at l2
        simp only [Option.map_some] at l1 l2
        have d1 : indexAddrA TT 26 (.int .i64 x) (rowv xs.length bs[p]) = some (.pointer (some ⟨bs[p], x, none⟩)) := arr_index und26 info3 rfl (by omega)
        have d2 : indexAddrA TT 26 (.int .i64 p) (rowv xs.length bs[x]) = some (.pointer (some ⟨bs[x], p, none⟩)) := arr_index und26 info3 rfl (by omega)
        repeat (first | with_reducible (first | refine W_seq ?_ | refine W_block ?_ | refine W_scope ?_ | refine W_regionV hTT ?_ | refine W_condV ?_ | refine W_ret ?_ | refine W_exit ?_ | refine W_skip ?_ | refine W_label ?_ | refine W_drawV hTT (by kernel_rfl) ?_) | simp only [H0, J86, J87, und3, und4, und22, und26, und29, und45, und64, info3, info4, info22, info26, info29, info45, info64, info50, und50, aggT, gv, dstAt, aop, evalsA, partsA, evalO, updO, ofArgs, binV, intBin, unV, mmV, builtinA, Nat.reduceLT, Nat.reduceEqDiff, Nat.reduceAdd, Nat.reduceSub, Nat.reduceMul, ↓reduceIte, reduceCtorEq, t7, t9, t10, t59, t60, t61, e3, a1, a2, r1, b1, r2])
        refine VIf_split (fun hb3 => ?_) (fun hb3 => ?_)
        · obtain ⟨S9, s1, hC9, hf9⟩ := hC8.setM hpb (j := x) (by omega) 1
          repeat (first | with_reducible (first | refine W_seq ?_ | refine W_block ?_ | refine W_scope ?_ | refine W_regionV hTT ?_ | refine W_condV ?_ | refine W_ret ?_ | refine W_exit ?_ | refine W_skip ?_ | refine W_label ?_ | refine W_drawV hTT (by kernel_rfl) ?_) | simp only [H0, J86, J87, und3, und4, und22, und26, und29, und45, und64, info3, info4, info22, info26, info29, info45, info64, info50, und50, aggT, gv, dstAt, aop, evalsA, partsA, evalO, updO, ofArgs, binV, intBin, unV, mmV, builtinA, Nat.reduceLT, Nat.reduceEqDiff, Nat.reduceAdd, Nat.reduceSub, Nat.reduceMul, ↓reduceIte, reduceCtorEq, t7, t9, t10, t59, t60, t61, c1, l1, d1, s1, hwq])
          refine LoopQ_intro (p - (q + 1)) (by omega) ⟨rfl, q + 1, _, _, rfl, by omega, by simp only [H0, J86, J87, und3, und4, und22, und26, und29, und45, und64, info3, info4, info22, info26, info29, info45, info64, info50, und50, aggT, gv, dstAt, aop, evalsA, partsA, evalO, updO, ofArgs, binV, intBin, unV, mmV, builtinA, Nat.reduceLT, Nat.reduceEqDiff, Nat.reduceAdd, Nat.reduceSub, Nat.reduceMul, ↓reduceIte, reduceCtorEq, t7], by simp only [H0, J86, J87, und3, und4, und22, und26, und29, und45, und64, info3, info4, info22, info26, info29, info45, info64, info50, und50, aggT, gv, dstAt, aop, evalsA, partsA, evalO, updO, ofArgs, binV, intBin, unV, mmV, builtinA, Nat.reduceLT, Nat.reduceEqDiff, Nat.reduceAdd, Nat.reduceSub, Nat.reduceMul, ↓reduceIte, reduceCtorEq, t9], by simp only [H0, J86, J87, und3, und4, und22, und26, und29, und45, und64, info3, info4, info22, info26, info29, info45, info64, info50, und50, aggT, gv, dstAt, aop, evalsA, partsA, evalO, updO, ofArgs, binV, intBin, unV, mmV, builtinA, Nat.reduceLT, Nat.reduceEqDiff, Nat.reduceAdd, Nat.reduceSub, Nat.reduceMul, ↓reduceIte, reduceCtorEq, t10], by simp only [H0, J86, J87, und3, und4, und22, und26, und29, und45, und64, info3, info4, info22, info26, info29, info45, info64, info50, und50, aggT, gv, dstAt, aop, evalsA, partsA, evalO, updO, ofArgs, binV, intBin, unV, mmV, builtinA, Nat.reduceLT, Nat.reduceEqDiff, Nat.reduceAdd, Nat.reduceSub, Nat.reduceMul, ↓reduceIte, reduceCtorEq, t59], by simp only [H0, J86, J87, und3, und4, und22, und26, und29, und45, und64, info3, info4, info22, info26, info29, info45, info64, info50, und50, aggT, gv, dstAt, aop, evalsA, partsA, evalO, updO, ofArgs, binV, intBin, unV, mmV, builtinA, Nat.reduceLT, Nat.reduceEqDiff, Nat.reduceAdd, Nat.reduceSub, Nat.reduceMul, ↓reduceIte, reduceCtorEq, t60], by simp only [H0, J86, J87, und3, und4, und22, und26, und29, und45, und64, info3, info4, info22, info26, info29, info45, info64, info50, und50, aggT, gv, dstAt, aop, evalsA, partsA, evalO, updO, ofArgs, binV, intBin, unV, mmV, builtinA, Nat.reduceLT, Nat.reduceEqDiff, Nat.reduceAdd, Nat.reduceSub, Nat.reduceMul, ↓reduceIte, reduceCtorEq, t61, hwq], hC9, hM8.same fun b hb => hf9 b (fun i h e => ?_) (fun e => ?_)⟩
          · have := (hM8.base hb).1
            have := hfr i h
            omega
          · have := (hM8.base hb).1
            omega
        · obtain ⟨S9, s1, hC9, hf9⟩ := hC8.setM hxb (j := p) (by omega) 1
          have r3 := load_one (o := 0) und26 info26 rfl hC9.box
          simp only [List.getElem?_cons_zero] at r3
          have b2 := arr_index (T := TT) (b := bd) (c := BIG) (n := xs.length) (k := .i64) (i := x) und26 info3 rfl (by omega)
          have r4 := load_one (o := x) und3 info3 rfl hC9.left
          rw [iv_get, List.getElem?_eq_getElem (by rw [hC9.llen]; omega)] at r4
          simp only [Option.map_some] at r4
          obtain ⟨SA, s2, hCA, hfA⟩ := hC9.setL (i := x) (by omega) (IntKind.i64.wrap (ys8[x]'(by rw [hC9.llen]; omega) - 1))
          repeat (first | with_reducible (first | refine W_seq ?_ | refine W_block ?_ | refine W_scope ?_ | refine W_regionV hTT ?_ | refine W_condV ?_ | refine W_ret ?_ | refine W_exit ?_ | refine W_skip ?_ | refine W_label ?_ | refine W_drawV hTT (by kernel_rfl) ?_) | simp only [H0, J86, J87, und3, und4, und22, und26, und29, und45, und64, info3, info4, info22, info26, info29, info45, info64, info50, und50, aggT, gv, dstAt, aop, evalsA, partsA, evalO, updO, ofArgs, binV, intBin, unV, mmV, builtinA, Nat.reduceLT, Nat.reduceEqDiff, Nat.reduceAdd, Nat.reduceSub, Nat.reduceMul, ↓reduceIte, reduceCtorEq, t7, t9, t10, t59, t60, t61, c2, l2, d2, s1, r3, b2, r4, s2, hwq])
          refine LoopQ_intro (p - (q + 1)) (by omega) ⟨rfl, q + 1, _, _, rfl, by omega, by simp only [H0, J86, J87, und3, und4, und22, und26, und29, und45, und64, info3, info4, info22, info26, info29, info45, info64, info50, und50, aggT, gv, dstAt, aop, evalsA, partsA, evalO, updO, ofArgs, binV, intBin, unV, mmV, builtinA, Nat.reduceLT, Nat.reduceEqDiff, Nat.reduceAdd, Nat.reduceSub, Nat.reduceMul, ↓reduceIte, reduceCtorEq, t7], by simp only [H0, J86, J87, und3, und4, und22, und26, und29, und45, und64, info3, info4, info22, info26, info29, info45, info64, info50, und50, aggT, gv, dstAt, aop, evalsA, partsA, evalO, updO, ofArgs, binV, intBin, unV, mmV, builtinA, Nat.reduceLT, Nat.reduceEqDiff, Nat.reduceAdd, Nat.reduceSub, Nat.reduceMul, ↓reduceIte, reduceCtorEq, t9], by simp only [H0, J86, J87, und3, und4, und22, und26, und29, und45, und64, info3, info4, info22, info26, info29, info45, info64, info50, und50, aggT, gv, dstAt, aop, evalsA, partsA, evalO, updO, ofArgs, binV, intBin, unV, mmV, builtinA, Nat.reduceLT, Nat.reduceEqDiff, Nat.reduceAdd, Nat.reduceSub, Nat.reduceMul, ↓reduceIte, reduceCtorEq, t10], by simp only [H0, J86, J87, und3, und4, und22, und26, und29, und45, und64, info3, info4, info22, info26, info29, info45, info64, info50, und50, aggT, gv, dstAt, aop, evalsA, partsA, evalO, updO, ofArgs, binV, intBin, unV, mmV, builtinA, Nat.reduceLT, Nat.reduceEqDiff, Nat.reduceAdd, Nat.reduceSub, Nat.reduceMul, ↓reduceIte, reduceCtorEq, t59], by simp only [H0, J86, J87, und3, und4, und22, und26, und29, und45, und64, info3, info4, info22, info26, info29, info45, info64, info50, und50, aggT, gv, dstAt, aop, evalsA, partsA, evalO, updO, ofArgs, binV, intBin, unV, mmV, builtinA, Nat.reduceLT, Nat.reduceEqDiff, Nat.reduceAdd, Nat.reduceSub, Nat.reduceMul, ↓reduceIte, reduceCtorEq, t60], by simp only [H0, J86, J87, und3, und4, und22, und26, und29, und45, und64, info3, info4, info22, info26, info29, info45, info64, info50, und50, aggT, gv, dstAt, aop, evalsA, partsA, evalO, updO, ofArgs, binV, intBin, unV, mmV, builtinA, Nat.reduceLT, Nat.reduceEqDiff, Nat.reduceAdd, Nat.reduceSub, Nat.reduceMul, ↓reduceIte, reduceCtorEq, t61, hwq], hCA, hM8.same fun b hb => ?_⟩
          have hbb := (hM8.base hb).1
          have n1 : ∀ i (h : i < bs.length), bs[i] ≠ b := fun i h e => by have := hfr i h; omega
          have n2 : b ≠ bd := by omega
          rw [hfA b n1 n2, hf9 b n1 n2]
      · have e3 : decide ((q : Int) < p) = false := by simpa using hqp
        repeat (first | with_reducible (first | refine W_seq ?_ | refine W_block ?_ | refine W_scope ?_ | refine W_regionV hTT ?_ | refine W_condV ?_ | refine W_ret ?_ | refine W_exit ?_ | refine W_skip ?_ | refine W_label ?_ | refine W_drawV hTT (by kernel_rfl) ?_) | simp only [H0, J86, J87, und3, und4, und22, und26, und29, und45, und64, info3, info4, info22, info26, info29, info45, info64, info50, und50, aggT, gv, dstAt, aop, evalsA, partsA, evalO, updO, ofArgs, binV, intBin, unV, mmV, builtinA, Nat.reduceLT, Nat.reduceEqDiff, Nat.reduceAdd, Nat.reduceSub, Nat.reduceMul, ↓reduceIte, reduceCtorEq, t7, t9, t10, t59, t60, t61, e3])
        refine NQ_intro ⟨rfl, by simp only [H0, J86, J87, und3, und4, und22, und26, und29, und45, und64, info3, info4, info22, info26, info29, info45, info64, info50, und50, aggT, gv, dstAt, aop, evalsA, partsA, evalO, updO, ofArgs, binV, intBin, unV, mmV, builtinA, Nat.reduceLT, Nat.reduceEqDiff, Nat.reduceAdd, Nat.reduceSub, Nat.reduceMul, ↓reduceIte, reduceCtorEq, t7], by simp only [H0, J86, J87, und3, und4, und22, und26, und29, und45, und64, info3, info4, info22, info26, info29, info45, info64, info50, und50, aggT, gv, dstAt, aop, evalsA, partsA, evalO, updO, ofArgs, binV, intBin, unV, mmV, builtinA, Nat.reduceLT, Nat.reduceEqDiff, Nat.reduceAdd, Nat.reduceSub, Nat.reduceMul, ↓reduceIte, reduceCtorEq, t9], by simp only [H0, J86, J87, und3, und4, und22, und26, und29, und45, und64, info3, info4, info22, info26, info29, info45, info64, info50, und50, aggT, gv, dstAt, aop, evalsA, partsA, evalO, updO, ofArgs, binV, intBin, unV, mmV, builtinA, Nat.reduceLT, Nat.reduceEqDiff, Nat.reduceAdd, Nat.reduceSub, Nat.reduceMul, ↓reduceIte, reduceCtorEq, t10], _, _, hC8⟩
    · rintro τ ds S7 ⟨rfl, t7, t9, t10, M7, ys7, hC7⟩
      repeat (first | with_reducible (first | refine W_seq ?_ | refine W_block ?_ | refine W_scope ?_ | refine W_regionV hTT ?_ | refine W_condV ?_ | refine W_ret ?_ | refine W_exit ?_ | refine W_skip ?_ | refine W_label ?_ | refine W_drawV hTT (by kernel_rfl) ?_) | simp only [H0, J86, J87, und3, und4, und22, und26, und29, und45, und64, info3, info4, info22, info26, info29, info45, info64, info50, und50, aggT, gv, dstAt, aop, evalsA, partsA, evalO, updO, ofArgs, binV, intBin, unV, mmV, builtinA, Nat.reduceLT, Nat.reduceEqDiff, Nat.reduceAdd, Nat.reduceSub, Nat.reduceMul, ↓reduceIte, reduceCtorEq, t7, t9, t10, hwp])
      refine LoopQ_intro p (by omega) ⟨rfl, by simp only [H0, J86, J87, und3, und4, und22, und26, und29, und45, und64, info3, info4, info22, info26, info29, info45, info64, info50, und50, aggT, gv, dstAt, aop, evalsA, partsA, evalO, updO, ofArgs, binV, intBin, unV, mmV, builtinA, Nat.reduceLT, Nat.reduceEqDiff, Nat.reduceAdd, Nat.reduceSub, Nat.reduceMul, ↓reduceIte, reduceCtorEq, t7], by simp only [H0, J86, J87, und3, und4, und22, und26, und29, und45, und64, info3, info4, info22, info26, info29, info45, info64, info50, und50, aggT, gv, dstAt, aop, evalsA, partsA, evalO, updO, ofArgs, binV, intBin, unV, mmV, builtinA, Nat.reduceLT, Nat.reduceEqDiff, Nat.reduceAdd, Nat.reduceSub, Nat.reduceMul, ↓reduceIte, reduceCtorEq, t9], by simp only [H0, J86, J87, und3, und4, und22, und26, und29, und45, und64, info3, info4, info22, info26, info29, info45, info64, info50, und50, aggT, gv, dstAt, aop, evalsA, partsA, evalO, updO, ofArgs, binV, intBin, unV, mmV, builtinA, Nat.reduceLT, Nat.reduceEqDiff, Nat.reduceAdd, Nat.reduceSub, Nat.reduceMul, ↓reduceIte, reduceCtorEq, t10, hwp], by omega, M7, ys7, hC7⟩
end Go.Proofs.Sz
end
/- part Zh -/
section
/- slices.Insert of one number, as a known call: by the library's own contract. -/
namespace Go.Proofs.Sz
open Go Go.Ax Go.Proofs Go.RowKit
theorem putB_id {w : World} {b : Nat} {ob : Obj} (h : w.heap[b]? = some ob) : putB w b ob = w := by
  unfold putB
  have : w.heap.setIfInBounds b ob = w.heap := by
    apply Array.ext_getElem?
    intro i
    rw [Array.getElem?_setIfInBounds]
    split
    · rename_i e
      subst e
      split
      · exact h.symm
      · rename_i hlt; rw [Array.getElem?_eq_none (by omega)]
    · rfl
  rw [this]
theorem putB_putB (w : World) (b : Nat) (x y : Obj) : putB (putB w b x) b y = putB w b y := by
  unfold putB
  simp
theorem setCell_put {w : World} {b o : Nat} {l : List Value} {t : TypeId} {fz : Nat × Nat} (h : w.heap[b]? = some (.cells l.toArray t fz)) (v : Value) : w.setCell ⟨b, o, none⟩ v = putB w b (.cells (l.set o v).toArray t fz) := by
  unfold World.setCell putB
  congr 1
  apply Array.ext_getElem?
  intro i
  rw [Array.getElem?_modify, Array.getElem?_setIfInBounds]
  by_cases e : b = i
  · subst e
    have hlt : b < w.heap.size := (Array.getElem?_eq_some_iff.1 h).1
    rw [if_pos rfl, if_pos rfl, if_pos hlt, h]
    simp
  · rw [if_neg e, if_neg e]
theorem splice_cons {l : List Value} {o : Nat} {v : Value} {vs : List Value} (h : o < l.length) : splice (l.set o v) (o + 1) vs = splice l o (v :: vs) := by
  unfold splice
  apply List.ext_getElem?
  intro i
  simp only [List.getElem?_append, List.getElem?_take, List.getElem?_set, List.getElem?_drop, List.length_take, List.length_set, List.length_cons, List.getElem?_cons]
  grind
theorem setCells_put {b : Nat} {t : TypeId} {fz : Nat × Nat} : ∀ (vs : List Value) (o : Nat) (l : List Value) (w : World), w.heap[b]? = some (.cells l.toArray t fz) → o + vs.length ≤ l.length → w.setCells b o vs = putB w b (.cells (splice l o vs).toArray t fz) := by
  intro vs
  induction vs with
  | nil => intro o l w h _; rw [splice_nil]; exact (putB_id h).symm
  | cons v vs ih =>
    intro o l w h hl
    rw [List.length_cons] at hl
    have hlt : b < w.heap.size := (Array.getElem?_eq_some_iff.1 h).1
    rw [World.setCells, setCell_put h, ih (o + 1) (l.set o v) _ (putB_same _ _ hlt) (by rw [List.length_set]; omega), putB_putB, splice_cons (by omega)]
theorem putB_alloc (w : World) (x y : Obj) : putB (w.alloc x) w.heap.size y = w.alloc y := by
  unfold putB World.alloc
  congr 1
  apply Array.ext_getElem?
  intro i
  rw [Array.getElem?_setIfInBounds]
  simp only [Array.getElem?_push, Array.size_push]
  grind
theorem alloc_drew (w : World) (x : Obj) : (w.alloc x).drew = w.drew.alloc x := rfl
theorem putB_drew (w : World) (b : Nat) (x : Obj) : (putB w b x).drew = putB w.drew b x := rfl
theorem drew_size (w : World) : w.drew.heap.size = w.heap.size := rfl
theorem fn34 : TT.fn 34 = some Tryz.f34 := by kernel_rfl
theorem scalars_iv (xs : List Int) : scalars (iv xs) = true := by
  unfold scalars iv
  rw [List.all_eq_true]
  intro x hx
  rw [List.mem_map] at hx
  obtain ⟨a, _, rfl⟩ := hx
  rfl
theorem one_iv {xs : List Int} : ∀ v ∈ iv xs, v.oneCell' = true := by
  intro v hv
  unfold iv at hv
  rw [List.mem_map] at hv
  obtain ⟨a, _, rfl⟩ := hv
  rfl
theorem splice_ins {l pad : List Value} {i : Nat} {x : Value} (hi : i < l.length) (hp : 0 < pad.length) : splice (splice (l ++ pad) (i + 1) (l.drop i)) i [x] = (l.take i ++ [x] ++ l.drop i) ++ pad.drop 1 := by
  unfold splice
  apply List.ext_getElem?
  intro j
  simp only [List.getElem?_append, List.getElem?_take, List.getElem?_drop, List.length_take, List.length_append, List.length_drop, List.length_singleton, List.length_cons, List.length_nil, List.getElem?_cons]
  grind
theorem alloc_setCells (w : World) (l vs : List Value) (o : Nat) (t : TypeId) (h : o + vs.length ≤ l.length) : (w.alloc (.cells l.toArray t (0, 0))).setCells w.heap.size o vs = w.alloc (.cells (splice l o vs).toArray t (0, 0)) := by
  rw [setCells_put _ _ _ _ (alloc_new w _) h, putB_alloc]
/-- what a grown row stands for, under its new name -/
theorem grownSR {w0 : Base} {E : Env} {S : St} {w : World} (hS : SR w0 E S w) {cs pad : List Value} {κ : Nat} (hs : scalars cs = true) (hk : cs.length + pad.length = κ) (hm : κ ≤ 9223372036854775807) :
    SR w0 (E.upd S.n (w.heap.size, κ)) (S.push (.cells cs 3 1)) (w.alloc (.cells (cs ++ pad).toArray 3 (0, 0))) := by
  refine hS.push _ _ κ ?_
  intro w' hw'
  exact ⟨w.heap.size, κ, cs, pad, Env.upd_same _ _ _, hw', VRs.of_scalars hs, fun h => absurd h (by omega), fun _ => ⟨by omega, hm⟩⟩
theorem zero_ints (n : Nat) : (Builtin.zeroCells (Value.int .i64 0).cells n).toList = List.replicate n (.int .i64 0) := by
  unfold Builtin.zeroCells
  rw [Array.toList_map, List.eq_replicate_iff]
  refine ⟨by simp [Value.cells], ?_⟩
  intro b hb
  rw [List.mem_map] at hb
  obtain ⟨j, hj, rfl⟩ := hb
  simp [Value.cells, Nat.mod_one]
theorem grownCap_le' (w : World) (need old : Nat) (e : TypeId) (h : need < 1000000) : need ≤ grownCap w need old e ∧ grownCap w need old e ≤ 9223372036854775807 := by
  have hlt := Nat.mod_lt (w.tape w.drawn (.appendCap need old e)) (show 0 < 2 ^ 63 - need by omega)
  simp only [grownCap, Question.cut]
  omega
/-- Insert into nothing -/
theorem ins_nil {S : St} {vb : Nat} {x : Int} (hvb : S.get vb = some (.cells [.int .i64 x] 3 0)) :
    CallIs PP 34 [.slice none 0 0, .int .i64 0, .slice (some ⟨vb, 0, none⟩) 1 1] S [(.slice (some ⟨S.n, 0, none⟩) 1 BIG, some (S.push (.cells (iv [x]) 3 1)))] := by
  obtain ⟨k1, k2⟩ := hTT.fn 34 _ fn34
  refine ⟨⟨Tryz.f34, _, k1, k2, rfl⟩, ?_⟩
  intro w0 E w args' m R hS hv hR
  cases hv with
  | cons hv1 hv =>
  cases hv with
  | cons hv2 hv =>
  cases hv with
  | cons hv3 hv =>
  cases hv
  have e1 := hv1.scalar_eq rfl
  have e2 := hv2.scalar_eq rfl
  subst e1 e2
  cases hv3 with
  | sc hs => simp [scalar] at hs
  | sl o l c hbv =>
  rename_i vb' κv
  obtain ⟨vs', vpad, p1, p2, p3, _⟩ := hS.cells hvb hbv
  have hvp := p3 rfl
  subst hvp
  have hvs' : vs' = [.int .i64 x] := p2.scalars_eq rfl
  subst hvs'
  have hcap1 : capOf κv 1 = 1 := rfl
  rw [hcap1]
  refine callsIn_wide.2 ?_
  refine (Any2.slices_Insert_int_end_grow insE none 0 0 vb' 0 1 1 [] [.int .i64 x] w (by omega) (by omega) (by omega) (by omega) rfl rfl (fun _ => rfl) (fun a h => by cases h) ?_ ?_).mono ?_
  · intro j v hj
    unfold World.cell?
    rw [p1]
    cases j with
    | zero => simpa using hj
    | succ j => simp at hj
  · intro v hv
    simp only [List.mem_singleton] at hv
    subst hv
    rfl
  · rintro e w' ⟨rfl, rfl⟩
    have hg := grownCap_le' w 1 0 3 (by omega)
    have hgr := grownSR hS.drew (cs := iv [x]) (pad := (Builtin.zeroCells (Value.int .i64 0).cells (grownCap w 1 0 3 - 1)).toList) (κ := grownCap w 1 0 3) (scalars_iv _) (by rw [zero_ints, List.length_replicate]; show 1 + _ = _; omega) hg.2
    have hle := Env.upd_le (x := (w.drew.heap.size, grownCap w 1 0 3)) (hS.dom _ (Nat.le_refl _))
    refine hR _ (List.mem_singleton.2 rfl) _ _ _ hle ?_ (.slb 0 1 (Env.upd_same _ _ _)) (Keeps.push _ _) (by rw [World.size_alloc]; exact Nat.le_succ _)
    have harr : (([] ++ [Value.int .i64 x]).toArray ++ Builtin.zeroCells (Value.int .i64 0).cells (grownCap w 1 0 3 - 1)) = (iv [x] ++ (Builtin.zeroCells (Value.int .i64 0).cells (grownCap w 1 0 3 - 1)).toList).toArray := by apply Array.ext'; simp
    show SR _ _ _ (w.drew.alloc (.cells (([] ++ [Value.int .i64 x]).toArray ++ Builtin.zeroCells (Value.int .i64 0).cells (grownCap w 1 0 3 - 1)) 3))
    rw [harr]
    exact hgr
theorem cell_of {w : World} {b : Nat} {l : List Value} {t : TypeId} (h : w.heap[b]? = some (.cells l.toArray t (0, 0))) (k : Nat) : w.cell? ⟨b, k, none⟩ = l[k]? := by
  unfold World.cell?
  rw [h]
  simp
theorem frozen_of {w : World} {b : Nat} {l : List Value} {t : TypeId} (h : w.heap[b]? = some (.cells l.toArray t (0, 0))) (k : Nat) : w.frozen? ⟨b, k, none⟩ = false := by
  unfold World.frozen?
  rw [h]
  simp
theorem shape_of {w : World} {b : Nat} {l : List Value} {t : TypeId} (h : w.heap[b]? = some (.cells l.toArray t (0, 0))) : w.shape? b = some (t, l.length) := by
  unfold World.shape?
  rw [h]
  simp
theorem regrowSR {w0 : Base} {E : Env} {S : St} {w : World} (hS : SR w0 E S w) {b b' κ : Nat} {cs cs2 : List Value} (hb : S.get b = some (.cells cs 3 1)) (hbE : E b = some (b', κ)) {pad : List Value} (hs : scalars cs2 = true) (hk : cs2.length + pad.length = κ) (hm : κ ≤ 9223372036854775807) :
    SR w0 (E.upd S.n (b', κ)) ((S.set b .dead).push (.cells cs2 3 1)) (putB w b' (.cells (cs2 ++ pad).toArray 3 (0, 0))) := by
  refine hS.regrow hb rfl hbE _ _ ?_
  intro w' hw'
  exact ⟨b', κ, cs2, pad, Env.upd_same _ _ _, hw', VRs.of_scalars hs, fun h => absurd h (by omega), fun _ => ⟨by omega, hm⟩⟩
theorem ins_is {S : St} {b vb n i : Nat} {xs : List Int} {x : Int} (hb : S.get b = some (.cells (iv xs) 3 1)) (hl : xs.length = n) (hi : i ≤ n) (hvb : S.get vb = some (.cells [.int .i64 x] 3 0)) (hn : n < 1000) :
    CallIs PP 34 [.slice (some ⟨b, 0, none⟩) n BIG, .int .i64 i, .slice (some ⟨vb, 0, none⟩) 1 1] S [(.slice (some ⟨S.n, 0, none⟩) (n + 1) BIG, some ((S.set b .dead).push (.cells (iv (xs.take i ++ [x] ++ xs.drop i)) 3 1)))] := by
  obtain ⟨k1, k2⟩ := hTT.fn 34 _ fn34
  refine ⟨⟨Tryz.f34, _, k1, k2, rfl⟩, ?_⟩
  intro w0 E w args' m R hS hv hR
  cases hv with
  | cons hv1 hv =>
  cases hv with
  | cons hv2 hv =>
  cases hv with
  | cons hv3 hv =>
  cases hv
  have e2 := hv2.scalar_eq rfl
  subst e2
  cases hv1 with
  | sc hs => simp [scalar] at hs
  | sl o l c hbE =>
  rename_i b' κ
  cases hv3 with
  | sc hs => simp [scalar] at hs
  | sl o l c hbv =>
  rename_i vb' κv
  rw [BIG_not]
  have hcap1 : capOf κv 1 = 1 := rfl
  rw [hcap1]
  obtain ⟨cs', pad, q1, q2, q3, q4⟩ := hS.cells hb hbE
  have hκ := hS.cellsK hb (by omega) hbE
  have hcs' : cs' = iv xs := q2.scalars_eq (scalars_iv _)
  subst hcs'
  have hlen := q4 (by omega)
  rw [iv_len, hl, Nat.mul_one] at hlen
  obtain ⟨vs', vpad, p1, p2, p3, _⟩ := hS.cells hvb hbv
  have hvp := p3 rfl
  subst hvp
  have hvs' : vs' = [.int .i64 x] := p2.scalars_eq rfl
  subst hvs'
  have hne : vb' ≠ b' := by
    intro e
    subst e
    have := hS.inj b vb _ _ vb' κ κv hb rfl hvb rfl hbE hbv
    subst this
    rw [hb] at hvb
    simp at hvb
  have hblt := (hS.rng _ _ _ hbE).2
  have hivl : (iv xs).length = n := by rw [iv_len, hl]
  have hins : iv (xs.take i ++ [x] ++ xs.drop i) = (iv xs).take i ++ [.int .i64 x] ++ (iv xs).drop i := by simp [iv, List.map_take, List.map_drop]
  have hinl : (iv (xs.take i ++ [x] ++ xs.drop i)).length = n + 1 := by rw [iv_len]; simp; omega
  have hvs : ∀ j v, [Value.int .i64 x][j]? = some v → w.cell? ⟨vb', 0 + j, none⟩ = some v := by
    intro j v hj
    rw [cell_of p1, Nat.zero_add, List.append_nil]
    exact hj
  have hv1 : ∀ v ∈ [Value.int .i64 x], v.oneCell' = true := by
    intro v hv
    simp only [List.mem_singleton] at hv
    subst hv
    rfl
  have hcs : ∀ j v, (iv xs)[j]? = some v → w.cell? ⟨b', 0 + j, none⟩ = some v := by
    intro j v hj
    have hlt : j < (iv xs).length := (List.getElem?_eq_some_iff.1 hj).1
    rw [cell_of q1, Nat.zero_add, List.getElem?_append_left hlt]
    exact hj
  -- where it all ends
  have fin : ∀ (w' : World) (nb κ' : Nat), SR w0 (E.upd S.n (nb, κ')) ((S.set b .dead).push (.cells (iv (xs.take i ++ [x] ++ xs.drop i)) 3 1)) w' → w.heap.size ≤ w'.heap.size → R (.returned (.slice (some ⟨nb, 0, none⟩) (n + 1) κ')) w' := by
    intro w' nb κ' hSR hz
    exact hR _ (List.mem_singleton.2 rfl) _ _ _ (Env.upd_le (hS.dom _ (Nat.le_refl _))) hSR (.slb 0 (n + 1) (Env.upd_same _ _ _)) ((Keeps.set (lt_of_get hb) _).trans (Keeps.push _ _)) hz
  have newrow : ∀ (w1 : World), SR w0 E S w1 → ∀ κ', n + 1 ≤ κ' → κ' ≤ 9223372036854775807 → SR w0 (E.upd S.n (w1.heap.size, κ')) ((S.set b .dead).push (.cells (iv (xs.take i ++ [x] ++ xs.drop i)) 3 1)) (w1.alloc (.cells (iv (xs.take i ++ [x] ++ xs.drop i) ++ List.replicate (κ' - (n + 1)) (Value.int .i64 0)).toArray 3 (0, 0))) := by
    intro w1 hS1 κ' h1 h2
    have hlt := lt_of_get hb
    have hk := grownSR (hS1.kill hlt) (cs := iv (xs.take i ++ [x] ++ xs.drop i)) (pad := List.replicate (κ' - (n + 1)) (Value.int .i64 0)) (κ := κ') (scalars_iv _) (by rw [hinl, List.length_replicate]; omega) h2
    exact hk
  refine callsIn_wide.2 ?_
  by_cases hroom : n + 1 ≤ κ
  · have hpl : 0 < pad.length := by omega
    have hreg : ∀ w1 : World, SR w0 E S w1 → SR w0 (E.upd S.n (b', κ)) ((S.set b .dead).push (.cells (iv (xs.take i ++ [x] ++ xs.drop i)) 3 1)) (putB w1 b' (.cells (iv (xs.take i ++ [x] ++ xs.drop i) ++ pad.drop 1).toArray 3 (0, 0))) :=
      fun w1 hS1 => regrowSR hS1 hb hbE (scalars_iv _) (by rw [hinl, List.length_drop]; omega) hκ
    have hsp : ∀ j, j < n + 1 → (w.cell? ⟨b', 0 + j, none⟩).isSome = true := by
      intro j hj
      rw [cell_of q1, Nat.zero_add, List.getElem?_eq_getElem (by rw [List.length_append]; omega)]
      rfl
    by_cases hin : i < n
    · refine (Any2.slices_Insert_int_shift insE b' 0 n κ i vb' 0 1 1 (iv xs) [.int .i64 x] w hin (by omega) hroom hκ hne hivl rfl hcs hsp (fun j _ => frozen_of q1 _) hvs one_iv hv1 _ _ _ _ (shape_of p1) (shape_of q1) (by rw [List.length_append]; omega) (frozen_of p1 _) (frozen_of p1 _)).mono ?_
      rintro e w' ⟨rfl, rfl⟩
      have q1' : w.drew.heap[b']? = some (.cells (iv xs ++ pad).toArray 3 (0, 0)) := q1
      rw [Nat.zero_add, Nat.zero_add, setCells_put _ _ _ _ q1' (by simp only [List.length_drop, List.length_append]; omega)]
      rw [setCells_put _ _ _ _ (putB_same w.drew _ hblt) (by rw [splice_length _ _ _ (by simp only [List.length_drop, List.length_append]; omega)]; simp only [List.length_append, List.length_singleton]; omega), putB_putB, splice_ins (by omega) hpl]
      have := hreg _ hS.drew
      rw [hins] at this
      refine fin _ b' κ ?_ (by rw [putB_size]; exact Nat.le_refl _)
      rw [hins]
      exact this
    · have hin' : i = n := by omega
      subst hin'
      refine (Any2.slices_Insert_int_end_room insE b' 0 i κ vb' 0 1 1 [.int .i64 x] w (by omega) hroom hκ rfl (fun j hj => by have := hsp (i + j) (by omega); rwa [Nat.zero_add] at this ⊢) (fun j _ => frozen_of q1 _) hvs hv1).mono ?_
      rintro e w' ⟨rfl, rfl⟩
      rw [Nat.zero_add, setCells_put _ _ _ _ q1 (by simp only [List.length_append, List.length_singleton]; omega)]
      have hsplice : splice (iv xs ++ pad) i [.int .i64 x] = iv (xs.take i ++ [x] ++ xs.drop i) ++ pad.drop 1 := by
        rw [hins]
        unfold splice
        apply List.ext_getElem?
        intro j
        simp only [List.getElem?_append, List.getElem?_take, List.getElem?_drop, List.length_take, List.length_append, List.length_drop, List.length_singleton, List.length_cons, List.length_nil, List.getElem?_cons]
        grind
      rw [hsplice]
      exact fin _ b' κ (hreg _ hS) (by rw [putB_size]; exact Nat.le_refl _)
  · have hg := grownCap_le' w (n + 1) κ 3 (by omega)
    by_cases hin : i < n
    · refine (Any2.slices_Insert_int_grow insE b' 0 n κ i vb' 0 1 1 (iv xs) [.int .i64 x] w hin (by omega) (by omega) (by omega) (by omega) hivl rfl hcs hvs one_iv hv1).mono ?_
      rintro e w' ⟨rfl, rfl⟩
      refine fin _ w.heap.size (grownCap w (n + 1) κ 3) ?_ ?_
      · have := newrow w.drew.drew hS.drew.drew (grownCap w (n + 1) κ 3) (by omega) hg.2
        generalize hG : grownCap w (n + 1) κ 3 = G at *
        have hn0 : (Builtin.zeroCells (Value.int .i64 0).cells (n + 1 - i)).toList = List.replicate (n + 1 - i) (Value.int .i64 0) := zero_ints _
        have harr : ((iv xs).take i).toArray ++ Builtin.zeroCells (Value.int .i64 0).cells (n + 1 - i) ++ Builtin.zeroCells (Value.int .i64 0).cells (G - (n + 1)) = ((iv xs).take i ++ List.replicate (n + 1 - i) (Value.int .i64 0) ++ List.replicate (G - (n + 1)) (Value.int .i64 0)).toArray := by
          apply Array.ext'
          rw [Array.toList_append, Array.toList_append, zero_ints, zero_ints]
        show SR _ _ _ ((((w.alloc (.cells (((iv xs).take i).toArray ++ Builtin.zeroCells (Value.int .i64 0).cells (n + 1 - i) ++ Builtin.zeroCells (Value.int .i64 0).cells (grownCap w (n + 1) κ 3 - (n + 1))) 3)).drew.setCells w.heap.size i [.int .i64 x]).drew).setCells w.heap.size (i + 1) ((iv xs).drop i))
        rw [hG, harr]
        have x1 : (w.alloc (.cells ((iv xs).take i ++ List.replicate (n + 1 - i) (Value.int .i64 0) ++ List.replicate (G - (n + 1)) (Value.int .i64 0)).toArray 3)).drew.setCells w.heap.size i [.int .i64 x] = w.drew.alloc (.cells (splice ((iv xs).take i ++ List.replicate (n + 1 - i) (Value.int .i64 0) ++ List.replicate (G - (n + 1)) (Value.int .i64 0)) i [.int .i64 x]).toArray 3) :=
          alloc_setCells w.drew _ _ _ _ (by simp only [List.length_append, List.length_take, List.length_replicate, List.length_singleton]; omega)
        rw [x1]
        have x2 : (w.drew.alloc (.cells (splice ((iv xs).take i ++ List.replicate (n + 1 - i) (Value.int .i64 0) ++ List.replicate (G - (n + 1)) (Value.int .i64 0)) i [.int .i64 x]).toArray 3)).drew.setCells w.heap.size (i + 1) ((iv xs).drop i) = w.drew.drew.alloc (.cells (splice (splice ((iv xs).take i ++ List.replicate (n + 1 - i) (Value.int .i64 0) ++ List.replicate (G - (n + 1)) (Value.int .i64 0)) i [.int .i64 x]) (i + 1) ((iv xs).drop i)).toArray 3) :=
          alloc_setCells w.drew.drew _ _ _ _ (by rw [splice_length _ _ _ (by simp only [List.length_append, List.length_take, List.length_replicate, List.length_singleton]; omega)]; simp only [List.length_append, List.length_take, List.length_replicate, List.length_drop]; omega)
        rw [x2]
        have hsp2 : splice (splice ((iv xs).take i ++ List.replicate (n + 1 - i) (Value.int .i64 0) ++ List.replicate (G - (n + 1)) (Value.int .i64 0)) i [.int .i64 x]) (i + 1) ((iv xs).drop i) = iv (xs.take i ++ [x] ++ xs.drop i) ++ List.replicate (G - (n + 1)) (Value.int .i64 0) := by
          rw [hins]
          unfold splice
          apply List.ext_getElem?
          intro j
          simp only [List.getElem?_append, List.getElem?_take, List.getElem?_drop, List.length_take, List.length_append, List.length_drop, List.length_singleton, List.length_cons, List.length_nil, List.getElem?_cons, List.length_replicate, List.getElem?_replicate]
          grind
        rw [hsp2]
        exact this
      · have h1 : ∀ (vs : List Value) (o : Nat) (w : World) (b : Nat), (w.setCells b o vs).heap.size = w.heap.size := by
          intro vs
          induction vs with
          | nil => intro o w b; rfl
          | cons v vs ih => intro o w b; rw [World.setCells, ih]; simp [World.setCell]
        rw [h1]
        show w.heap.size ≤ (World.setCells _ _ _ _).heap.size
        rw [h1]
        show w.heap.size ≤ (w.alloc _).heap.size
        rw [World.size_alloc]
        exact Nat.le_succ _
    · have hin' : i = n := by omega
      subst hin'
      refine (Any2.slices_Insert_int_end_grow insE (some ⟨b', 0, none⟩) i κ vb' 0 1 1 (iv xs) [.int .i64 x] w (by omega) (by omega) (by omega) (by omega) hivl rfl (fun h => by cases h) (fun a ha j v hj => by cases ha; rw [Addr.add_lit]; exact hcs j v hj) hvs hv1).mono ?_
      rintro e w' ⟨rfl, rfl⟩
      refine fin _ w.heap.size _ ?_ (by rw [World.size_alloc]; exact Nat.le_succ _)
      have := newrow w.drew hS.drew (grownCap w (i + 1) κ 3) (by omega) hg.2
      have harr : ((iv xs ++ [Value.int .i64 x]).toArray ++ Builtin.zeroCells (Value.int .i64 0).cells (grownCap w (i + 1) κ 3 - (i + 1))) = (iv (xs.take i ++ [x] ++ xs.drop i) ++ List.replicate (grownCap w (i + 1) κ 3 - (i + 1)) (Value.int .i64 0)).toArray := by
        apply Array.ext'
        rw [Array.toList_append, zero_ints, hins, List.take_of_length_le (by omega), List.drop_eq_nil_of_le (by omega), List.append_nil]
      show SR _ _ _ (w.drew.alloc (.cells ((iv xs ++ [Value.int .i64 x]).toArray ++ Builtin.zeroCells (Value.int .i64 0).cells (grownCap w (i + 1) κ 3 - (i + 1))) 3))
      rw [harr]
      exact this
end Go.Proofs.Sz
end
