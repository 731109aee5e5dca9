/- A run on an abstract store, proved right for every world, and the functions of the law walked by it: part 6 of 7. -/
import Derived.Test.YtiinngafmlbgpaaGreatSo4
import Derived.Test.YtiinngafmlbgpaaGreatSo2
import Derived.Test.YtiinngafmlbgpaaGreatSo1
import Derived.Test.YtiinngafmlbgpaaGreatProg
import Derived.KernelRfl
set_option linter.unusedSimpArgs false
set_option linter.unusedVariables false
/- part Zg -/
section
namespace Go.Proofs.Sz
open Go Go.Ax Go.Proofs Go.RowKit
theorem fn11 : TT.fn 11 = some Tryz.f11 := by kernel_rfl
/-- Contest's own store: the table and what is left -/
structure CSt (S S' : St) (n ba bl bd : Nat) (bs : List Nat) (M : Nat → Nat → Int) (ys : List Int) : Prop where
  ext : Ext S S'
  lo : S.n ≤ ba ∧ S.n ≤ bl ∧ S.n ≤ bd
  tab : S'.get ba = some (.cells (bs.map (rowv n)) 26 0)
  len : bs.length = n
  rows : OwnR S' S.n n 3 bs M
  box : S'.get bl = some (.cells [.slice (some ⟨bd, 0, none⟩) n BIG] 26 0)
  left : S'.get bd = some (.cells (iv ys) 3 1)
  llen : ys.length = n
theorem CSt.more {S S' S'' : St} {n ba bl bd : Nat} {bs : List Nat} {M : Nat → Nat → Int} {ys : List Int} (h : CSt S S' n ba bl bd bs M ys) (hE : Ext S' S'') : CSt S S'' n ba bl bd bs M ys :=
  ⟨h.ext.trans hE, h.lo, hE.get h.tab, h.len, h.rows.keep fun i hi => hE.same _ (lt_of_get (h.rows.get i hi)), hE.get h.box, hE.get h.left, h.llen⟩
theorem CSt.setM {S S' : St} {n ba bl bd : Nat} {bs : List Nat} {M : Nat → Nat → Int} {ys : List Int} (h : CSt S S' n ba bl bd bs M ys) {i j : Nat} (hi : i < bs.length) (hj : j < n) (x : Int) :
    ∃ S'', storeA TT S' 3 (.int .i64 x) (.pointer (some ⟨bs[i], j, none⟩)) = some S'' ∧ CSt S S'' n ba bl bd bs (setM M i j x) ys ∧ ∀ k, (∀ i (h : i < bs.length), bs[i] ≠ k) → k ≠ bd → S''.get k = S'.get k := by
  obtain ⟨s1, hR⟩ := h.rows.store (T := TT) h.ext.ok info3 hi hj x
  have hg := h.rows.get i hi
  have hl := lt_of_get hg
  refine ⟨_, s1, ⟨h.ext.set _ (h.rows.lo i hi) hl, h.lo, ?_, h.len, hR, ?_, ?_, h.llen⟩, fun k hk _ => get_set_ne _ hl (fun e => hk i hi e.symm)⟩
  · rw [get_set_ne _ hl (fun e => by have := h.tab; rw [e, hg] at this; simp at this)]; exact h.tab
  · rw [get_set_ne _ hl (fun e => by have := h.box; rw [e, hg] at this; simp at this)]; exact h.box
  · rw [get_set_ne _ hl (fun e => by have := h.left; rw [e, hg] at this; simp at this)]; exact h.left
theorem CSt.setL {S S' : St} {n ba bl bd : Nat} {bs : List Nat} {M : Nat → Nat → Int} {ys : List Int} (h : CSt S S' n ba bl bd bs M ys) {i : Nat} (hi : i < n) (x : Int) :
    ∃ S'', storeA TT S' 3 (.int .i64 x) (.pointer (some ⟨bd, i, none⟩)) = some S'' ∧ CSt S S'' n ba bl bd bs M (ys.set i x) ∧ ∀ k, (∀ i (h : i < bs.length), bs[i] ≠ k) → k ≠ bd → S''.get k = S'.get k := by
  have hl := lt_of_get h.left
  have s1 := store_one (T := TT) (v := .int .i64 x) (o := i) info3 h.left rfl rfl (by rw [iv_len, h.llen]; exact hi)
  refine ⟨_, s1, ⟨h.ext.set _ h.lo.2.2 hl, h.lo, ?_, h.len, h.rows.keep fun k hk => ?_, ?_, ?_, by rw [List.length_set]; exact h.llen⟩, fun k _ hk => get_set_ne _ hl hk⟩
  · rw [get_set_ne _ hl (fun e => by have := h.tab; rw [e, h.left] at this; simp at this)]; exact h.tab
  · rw [get_set_ne _ hl (fun e => by have := h.rows.get k hk; rw [e, h.left] at this; simp at this)]
  · rw [get_set_ne _ hl (fun e => by have := h.box; rw [e, h.left] at this; simp at this)]; exact h.box
  · rw [get_set_same _ h.ext.ok hl rfl]
    congr 2
    simp [iv, List.map_set]
/-- a table that a call has made -/
def Tabl (S' : St) (lo n : Nat) (v : Value) : Prop := v = .slice none 0 0 ∨ ∃ ba bs M, v = .slice (some ⟨ba, 0, none⟩) n n ∧ S'.get ba = some (.cells (bs.map (rowv n)) 26 0) ∧ bs.length = n ∧ OwnR S' lo n 3 bs M
theorem al26 (S : St) : allocA TT S 26 = some (.pointer (some ⟨S.n, 0, none⟩), S.push (.cells [.slice none 0 0] 26 0)) := by
  simp only [allocA, info26, boxA, Value.cells]
  rfl
set_option maxHeartbeats 4000000 in
/-- Contest: no error, and a table of its own -/
theorem build_call {S : St} (hok : S.ok) {b0 c0 : Nat} {xs : List Int} (hx : Sl S 1 (.slice (some ⟨b0, 0, none⟩) xs.length c0) (iv xs) xs.length) (hn : xs.length ≤ 12) (hn0 : 0 < xs.length) (hb : ∀ x ∈ xs, 0 ≤ x ∧ x ≤ 30) :
    CallW PP 11 [.slice (some ⟨b0, 0, none⟩) xs.length c0] S (fun v S' => ∃ a k, v = .tuple #[a, .int .i64 k, .int .i64 0] ∧ Tabl S' S.n xs.length a ∧ Ext S S') := by
  have hpl : Plain (.slice (some ⟨b0, 0, none⟩) xs.length c0) xs.length := .mk
  generalize hva : Value.slice (some ⟨b0, 0, none⟩) xs.length c0 = va at hpl
  have hla := hx.len (T := TT) und26
  rw [hva] at hla
  refine CallW_of hTT fn11 rfl (by simp [Tryz.f11]) ?_
  unfold Tryz.f11
  have e2 : ((2 : Int) = 0) = False := by simp
  repeat (first | with_reducible refine W_seq ?_ | with_reducible refine W_block ?_ | with_reducible refine W_scope ?_ | ((first | with_reducible refine W_regionV hTT ?_ | with_reducible refine W_condV ?_ | with_reducible refine W_ret ?_ | with_reducible refine W_exit ?_ | with_reducible refine W_skip ?_ | with_reducible refine W_label ?_ | with_reducible refine W_drawV hTT (by kernel_rfl) ?_); try simp only [und3, und4, und22, und26, und29, und45, und64, info3, info4, info22, info26, info29, info45, info64, info50, und50, aggT, J0, J1, J2, J3, J4, J5, J6, J7, J8, J9, J10, J11, J12, gv, dstAt, J13, J14, J15, J16, J17, J18, J19, J20, J21, J22, J23, J24, J25, J26, J27, J28, J29, J30, J31, J32, J33, J34, J35, J36, J37, J38, J39, J40, J41, J42, J43, J44, J45, J46, J47, J48, J49, J50, J51, J52, J53, J54, J55, J56, J57, J58, J59, aop, J60, J61, J62, evalsA, partsA, evalO, J63, J64, J65, J66, J67, J68, J69, J70, J71, updO, J72, ofArgs, J73, binV, intBin, J74, unV, J75, J76, mmV, builtinA, J77, J78, J79, J80, J81, J82, J83, J84, J85, J86, J87, J88, J89, Nat.reduceLT, Nat.reduceEqDiff, Nat.reduceAdd, Nat.reduceSub, Nat.reduceMul, reduceIte, J90, J91, J92, reduceCtorEq, J93, J94, J95, J96, J97, J98, J99, J100]))
  refine VCall_intro (areNumbers_yes (by rw [hva] at hx; exact hx) (by omega) hb) ?_
  rintro v S1 ⟨rfl, rfl⟩
  (try simp only [und3, und4, und22, und26, und29, und45, und64, info3, info4, info22, info26, info29, info45, info64, info50, und50, aggT, J0, J1, J2, J3, J4, J5, J6, J7, J8, J9, J10, J11, J12, gv, dstAt, J13, J14, J15, J16, J17, J18, J19, J20, J21, J22, J23, J24, J25, J26, J27, J28, J29, J30, J31, J32, J33, J34, J35, J36, J37, J38, J39, J40, J41, J42, J43, J44, J45, J46, J47, J48, J49, J50, J51, J52, J53, J54, J55, J56, J57, J58, J59, aop, J60, J61, J62, evalsA, partsA, evalO, J63, J64, J65, J66, J67, J68, J69, J70, J71, updO, J72, ofArgs, J73, binV, intBin, J74, unV, J75, J76, mmV, builtinA, J77, J78, J79, J80, J81, J82, J83, J84, J85, J86, J87, J88, J89, Nat.reduceLT, Nat.reduceEqDiff, Nat.reduceAdd, Nat.reduceSub, Nat.reduceMul, reduceIte, J90, J91, J92, reduceCtorEq, J93, J94, J95, J96, J97, J98, J99, J100, hla]); repeat (first | with_reducible refine W_seq ?_ | with_reducible refine W_block ?_ | with_reducible refine W_scope ?_ | ((first | with_reducible refine W_regionV hTT ?_ | with_reducible refine W_condV ?_ | with_reducible refine W_ret ?_ | with_reducible refine W_exit ?_ | with_reducible refine W_skip ?_ | with_reducible refine W_label ?_ | with_reducible refine W_drawV hTT (by kernel_rfl) ?_); try simp only [und3, und4, und22, und26, und29, und45, und64, info3, info4, info22, info26, info29, info45, info64, info50, und50, aggT, J0, J1, J2, J3, J4, J5, J6, J7, J8, J9, J10, J11, J12, gv, dstAt, J13, J14, J15, J16, J17, J18, J19, J20, J21, J22, J23, J24, J25, J26, J27, J28, J29, J30, J31, J32, J33, J34, J35, J36, J37, J38, J39, J40, J41, J42, J43, J44, J45, J46, J47, J48, J49, J50, J51, J52, J53, J54, J55, J56, J57, J58, J59, aop, J60, J61, J62, evalsA, partsA, evalO, J63, J64, J65, J66, J67, J68, J69, J70, J71, updO, J72, ofArgs, J73, binV, intBin, J74, unV, J75, J76, mmV, builtinA, J77, J78, J79, J80, J81, J82, J83, J84, J85, J86, J87, J88, J89, Nat.reduceLT, Nat.reduceEqDiff, Nat.reduceAdd, Nat.reduceSub, Nat.reduceMul, reduceIte, J90, J91, J92, reduceCtorEq, J93, J94, J95, J96, J97, J98, J99, J100, hla]))
  refine VCall_intro (sum_call (by rw [hva] at hx; exact hx) (by omega)) ?_
  rintro v S2 ⟨⟨r, rfl⟩, rfl⟩
  (try simp only [und3, und4, und22, und26, und29, und45, und64, info3, info4, info22, info26, info29, info45, info64, info50, und50, aggT, J0, J1, J2, J3, J4, J5, J6, J7, J8, J9, J10, J11, J12, gv, dstAt, J13, J14, J15, J16, J17, J18, J19, J20, J21, J22, J23, J24, J25, J26, J27, J28, J29, J30, J31, J32, J33, J34, J35, J36, J37, J38, J39, J40, J41, J42, J43, J44, J45, J46, J47, J48, J49, J50, J51, J52, J53, J54, J55, J56, J57, J58, J59, aop, J60, J61, J62, evalsA, partsA, evalO, J63, J64, J65, J66, J67, J68, J69, J70, J71, updO, J72, ofArgs, J73, binV, intBin, J74, unV, J75, J76, mmV, builtinA, J77, J78, J79, J80, J81, J82, J83, J84, J85, J86, J87, J88, J89, Nat.reduceLT, Nat.reduceEqDiff, Nat.reduceAdd, Nat.reduceSub, Nat.reduceMul, reduceIte, J90, J91, J92, reduceCtorEq, J93, J94, J95, J96, J97, J98, J99, J100, hla, e2]); repeat (first | with_reducible refine W_seq ?_ | with_reducible refine W_block ?_ | with_reducible refine W_scope ?_ | ((first | with_reducible refine W_regionV hTT ?_ | with_reducible refine W_condV ?_ | with_reducible refine W_ret ?_ | with_reducible refine W_exit ?_ | with_reducible refine W_skip ?_ | with_reducible refine W_label ?_ | with_reducible refine W_drawV hTT (by kernel_rfl) ?_); try simp only [und3, und4, und22, und26, und29, und45, und64, info3, info4, info22, info26, info29, info45, info64, info50, und50, aggT, J0, J1, J2, J3, J4, J5, J6, J7, J8, J9, J10, J11, J12, gv, dstAt, J13, J14, J15, J16, J17, J18, J19, J20, J21, J22, J23, J24, J25, J26, J27, J28, J29, J30, J31, J32, J33, J34, J35, J36, J37, J38, J39, J40, J41, J42, J43, J44, J45, J46, J47, J48, J49, J50, J51, J52, J53, J54, J55, J56, J57, J58, J59, aop, J60, J61, J62, evalsA, partsA, evalO, J63, J64, J65, J66, J67, J68, J69, J70, J71, updO, J72, ofArgs, J73, binV, intBin, J74, unV, J75, J76, mmV, builtinA, J77, J78, J79, J80, J81, J82, J83, J84, J85, J86, J87, J88, J89, Nat.reduceLT, Nat.reduceEqDiff, Nat.reduceAdd, Nat.reduceSub, Nat.reduceMul, reduceIte, J90, J91, J92, reduceCtorEq, J93, J94, J95, J96, J97, J98, J99, J100, hla, e2]))
  refine VIf_split (fun hb1 => ?_) (fun hb1 => ?_)
  · repeat (first | with_reducible refine W_seq ?_ | with_reducible refine W_block ?_ | with_reducible refine W_scope ?_ | ((first | with_reducible refine W_regionV hTT ?_ | with_reducible refine W_condV ?_ | with_reducible refine W_ret ?_ | with_reducible refine W_exit ?_ | with_reducible refine W_skip ?_ | with_reducible refine W_label ?_ | with_reducible refine W_drawV hTT (by kernel_rfl) ?_); try simp only [und3, und4, und22, und26, und29, und45, und64, info3, info4, info22, info26, info29, info45, info64, info50, und50, aggT, J0, J1, J2, J3, J4, J5, J6, J7, J8, J9, J10, J11, J12, gv, dstAt, J13, J14, J15, J16, J17, J18, J19, J20, J21, J22, J23, J24, J25, J26, J27, J28, J29, J30, J31, J32, J33, J34, J35, J36, J37, J38, J39, J40, J41, J42, J43, J44, J45, J46, J47, J48, J49, J50, J51, J52, J53, J54, J55, J56, J57, J58, J59, aop, J60, J61, J62, evalsA, partsA, evalO, J63, J64, J65, J66, J67, J68, J69, J70, J71, updO, J72, ofArgs, J73, binV, intBin, J74, unV, J75, J76, mmV, builtinA, J77, J78, J79, J80, J81, J82, J83, J84, J85, J86, J87, J88, J89, Nat.reduceLT, Nat.reduceEqDiff, Nat.reduceAdd, Nat.reduceSub, Nat.reduceMul, reduceIte, J90, J91, J92, reduceCtorEq, J93, J94, J95, J96, J97, J98, J99, J100, hla]))
    exact ⟨_, _, rfl, .inl rfl, Ext.refl hok⟩
  (try simp only [und3, und4, und22, und26, und29, und45, und64, info3, info4, info22, info26, info29, info45, info64, info50, und50, aggT, J0, J1, J2, J3, J4, J5, J6, J7, J8, J9, J10, J11, J12, gv, dstAt, J13, J14, J15, J16, J17, J18, J19, J20, J21, J22, J23, J24, J25, J26, J27, J28, J29, J30, J31, J32, J33, J34, J35, J36, J37, J38, J39, J40, J41, J42, J43, J44, J45, J46, J47, J48, J49, J50, J51, J52, J53, J54, J55, J56, J57, J58, J59, aop, J60, J61, J62, evalsA, partsA, evalO, J63, J64, J65, J66, J67, J68, J69, J70, J71, updO, J72, ofArgs, J73, binV, intBin, J74, unV, J75, J76, mmV, builtinA, J77, J78, J79, J80, J81, J82, J83, J84, J85, J86, J87, J88, J89, Nat.reduceLT, Nat.reduceEqDiff, Nat.reduceAdd, Nat.reduceSub, Nat.reduceMul, reduceIte, J90, J91, J92, reduceCtorEq, J93, J94, J95, J96, J97, J98, J99, J100, hla]); repeat (first | with_reducible refine W_seq ?_ | with_reducible refine W_scope ?_ | ((first | with_reducible refine W_regionV hTT ?_ | with_reducible refine W_condV ?_ | with_reducible refine W_ret ?_ | with_reducible refine W_exit ?_ | with_reducible refine W_skip ?_ | with_reducible refine W_label ?_ | with_reducible refine W_drawV hTT (by kernel_rfl) ?_); try simp only [und3, und4, und22, und26, und29, und45, und64, info3, info4, info22, info26, info29, info45, info64, info50, und50, aggT, J0, J1, J2, J3, J4, J5, J6, J7, J8, J9, J10, J11, J12, gv, dstAt, J13, J14, J15, J16, J17, J18, J19, J20, J21, J22, J23, J24, J25, J26, J27, J28, J29, J30, J31, J32, J33, J34, J35, J36, J37, J38, J39, J40, J41, J42, J43, J44, J45, J46, J47, J48, J49, J50, J51, J52, J53, J54, J55, J56, J57, J58, J59, aop, J60, J61, J62, evalsA, partsA, evalO, J63, J64, J65, J66, J67, J68, J69, J70, J71, updO, J72, ofArgs, J73, binV, intBin, J74, unV, J75, J76, mmV, builtinA, J77, J78, J79, J80, J81, J82, J83, J84, J85, J86, J87, J88, J89, Nat.reduceLT, Nat.reduceEqDiff, Nat.reduceAdd, Nat.reduceSub, Nat.reduceMul, reduceIte, J90, J91, J92, reduceCtorEq, J93, J94, J95, J96, J97, J98, J99, J100, hla]))
  refine W_block ?_
  refine W_loopI (fun m τ ds S' => Ext S2 S' ∧ ds = [] ∧ ∃ k : Nat, m = xs.length + 1 - k ∧ 1 ≤ k ∧ k ≤ xs.length + 1 ∧ τ 0 = va ∧ τ 5 = .int .i64 xs.length ∧ τ 6 = .int .i64 k) xs.length ?_ ?_
  · refine ⟨Ext.refl hok, rfl, 1, by omega, by omega, by omega, ?_, ?_, ?_⟩ <;> first | rfl | simp only [und3, und4, und22, und26, und29, und45, und64, info3, info4, info22, info26, info29, info45, info64, info50, und50, aggT, J0, J1, J2, J3, J4, J5, J6, J7, J8, J9, J10, J11, J12, gv, dstAt, J13, J14, J15, J16, J17, J18, J19, J20, J21, J22, J23, J24, J25, J26, J27, J28, J29, J30, J31, J32, J33, J34, J35, J36, J37, J38, J39, J40, J41, J42, J43, J44, J45, J46, J47, J48, J49, J50, J51, J52, J53, J54, J55, J56, J57, J58, J59, aop, J60, J61, J62, evalsA, partsA, evalO, J63, J64, J65, J66, J67, J68, J69, J70, J71, updO, J72, ofArgs, J73, binV, intBin, J74, unV, J75, J76, mmV, builtinA, J77, J78, J79, J80, J81, J82, J83, J84, J85, J86, J87, J88, J89, Nat.reduceLT, Nat.reduceEqDiff, Nat.reduceAdd, Nat.reduceSub, Nat.reduceMul, reduceIte, J90, J91, J92, reduceCtorEq, J93, J94, J95, J96, J97, J98, J99, J100]
  rintro m τ ds S1 ⟨hE1, rfl, k, rfl, hk0, hk, t0, t5, t6⟩
  have hw := wrap_succ (k := k) (by omega)
  by_cases hlt : k ≤ xs.length
  · have e1 : decide ((k : Int) ≤ xs.length) = true := by simpa using hlt
    repeat (first | with_reducible refine W_seq ?_ | with_reducible refine W_block ?_ | with_reducible refine W_scope ?_ | ((first | with_reducible refine W_regionV hTT ?_ | with_reducible refine W_condV ?_ | with_reducible refine W_ret ?_ | with_reducible refine W_exit ?_ | with_reducible refine W_skip ?_ | with_reducible refine W_label ?_ | with_reducible refine W_drawV hTT (by kernel_rfl) ?_); try simp only [und3, und4, und22, und26, und29, und45, und64, info3, info4, info22, info26, info29, info45, info64, info50, und50, aggT, J0, J1, J2, J3, J4, J5, J6, J7, J8, J9, J10, J11, J12, gv, dstAt, J13, J14, J15, J16, J17, J18, J19, J20, J21, J22, J23, J24, J25, J26, J27, J28, J29, J30, J31, J32, J33, J34, J35, J36, J37, J38, J39, J40, J41, J42, J43, J44, J45, J46, J47, J48, J49, J50, J51, J52, J53, J54, J55, J56, J57, J58, J59, aop, J60, J61, J62, evalsA, partsA, evalO, J63, J64, J65, J66, J67, J68, J69, J70, J71, updO, J72, ofArgs, J73, binV, intBin, J74, unV, J75, J76, mmV, builtinA, J77, J78, J79, J80, J81, J82, J83, J84, J85, J86, J87, J88, J89, Nat.reduceLT, Nat.reduceEqDiff, Nat.reduceAdd, Nat.reduceSub, Nat.reduceMul, reduceIte, J90, J91, J92, reduceCtorEq, J93, J94, J95, J96, J97, J98, J99, J100, t0, t5, t6, e1]))
    refine VCall_intro (lack_call hE1.ok hpl (by rw [hva] at hx; exact hx.extd hE1) hn hlt hn0) ?_
    rintro v S3 ⟨⟨r2, rfl⟩, hE3⟩
    (try simp only [und3, und4, und22, und26, und29, und45, und64, info3, info4, info22, info26, info29, info45, info64, info50, und50, aggT, J0, J1, J2, J3, J4, J5, J6, J7, J8, J9, J10, J11, J12, gv, dstAt, J13, J14, J15, J16, J17, J18, J19, J20, J21, J22, J23, J24, J25, J26, J27, J28, J29, J30, J31, J32, J33, J34, J35, J36, J37, J38, J39, J40, J41, J42, J43, J44, J45, J46, J47, J48, J49, J50, J51, J52, J53, J54, J55, J56, J57, J58, J59, aop, J60, J61, J62, evalsA, partsA, evalO, J63, J64, J65, J66, J67, J68, J69, J70, J71, updO, J72, ofArgs, J73, binV, intBin, J74, unV, J75, J76, mmV, builtinA, J77, J78, J79, J80, J81, J82, J83, J84, J85, J86, J87, J88, J89, Nat.reduceLT, Nat.reduceEqDiff, Nat.reduceAdd, Nat.reduceSub, Nat.reduceMul, reduceIte, J90, J91, J92, reduceCtorEq, J93, J94, J95, J96, J97, J98, J99, J100, t0, t5, t6]); repeat (first | with_reducible refine W_seq ?_ | with_reducible refine W_block ?_ | with_reducible refine W_scope ?_ | ((first | with_reducible refine W_regionV hTT ?_ | with_reducible refine W_condV ?_ | with_reducible refine W_ret ?_ | with_reducible refine W_exit ?_ | with_reducible refine W_skip ?_ | with_reducible refine W_label ?_ | with_reducible refine W_drawV hTT (by kernel_rfl) ?_); try simp only [und3, und4, und22, und26, und29, und45, und64, info3, info4, info22, info26, info29, info45, info64, info50, und50, aggT, J0, J1, J2, J3, J4, J5, J6, J7, J8, J9, J10, J11, J12, gv, dstAt, J13, J14, J15, J16, J17, J18, J19, J20, J21, J22, J23, J24, J25, J26, J27, J28, J29, J30, J31, J32, J33, J34, J35, J36, J37, J38, J39, J40, J41, J42, J43, J44, J45, J46, J47, J48, J49, J50, J51, J52, J53, J54, J55, J56, J57, J58, J59, aop, J60, J61, J62, evalsA, partsA, evalO, J63, J64, J65, J66, J67, J68, J69, J70, J71, updO, J72, ofArgs, J73, binV, intBin, J74, unV, J75, J76, mmV, builtinA, J77, J78, J79, J80, J81, J82, J83, J84, J85, J86, J87, J88, J89, Nat.reduceLT, Nat.reduceEqDiff, Nat.reduceAdd, Nat.reduceSub, Nat.reduceMul, reduceIte, J90, J91, J92, reduceCtorEq, J93, J94, J95, J96, J97, J98, J99, J100, t0, t5, t6]))
    refine VIf_split (fun hb2 => ?_) (fun hb2 => ?_)
    · repeat (first | with_reducible refine W_seq ?_ | with_reducible refine W_block ?_ | with_reducible refine W_scope ?_ | ((first | with_reducible refine W_regionV hTT ?_ | with_reducible refine W_condV ?_ | with_reducible refine W_ret ?_ | with_reducible refine W_exit ?_ | with_reducible refine W_skip ?_ | with_reducible refine W_label ?_ | with_reducible refine W_drawV hTT (by kernel_rfl) ?_); try simp only [und3, und4, und22, und26, und29, und45, und64, info3, info4, info22, info26, info29, info45, info64, info50, und50, aggT, J0, J1, J2, J3, J4, J5, J6, J7, J8, J9, J10, J11, J12, gv, dstAt, J13, J14, J15, J16, J17, J18, J19, J20, J21, J22, J23, J24, J25, J26, J27, J28, J29, J30, J31, J32, J33, J34, J35, J36, J37, J38, J39, J40, J41, J42, J43, J44, J45, J46, J47, J48, J49, J50, J51, J52, J53, J54, J55, J56, J57, J58, J59, aop, J60, J61, J62, evalsA, partsA, evalO, J63, J64, J65, J66, J67, J68, J69, J70, J71, updO, J72, ofArgs, J73, binV, intBin, J74, unV, J75, J76, mmV, builtinA, J77, J78, J79, J80, J81, J82, J83, J84, J85, J86, J87, J88, J89, Nat.reduceLT, Nat.reduceEqDiff, Nat.reduceAdd, Nat.reduceSub, Nat.reduceMul, reduceIte, J90, J91, J92, reduceCtorEq, J93, J94, J95, J96, J97, J98, J99, J100, t0, t5, t6]))
      exact ⟨_, _, rfl, .inl rfl, hE1.trans hE3⟩
    · repeat (first | with_reducible refine W_seq ?_ | with_reducible refine W_block ?_ | with_reducible refine W_scope ?_ | ((first | with_reducible refine W_regionV hTT ?_ | with_reducible refine W_condV ?_ | with_reducible refine W_ret ?_ | with_reducible refine W_exit ?_ | with_reducible refine W_skip ?_ | with_reducible refine W_label ?_ | with_reducible refine W_drawV hTT (by kernel_rfl) ?_); try simp only [und3, und4, und22, und26, und29, und45, und64, info3, info4, info22, info26, info29, info45, info64, info50, und50, aggT, J0, J1, J2, J3, J4, J5, J6, J7, J8, J9, J10, J11, J12, gv, dstAt, J13, J14, J15, J16, J17, J18, J19, J20, J21, J22, J23, J24, J25, J26, J27, J28, J29, J30, J31, J32, J33, J34, J35, J36, J37, J38, J39, J40, J41, J42, J43, J44, J45, J46, J47, J48, J49, J50, J51, J52, J53, J54, J55, J56, J57, J58, J59, aop, J60, J61, J62, evalsA, partsA, evalO, J63, J64, J65, J66, J67, J68, J69, J70, J71, updO, J72, ofArgs, J73, binV, intBin, J74, unV, J75, J76, mmV, builtinA, J77, J78, J79, J80, J81, J82, J83, J84, J85, J86, J87, J88, J89, Nat.reduceLT, Nat.reduceEqDiff, Nat.reduceAdd, Nat.reduceSub, Nat.reduceMul, reduceIte, J90, J91, J92, reduceCtorEq, J93, J94, J95, J96, J97, J98, J99, J100, t0, t5, t6, hw]))
      refine LoopQ_intro (xs.length + 1 - (k + 1)) (by omega) ⟨hE1.trans hE3, rfl, k + 1, rfl, by omega, by omega, by simp only [und3, und4, und22, und26, und29, und45, und64, info3, info4, info22, info26, info29, info45, info64, info50, und50, aggT, J0, J1, J2, J3, J4, J5, J6, J7, J8, J9, J10, J11, J12, gv, dstAt, J13, J14, J15, J16, J17, J18, J19, J20, J21, J22, J23, J24, J25, J26, J27, J28, J29, J30, J31, J32, J33, J34, J35, J36, J37, J38, J39, J40, J41, J42, J43, J44, J45, J46, J47, J48, J49, J50, J51, J52, J53, J54, J55, J56, J57, J58, J59, aop, J60, J61, J62, evalsA, partsA, evalO, J63, J64, J65, J66, J67, J68, J69, J70, J71, updO, J72, ofArgs, J73, binV, intBin, J74, unV, J75, J76, mmV, builtinA, J77, J78, J79, J80, J81, J82, J83, J84, J85, J86, J87, J88, J89, Nat.reduceLT, Nat.reduceEqDiff, Nat.reduceAdd, Nat.reduceSub, Nat.reduceMul, reduceIte, J90, J91, J92, reduceCtorEq, J93, J94, J95, J96, J97, J98, J99, J100, t0], by simp only [und3, und4, und22, und26, und29, und45, und64, info3, info4, info22, info26, info29, info45, info64, info50, und50, aggT, J0, J1, J2, J3, J4, J5, J6, J7, J8, J9, J10, J11, J12, gv, dstAt, J13, J14, J15, J16, J17, J18, J19, J20, J21, J22, J23, J24, J25, J26, J27, J28, J29, J30, J31, J32, J33, J34, J35, J36, J37, J38, J39, J40, J41, J42, J43, J44, J45, J46, J47, J48, J49, J50, J51, J52, J53, J54, J55, J56, J57, J58, J59, aop, J60, J61, J62, evalsA, partsA, evalO, J63, J64, J65, J66, J67, J68, J69, J70, J71, updO, J72, ofArgs, J73, binV, intBin, J74, unV, J75, J76, mmV, builtinA, J77, J78, J79, J80, J81, J82, J83, J84, J85, J86, J87, J88, J89, Nat.reduceLT, Nat.reduceEqDiff, Nat.reduceAdd, Nat.reduceSub, Nat.reduceMul, reduceIte, J90, J91, J92, reduceCtorEq, J93, J94, J95, J96, J97, J98, J99, J100, t5], by simp only [und3, und4, und22, und26, und29, und45, und64, info3, info4, info22, info26, info29, info45, info64, info50, und50, aggT, J0, J1, J2, J3, J4, J5, J6, J7, J8, J9, J10, J11, J12, gv, dstAt, J13, J14, J15, J16, J17, J18, J19, J20, J21, J22, J23, J24, J25, J26, J27, J28, J29, J30, J31, J32, J33, J34, J35, J36, J37, J38, J39, J40, J41, J42, J43, J44, J45, J46, J47, J48, J49, J50, J51, J52, J53, J54, J55, J56, J57, J58, J59, aop, J60, J61, J62, evalsA, partsA, evalO, J63, J64, J65, J66, J67, J68, J69, J70, J71, updO, J72, ofArgs, J73, binV, intBin, J74, unV, J75, J76, mmV, builtinA, J77, J78, J79, J80, J81, J82, J83, J84, J85, J86, J87, J88, J89, Nat.reduceLT, Nat.reduceEqDiff, Nat.reduceAdd, Nat.reduceSub, Nat.reduceMul, reduceIte, J90, J91, J92, reduceCtorEq, J93, J94, J95, J96, J97, J98, J99, J100, t6, hw]⟩
  have e1 : decide ((k : Int) ≤ xs.length) = false := by simpa using hlt
  -- the table's rows
  have hmk := make_one (T := TT) (S := S1) (m := xs.length) (k := .i64) (k' := .i64) und22 info26 rfl rfl (by omega) (by omega)
  have hbn : lenOpA TT (S1.push (.cells (List.replicate xs.length (Value.slice none 0 0)) 26 0)) 22 (.slice (some ⟨S1.n, 0, none⟩) xs.length xs.length) = some (.int .i64 xs.length) := by simp [lenOpA, und22]
  (try simp only [und3, und4, und22, und26, und29, und45, und64, info3, info4, info22, info26, info29, info45, info64, info50, und50, aggT, J0, J1, J2, J3, J4, J5, J6, J7, J8, J9, J10, J11, J12, gv, dstAt, J13, J14, J15, J16, J17, J18, J19, J20, J21, J22, J23, J24, J25, J26, J27, J28, J29, J30, J31, J32, J33, J34, J35, J36, J37, J38, J39, J40, J41, J42, J43, J44, J45, J46, J47, J48, J49, J50, J51, J52, J53, J54, J55, J56, J57, J58, J59, aop, J60, J61, J62, evalsA, partsA, evalO, J63, J64, J65, J66, J67, J68, J69, J70, J71, updO, J72, ofArgs, J73, binV, intBin, J74, unV, J75, J76, mmV, builtinA, J77, J78, J79, J80, J81, J82, J83, J84, J85, J86, J87, J88, J89, Nat.reduceLT, Nat.reduceEqDiff, Nat.reduceAdd, Nat.reduceSub, Nat.reduceMul, reduceIte, J90, J91, J92, reduceCtorEq, J93, J94, J95, J96, J97, J98, J99, J100, t0, t5, t6, e1, hmk, hbn]); repeat (first | with_reducible refine W_seq ?_ | with_reducible refine W_scope ?_ | ((first | with_reducible refine W_regionV hTT ?_ | with_reducible refine W_condV ?_ | with_reducible refine W_ret ?_ | with_reducible refine W_exit ?_ | with_reducible refine W_skip ?_ | with_reducible refine W_label ?_ | with_reducible refine W_drawV hTT (by kernel_rfl) ?_); try simp only [und3, und4, und22, und26, und29, und45, und64, info3, info4, info22, info26, info29, info45, info64, info50, und50, aggT, J0, J1, J2, J3, J4, J5, J6, J7, J8, J9, J10, J11, J12, gv, dstAt, J13, J14, J15, J16, J17, J18, J19, J20, J21, J22, J23, J24, J25, J26, J27, J28, J29, J30, J31, J32, J33, J34, J35, J36, J37, J38, J39, J40, J41, J42, J43, J44, J45, J46, J47, J48, J49, J50, J51, J52, J53, J54, J55, J56, J57, J58, J59, aop, J60, J61, J62, evalsA, partsA, evalO, J63, J64, J65, J66, J67, J68, J69, J70, J71, updO, J72, ofArgs, J73, binV, intBin, J74, unV, J75, J76, mmV, builtinA, J77, J78, J79, J80, J81, J82, J83, J84, J85, J86, J87, J88, J89, Nat.reduceLT, Nat.reduceEqDiff, Nat.reduceAdd, Nat.reduceSub, Nat.reduceMul, reduceIte, J90, J91, J92, reduceCtorEq, J93, J94, J95, J96, J97, J98, J99, J100, t0, t5, t6, e1, hmk, hbn]))
  refine W_block ?_
  have hokA : (S1.push (.cells (List.replicate xs.length (Value.slice none 0 0)) 26 0)).ok := by rw [ok_push_iff]; exact hE1.ok
  have hn1 := hE1.n
  refine W_loopI (fun m τ ds S' => Ext S2 S' ∧ ds = [] ∧ ∃ (i : Nat) (bs : List Nat), m = xs.length - i ∧ i ≤ xs.length ∧ bs.length = i ∧ τ 0 = va ∧ τ 5 = .int .i64 xs.length ∧ τ 7 = .slice (some ⟨S1.n, 0, none⟩) xs.length xs.length ∧ τ 39 = .int .i64 xs.length ∧ τ 40 = .int .i64 i ∧
    S'.get S1.n = some (.cells (bs.map (rowv xs.length) ++ List.replicate (xs.length - i) (Value.slice none 0 0)) 26 0) ∧ OwnR S' S2.n xs.length 3 bs (fun _ _ => 0)) xs.length ?_ ?_
  · refine ⟨hE1.push _, rfl, 0, [], by omega, by omega, rfl, ?_, ?_, ?_, ?_, ?_, get_push_new _ rfl, ⟨by simp, by simp, by simp⟩⟩ <;> first | rfl | simp only [und3, und4, und22, und26, und29, und45, und64, info3, info4, info22, info26, info29, info45, info64, info50, und50, aggT, J0, J1, J2, J3, J4, J5, J6, J7, J8, J9, J10, J11, J12, gv, dstAt, J13, J14, J15, J16, J17, J18, J19, J20, J21, J22, J23, J24, J25, J26, J27, J28, J29, J30, J31, J32, J33, J34, J35, J36, J37, J38, J39, J40, J41, J42, J43, J44, J45, J46, J47, J48, J49, J50, J51, J52, J53, J54, J55, J56, J57, J58, J59, aop, J60, J61, J62, evalsA, partsA, evalO, J63, J64, J65, J66, J67, J68, J69, J70, J71, updO, J72, ofArgs, J73, binV, intBin, J74, unV, J75, J76, mmV, builtinA, J77, J78, J79, J80, J81, J82, J83, J84, J85, J86, J87, J88, J89, Nat.reduceLT, Nat.reduceEqDiff, Nat.reduceAdd, Nat.reduceSub, Nat.reduceMul, reduceIte, J90, J91, J92, reduceCtorEq, J93, J94, J95, J96, J97, J98, J99, J100, t0, t5, t6]
  clear e1 hw t0 t5 t6 hbn
  rintro m τ ds S3 ⟨hE3, rfl, i, bs, rfl, hi, hbs, t0, t5, t7, t39, t40, htab, hR⟩
  have hw := wrap_succ (k := i) (by omega)
  by_cases hlt2 : i < xs.length
  · have e1 : decide ((i : Int) < xs.length) = true := by simpa using hlt2
    have hmk := make_one (T := TT) (S := S3) (m := xs.length) (k := .i64) (k' := .i64) und26 info3 rfl rfl (by omega) (by omega)
    rw [mrow_zero] at hmk
    have a1 := arr_index (T := TT) (b := S1.n) (c := xs.length) (k := .i64) und22 info26 rfl hlt2
    have hlt3 := lt_of_get htab
    have htab' : (S3.push (.cells (iv (mrow xs.length fun _ => 0)) 3 0)).get S1.n = some (.cells (bs.map (rowv xs.length) ++ List.replicate (xs.length - i) (Value.slice none 0 0)) 26 0) := by
      rw [get_push_ne _ (by omega)]; exact htab
    have s1 := store_one (T := TT) (v := rowv xs.length S3.n) (o := i) info26 htab' rfl rfl (by simp [hbs]; omega)
    have hset : (bs.map (rowv xs.length) ++ List.replicate (xs.length - i) (Value.slice none 0 0)).set i (rowv xs.length S3.n) = (bs ++ [S3.n]).map (rowv xs.length) ++ List.replicate (xs.length - (i + 1)) (Value.slice none 0 0) := by
      rw [List.set_append_right _ _ (by simp [hbs])]
      have : xs.length - i = (xs.length - (i + 1)) + 1 := by omega
      rw [this, List.replicate_succ]
      simp [hbs]
    rw [hset] at s1
    change storeA TT _ 26 (.slice (some ⟨S3.n, 0, none⟩) xs.length xs.length) _ = _ at s1
    have hokP : (S3.push (.cells (iv (mrow xs.length fun _ => 0)) 3 0)).ok := by rw [ok_push_iff]; exact hE3.ok
    repeat (first | with_reducible refine W_seq ?_ | with_reducible refine W_block ?_ | with_reducible refine W_scope ?_ | ((first | with_reducible refine W_regionV hTT ?_ | with_reducible refine W_condV ?_ | with_reducible refine W_ret ?_ | with_reducible refine W_exit ?_ | with_reducible refine W_skip ?_ | with_reducible refine W_label ?_ | with_reducible refine W_drawV hTT (by kernel_rfl) ?_); try simp only [und3, und4, und22, und26, und29, und45, und64, info3, info4, info22, info26, info29, info45, info64, info50, und50, aggT, J0, J1, J2, J3, J4, J5, J6, J7, J8, J9, J10, J11, J12, gv, dstAt, J13, J14, J15, J16, J17, J18, J19, J20, J21, J22, J23, J24, J25, J26, J27, J28, J29, J30, J31, J32, J33, J34, J35, J36, J37, J38, J39, J40, J41, J42, J43, J44, J45, J46, J47, J48, J49, J50, J51, J52, J53, J54, J55, J56, J57, J58, J59, aop, J60, J61, J62, evalsA, partsA, evalO, J63, J64, J65, J66, J67, J68, J69, J70, J71, updO, J72, ofArgs, J73, binV, intBin, J74, unV, J75, J76, mmV, builtinA, J77, J78, J79, J80, J81, J82, J83, J84, J85, J86, J87, J88, J89, Nat.reduceLT, Nat.reduceEqDiff, Nat.reduceAdd, Nat.reduceSub, Nat.reduceMul, reduceIte, J90, J91, J92, reduceCtorEq, J93, J94, J95, J96, J97, J98, J99, J100, t0, t5, t7, t39, t40, e1, hmk, a1, s1, hw]))
    refine LoopQ_intro (xs.length - (i + 1)) (by omega) ⟨(hE3.push _).set _ (by omega) (by rw [push_n]; omega), rfl, i + 1, bs ++ [S3.n], rfl, by omega, by simp [hbs], by simp only [und3, und4, und22, und26, und29, und45, und64, info3, info4, info22, info26, info29, info45, info64, info50, und50, aggT, J0, J1, J2, J3, J4, J5, J6, J7, J8, J9, J10, J11, J12, gv, dstAt, J13, J14, J15, J16, J17, J18, J19, J20, J21, J22, J23, J24, J25, J26, J27, J28, J29, J30, J31, J32, J33, J34, J35, J36, J37, J38, J39, J40, J41, J42, J43, J44, J45, J46, J47, J48, J49, J50, J51, J52, J53, J54, J55, J56, J57, J58, J59, aop, J60, J61, J62, evalsA, partsA, evalO, J63, J64, J65, J66, J67, J68, J69, J70, J71, updO, J72, ofArgs, J73, binV, intBin, J74, unV, J75, J76, mmV, builtinA, J77, J78, J79, J80, J81, J82, J83, J84, J85, J86, J87, J88, J89, Nat.reduceLT, Nat.reduceEqDiff, Nat.reduceAdd, Nat.reduceSub, Nat.reduceMul, reduceIte, J90, J91, J92, reduceCtorEq, J93, J94, J95, J96, J97, J98, J99, J100, t0], by simp only [und3, und4, und22, und26, und29, und45, und64, info3, info4, info22, info26, info29, info45, info64, info50, und50, aggT, J0, J1, J2, J3, J4, J5, J6, J7, J8, J9, J10, J11, J12, gv, dstAt, J13, J14, J15, J16, J17, J18, J19, J20, J21, J22, J23, J24, J25, J26, J27, J28, J29, J30, J31, J32, J33, J34, J35, J36, J37, J38, J39, J40, J41, J42, J43, J44, J45, J46, J47, J48, J49, J50, J51, J52, J53, J54, J55, J56, J57, J58, J59, aop, J60, J61, J62, evalsA, partsA, evalO, J63, J64, J65, J66, J67, J68, J69, J70, J71, updO, J72, ofArgs, J73, binV, intBin, J74, unV, J75, J76, mmV, builtinA, J77, J78, J79, J80, J81, J82, J83, J84, J85, J86, J87, J88, J89, Nat.reduceLT, Nat.reduceEqDiff, Nat.reduceAdd, Nat.reduceSub, Nat.reduceMul, reduceIte, J90, J91, J92, reduceCtorEq, J93, J94, J95, J96, J97, J98, J99, J100, t5], by simp only [und3, und4, und22, und26, und29, und45, und64, info3, info4, info22, info26, info29, info45, info64, info50, und50, aggT, J0, J1, J2, J3, J4, J5, J6, J7, J8, J9, J10, J11, J12, gv, dstAt, J13, J14, J15, J16, J17, J18, J19, J20, J21, J22, J23, J24, J25, J26, J27, J28, J29, J30, J31, J32, J33, J34, J35, J36, J37, J38, J39, J40, J41, J42, J43, J44, J45, J46, J47, J48, J49, J50, J51, J52, J53, J54, J55, J56, J57, J58, J59, aop, J60, J61, J62, evalsA, partsA, evalO, J63, J64, J65, J66, J67, J68, J69, J70, J71, updO, J72, ofArgs, J73, binV, intBin, J74, unV, J75, J76, mmV, builtinA, J77, J78, J79, J80, J81, J82, J83, J84, J85, J86, J87, J88, J89, Nat.reduceLT, Nat.reduceEqDiff, Nat.reduceAdd, Nat.reduceSub, Nat.reduceMul, reduceIte, J90, J91, J92, reduceCtorEq, J93, J94, J95, J96, J97, J98, J99, J100, t7], by simp only [und3, und4, und22, und26, und29, und45, und64, info3, info4, info22, info26, info29, info45, info64, info50, und50, aggT, J0, J1, J2, J3, J4, J5, J6, J7, J8, J9, J10, J11, J12, gv, dstAt, J13, J14, J15, J16, J17, J18, J19, J20, J21, J22, J23, J24, J25, J26, J27, J28, J29, J30, J31, J32, J33, J34, J35, J36, J37, J38, J39, J40, J41, J42, J43, J44, J45, J46, J47, J48, J49, J50, J51, J52, J53, J54, J55, J56, J57, J58, J59, aop, J60, J61, J62, evalsA, partsA, evalO, J63, J64, J65, J66, J67, J68, J69, J70, J71, updO, J72, ofArgs, J73, binV, intBin, J74, unV, J75, J76, mmV, builtinA, J77, J78, J79, J80, J81, J82, J83, J84, J85, J86, J87, J88, J89, Nat.reduceLT, Nat.reduceEqDiff, Nat.reduceAdd, Nat.reduceSub, Nat.reduceMul, reduceIte, J90, J91, J92, reduceCtorEq, J93, J94, J95, J96, J97, J98, J99, J100, t39], by simp only [und3, und4, und22, und26, und29, und45, und64, info3, info4, info22, info26, info29, info45, info64, info50, und50, aggT, J0, J1, J2, J3, J4, J5, J6, J7, J8, J9, J10, J11, J12, gv, dstAt, J13, J14, J15, J16, J17, J18, J19, J20, J21, J22, J23, J24, J25, J26, J27, J28, J29, J30, J31, J32, J33, J34, J35, J36, J37, J38, J39, J40, J41, J42, J43, J44, J45, J46, J47, J48, J49, J50, J51, J52, J53, J54, J55, J56, J57, J58, J59, aop, J60, J61, J62, evalsA, partsA, evalO, J63, J64, J65, J66, J67, J68, J69, J70, J71, updO, J72, ofArgs, J73, binV, intBin, J74, unV, J75, J76, mmV, builtinA, J77, J78, J79, J80, J81, J82, J83, J84, J85, J86, J87, J88, J89, Nat.reduceLT, Nat.reduceEqDiff, Nat.reduceAdd, Nat.reduceSub, Nat.reduceMul, reduceIte, J90, J91, J92, reduceCtorEq, J93, J94, J95, J96, J97, J98, J99, J100, t40, hw], ?_, ?_⟩
    · exact get_set_same _ hokP (by rw [push_n]; omega) rfl
    · refine hR.more (fun _ => rfl) (fun j hj => ?_) (b := S3.n) ?_ hE3.n (fun j hj => ?_)
      · have hg := hR.get j hj
        have hl := lt_of_get hg
        rw [get_set_ne _ (by rw [push_n]; omega) (fun e => by rw [e, htab] at hg; simp at hg), get_push_ne _ (by omega)]
      · rw [get_set_ne _ (by rw [push_n]; omega) (by omega)]
        exact get_push_new _ rfl
      · have := lt_of_get (hR.get j hj)
        omega
  have e1 : decide ((i : Int) < xs.length) = false := by simpa using hlt2
  have hii : i = xs.length := by omega
  subst hii
  repeat (first | with_reducible refine W_seq ?_ | with_reducible refine W_block ?_ | with_reducible refine W_scope ?_ | ((first | with_reducible refine W_regionV hTT ?_ | with_reducible refine W_condV ?_ | with_reducible refine W_ret ?_ | with_reducible refine W_exit ?_ | with_reducible refine W_skip ?_ | with_reducible refine W_label ?_ | with_reducible refine W_drawV hTT (by kernel_rfl) ?_); try simp only [und3, und4, und22, und26, und29, und45, und64, info3, info4, info22, info26, info29, info45, info64, info50, und50, aggT, J0, J1, J2, J3, J4, J5, J6, J7, J8, J9, J10, J11, J12, gv, dstAt, J13, J14, J15, J16, J17, J18, J19, J20, J21, J22, J23, J24, J25, J26, J27, J28, J29, J30, J31, J32, J33, J34, J35, J36, J37, J38, J39, J40, J41, J42, J43, J44, J45, J46, J47, J48, J49, J50, J51, J52, J53, J54, J55, J56, J57, J58, J59, aop, J60, J61, J62, evalsA, partsA, evalO, J63, J64, J65, J66, J67, J68, J69, J70, J71, updO, J72, ofArgs, J73, binV, intBin, J74, unV, J75, J76, mmV, builtinA, J77, J78, J79, J80, J81, J82, J83, J84, J85, J86, J87, J88, J89, Nat.reduceLT, Nat.reduceEqDiff, Nat.reduceAdd, Nat.reduceSub, Nat.reduceMul, reduceIte, J90, J91, J92, reduceCtorEq, J93, J94, J95, J96, J97, J98, J99, J100, t0, t5, t7, t39, t40, e1]))
  rw [← hva]
  refine VCall_intro (clone_call hE3.ok (hx.extd hE3) hn0 (by omega)) ?_
  rintro v S4 ⟨⟨bd, hbd, rfl, hleft⟩, hE4⟩
  have hn3 := hE3.n
  have hn4 := hE4.n
  have s1 := store_one (T := TT) (S := S4.push (.cells [.slice none 0 0] 26 0)) (b := S4.n) (o := 0) (v := .slice (some ⟨bd, 0, none⟩) xs.length BIG) info26 (get_push_new _ rfl) rfl rfl (by simp)
  simp only [List.set_cons_zero] at s1
  have hbdlt := lt_of_get hleft
  generalize hS5 : (S4.push (.cells [.slice none 0 0] 26 0)).set S4.n (.cells [.slice (some ⟨bd, 0, none⟩) xs.length BIG] 26 0) = S5 at s1
  have hokP : (S4.push (.cells [.slice none 0 0] 26 0)).ok := by rw [ok_push_iff]; exact hE4.ok
  have hE5 : Ext S4 S5 := by
    rw [← hS5]
    exact ((Ext.refl hE4.ok).push _).set _ (Nat.le_refl _) (by rw [push_n]; omega)
  have hE35 := hE4.trans hE5
  have htab2 := hE35.get htab
  rw [Nat.sub_self, List.replicate_zero, List.append_nil] at htab2
  have hC : CSt S2 S5 xs.length S1.n S4.n bd bs (fun _ _ => 0) xs := ⟨hE3.trans hE35, ⟨by omega, by omega, by omega⟩, htab2, hbs, hR.keep fun i hi => hE35.same _ (lt_of_get (hR.get i hi)), by rw [← hS5]; exact get_set_same _ hokP (by rw [push_n]; omega) rfl, hE5.get hleft, rfl⟩
  have hwn : IntKind.i64.wrap ((xs.length : Int) - 1) = xs.length - 1 := wrap_id (by omega) (by omega)
  (try simp only [und3, und4, und22, und26, und29, und45, und64, info3, info4, info22, info26, info29, info45, info64, info50, und50, aggT, J0, J1, J2, J3, J4, J5, J6, J7, J8, J9, J10, J11, J12, gv, dstAt, J13, J14, J15, J16, J17, J18, J19, J20, J21, J22, J23, J24, J25, J26, J27, J28, J29, J30, J31, J32, J33, J34, J35, J36, J37, J38, J39, J40, J41, J42, J43, J44, J45, J46, J47, J48, J49, J50, J51, J52, J53, J54, J55, J56, J57, J58, J59, aop, J60, J61, J62, evalsA, partsA, evalO, J63, J64, J65, J66, J67, J68, J69, J70, J71, updO, J72, ofArgs, J73, binV, intBin, J74, unV, J75, J76, mmV, builtinA, J77, J78, J79, J80, J81, J82, J83, J84, J85, J86, J87, J88, J89, Nat.reduceLT, Nat.reduceEqDiff, Nat.reduceAdd, Nat.reduceSub, Nat.reduceMul, reduceIte, J90, J91, J92, reduceCtorEq, J93, J94, J95, J96, J97, J98, J99, J100, t0, t5, t7, al26, s1, hwn]); repeat (first | with_reducible refine W_seq ?_ | with_reducible refine W_scope ?_ | ((first | with_reducible refine W_regionV hTT ?_ | with_reducible refine W_condV ?_ | with_reducible refine W_ret ?_ | with_reducible refine W_exit ?_ | with_reducible refine W_skip ?_ | with_reducible refine W_label ?_ | with_reducible refine W_drawV hTT (by kernel_rfl) ?_); try simp only [und3, und4, und22, und26, und29, und45, und64, info3, info4, info22, info26, info29, info45, info64, info50, und50, aggT, J0, J1, J2, J3, J4, J5, J6, J7, J8, J9, J10, J11, J12, gv, dstAt, J13, J14, J15, J16, J17, J18, J19, J20, J21, J22, J23, J24, J25, J26, J27, J28, J29, J30, J31, J32, J33, J34, J35, J36, J37, J38, J39, J40, J41, J42, J43, J44, J45, J46, J47, J48, J49, J50, J51, J52, J53, J54, J55, J56, J57, J58, J59, aop, J60, J61, J62, evalsA, partsA, evalO, J63, J64, J65, J66, J67, J68, J69, J70, J71, updO, J72, ofArgs, J73, binV, intBin, J74, unV, J75, J76, mmV, builtinA, J77, J78, J79, J80, J81, J82, J83, J84, J85, J86, J87, J88, J89, Nat.reduceLT, Nat.reduceEqDiff, Nat.reduceAdd, Nat.reduceSub, Nat.reduceMul, reduceIte, J90, J91, J92, reduceCtorEq, J93, J94, J95, J96, J97, J98, J99, J100, t0, t5, t7, al26, s1, hwn]))
  clear t0 t39 t40 hmk hw e1 s1 hS5 htab hleft hR hE5 hE35 htab2
  refine W_block ?_
  refine W_loopI (fun m τ ds S' => ds = [] ∧ τ 7 = .slice (some ⟨S1.n, 0, none⟩) xs.length xs.length ∧ τ 9 = .pointer (some ⟨S4.n, 0, none⟩) ∧ τ 10 = .int .i64 ((m : Int) - 1) ∧ m ≤ xs.length ∧ ∃ M ys, CSt S2 S' xs.length S1.n S4.n bd bs M ys) xs.length ?_ ?_
  · refine ⟨rfl, ?_, ?_, ?_, Nat.le_refl _, _, _, hC⟩ <;> first | rfl | simp only [und3, und4, und22, und26, und29, und45, und64, info3, info4, info22, info26, info29, info45, info64, info50, und50, aggT, J0, J1, J2, J3, J4, J5, J6, J7, J8, J9, J10, J11, J12, gv, dstAt, J13, J14, J15, J16, J17, J18, J19, J20, J21, J22, J23, J24, J25, J26, J27, J28, J29, J30, J31, J32, J33, J34, J35, J36, J37, J38, J39, J40, J41, J42, J43, J44, J45, J46, J47, J48, J49, J50, J51, J52, J53, J54, J55, J56, J57, J58, J59, aop, J60, J61, J62, evalsA, partsA, evalO, J63, J64, J65, J66, J67, J68, J69, J70, J71, updO, J72, ofArgs, J73, binV, intBin, J74, unV, J75, J76, mmV, builtinA, J77, J78, J79, J80, J81, J82, J83, J84, J85, J86, J87, J88, J89, Nat.reduceLT, Nat.reduceEqDiff, Nat.reduceAdd, Nat.reduceSub, Nat.reduceMul, reduceIte, J90, J91, J92, reduceCtorEq, J93, J94, J95, J96, J97, J98, J99, J100, t7, hwn]
  clear t5 t7 hC hwn
  rintro m τ ds S6 ⟨rfl, t7, t9, t10, hm, M, ys, hC⟩
  cases m with
  | zero =>
    have e1 : decide ((((0 : Nat) : Int) - 1) ≥ 0) = false := rfl
    repeat (first | with_reducible refine W_seq ?_ | with_reducible refine W_block ?_ | with_reducible refine W_scope ?_ | ((first | with_reducible refine W_regionV hTT ?_ | with_reducible refine W_condV ?_ | with_reducible refine W_ret ?_ | with_reducible refine W_exit ?_ | with_reducible refine W_skip ?_ | with_reducible refine W_label ?_ | with_reducible refine W_drawV hTT (by kernel_rfl) ?_); try simp only [und3, und4, und22, und26, und29, und45, und64, info3, info4, info22, info26, info29, info45, info64, info50, und50, aggT, J0, J1, J2, J3, J4, J5, J6, J7, J8, J9, J10, J11, J12, gv, dstAt, J13, J14, J15, J16, J17, J18, J19, J20, J21, J22, J23, J24, J25, J26, J27, J28, J29, J30, J31, J32, J33, J34, J35, J36, J37, J38, J39, J40, J41, J42, J43, J44, J45, J46, J47, J48, J49, J50, J51, J52, J53, J54, J55, J56, J57, J58, J59, aop, J60, J61, J62, evalsA, partsA, evalO, J63, J64, J65, J66, J67, J68, J69, J70, J71, updO, J72, ofArgs, J73, binV, intBin, J74, unV, J75, J76, mmV, builtinA, J77, J78, J79, J80, J81, J82, J83, J84, J85, J86, J87, J88, J89, Nat.reduceLT, Nat.reduceEqDiff, Nat.reduceAdd, Nat.reduceSub, Nat.reduceMul, reduceIte, J90, J91, J92, reduceCtorEq, J93, J94, J95, J96, J97, J98, J99, J100, t7, t9, t10, e1]))
    exact ⟨_, _, rfl, .inr ⟨S1.n, bs, M, rfl, hC.tab, hC.len, hC.rows⟩, hC.ext⟩
  | succ p =>
    have hp1 : (((p + 1 : Nat) : Int) - 1) = p := by omega
    rw [hp1] at t10
    have e1 : decide ((p : Int) ≥ 0) = true := by simp
    have hwp : IntKind.i64.wrap ((p : Int) - 1) = p - 1 := wrap_id (by omega) (by omega)
    (try simp only [und3, und4, und22, und26, und29, und45, und64, info3, info4, info22, info26, info29, info45, info64, info50, und50, aggT, J0, J1, J2, J3, J4, J5, J6, J7, J8, J9, J10, J11, J12, gv, dstAt, J13, J14, J15, J16, J17, J18, J19, J20, J21, J22, J23, J24, J25, J26, J27, J28, J29, J30, J31, J32, J33, J34, J35, J36, J37, J38, J39, J40, J41, J42, J43, J44, J45, J46, J47, J48, J49, J50, J51, J52, J53, J54, J55, J56, J57, J58, J59, aop, J60, J61, J62, evalsA, partsA, evalO, J63, J64, J65, J66, J67, J68, J69, J70, J71, updO, J72, ofArgs, J73, binV, intBin, J74, unV, J75, J76, mmV, builtinA, J77, J78, J79, J80, J81, J82, J83, J84, J85, J86, J87, J88, J89, Nat.reduceLT, Nat.reduceEqDiff, Nat.reduceAdd, Nat.reduceSub, Nat.reduceMul, reduceIte, J90, J91, J92, reduceCtorEq, J93, J94, J95, J96, J97, J98, J99, J100, t7, t9, t10, e1]); repeat (first | with_reducible refine W_seq ?_ | with_reducible refine W_scope ?_ | ((first | with_reducible refine W_regionV hTT ?_ | with_reducible refine W_condV ?_ | with_reducible refine W_ret ?_ | with_reducible refine W_exit ?_ | with_reducible refine W_skip ?_ | with_reducible refine W_label ?_ | with_reducible refine W_drawV hTT (by kernel_rfl) ?_); try simp only [und3, und4, und22, und26, und29, und45, und64, info3, info4, info22, info26, info29, info45, info64, info50, und50, aggT, J0, J1, J2, J3, J4, J5, J6, J7, J8, J9, J10, J11, J12, gv, dstAt, J13, J14, J15, J16, J17, J18, J19, J20, J21, J22, J23, J24, J25, J26, J27, J28, J29, J30, J31, J32, J33, J34, J35, J36, J37, J38, J39, J40, J41, J42, J43, J44, J45, J46, J47, J48, J49, J50, J51, J52, J53, J54, J55, J56, J57, J58, J59, aop, J60, J61, J62, evalsA, partsA, evalO, J63, J64, J65, J66, J67, J68, J69, J70, J71, updO, J72, ofArgs, J73, binV, intBin, J74, unV, J75, J76, mmV, builtinA, J77, J78, J79, J80, J81, J82, J83, J84, J85, J86, J87, J88, J89, Nat.reduceLT, Nat.reduceEqDiff, Nat.reduceAdd, Nat.reduceSub, Nat.reduceMul, reduceIte, J90, J91, J92, reduceCtorEq, J93, J94, J95, J96, J97, J98, J99, J100, t7, t9, t10, e1]))
    refine W_cut (fun τ ds S' => ds = [] ∧ τ 7 = .slice (some ⟨S1.n, 0, none⟩) xs.length xs.length ∧ τ 9 = .pointer (some ⟨S4.n, 0, none⟩) ∧ τ 10 = .int .i64 p ∧ ∃ M ys, CSt S2 S' xs.length S1.n S4.n bd bs M ys) ?_ ?_
    · refine W_block ?_
      repeat (first | with_reducible refine W_seq ?_ | with_reducible refine W_block ?_ | with_reducible refine W_scope ?_ | ((first | with_reducible refine W_regionV hTT ?_ | with_reducible refine W_condV ?_ | with_reducible refine W_ret ?_ | with_reducible refine W_exit ?_ | with_reducible refine W_skip ?_ | with_reducible refine W_label ?_ | with_reducible refine W_drawV hTT (by kernel_rfl) ?_); try simp only [und3, und4, und22, und26, und29, und45, und64, info3, info4, info22, info26, info29, info45, info64, info50, und50, aggT, J0, J1, J2, J3, J4, J5, J6, J7, J8, J9, J10, J11, J12, gv, dstAt, J13, J14, J15, J16, J17, J18, J19, J20, J21, J22, J23, J24, J25, J26, J27, J28, J29, J30, J31, J32, J33, J34, J35, J36, J37, J38, J39, J40, J41, J42, J43, J44, J45, J46, J47, J48, J49, J50, J51, J52, J53, J54, J55, J56, J57, J58, J59, aop, J60, J61, J62, evalsA, partsA, evalO, J63, J64, J65, J66, J67, J68, J69, J70, J71, updO, J72, ofArgs, J73, binV, intBin, J74, unV, J75, J76, mmV, builtinA, J77, J78, J79, J80, J81, J82, J83, J84, J85, J86, J87, J88, J89, Nat.reduceLT, Nat.reduceEqDiff, Nat.reduceAdd, Nat.reduceSub, Nat.reduceMul, reduceIte, J90, J91, J92, reduceCtorEq, J93, J94, J95, J96, J97, J98, J99, J100, t7, t9, t10, fnOk_func]))
      refine VCall_intro (sorted_call hC.ext.ok (n := p) (by omega) (g := 30) (cs := [.pointer (some ⟨S4.n, 0, none⟩)]) ?_) ?_
      · intro S' hE' i hi
        have hC' := hC.more hE'
        exact (left_call hC'.box hC'.left hC'.llen (i := i) (by omega)).mono fun v S3 h => ⟨⟨_, h.1⟩, h.2⟩
      rintro v S7 ⟨⟨at', hat, hM7⟩, hE7⟩
      have hC7 := hC.more hE7
      have hfr : ∀ i (h : i < bs.length), bs[i] < S6.n := fun i h => lt_of_get (hC.rows.get i h)
      have hfd := lt_of_get hC.left
      have hal : at'.length = p := by rw [hat.length_eq, upto_len]
      have hlv := hM7.sl.len (T := TT) und26
      (try simp only [und3, und4, und22, und26, und29, und45, und64, info3, info4, info22, info26, info29, info45, info64, info50, und50, aggT, J0, J1, J2, J3, J4, J5, J6, J7, J8, J9, J10, J11, J12, gv, dstAt, J13, J14, J15, J16, J17, J18, J19, J20, J21, J22, J23, J24, J25, J26, J27, J28, J29, J30, J31, J32, J33, J34, J35, J36, J37, J38, J39, J40, J41, J42, J43, J44, J45, J46, J47, J48, J49, J50, J51, J52, J53, J54, J55, J56, J57, J58, J59, aop, J60, J61, J62, evalsA, partsA, evalO, J63, J64, J65, J66, J67, J68, J69, J70, J71, updO, J72, ofArgs, J73, binV, intBin, J74, unV, J75, J76, mmV, builtinA, J77, J78, J79, J80, J81, J82, J83, J84, J85, J86, J87, J88, J89, Nat.reduceLT, Nat.reduceEqDiff, Nat.reduceAdd, Nat.reduceSub, Nat.reduceMul, reduceIte, J90, J91, J92, reduceCtorEq, J93, J94, J95, J96, J97, J98, J99, J100, t7, t9, t10, hlv]); repeat (first | with_reducible refine W_seq ?_ | with_reducible refine W_scope ?_ | ((first | with_reducible refine W_regionV hTT ?_ | with_reducible refine W_condV ?_ | with_reducible refine W_ret ?_ | with_reducible refine W_exit ?_ | with_reducible refine W_skip ?_ | with_reducible refine W_label ?_ | with_reducible refine W_drawV hTT (by kernel_rfl) ?_); try simp only [und3, und4, und22, und26, und29, und45, und64, info3, info4, info22, info26, info29, info45, info64, info50, und50, aggT, J0, J1, J2, J3, J4, J5, J6, J7, J8, J9, J10, J11, J12, gv, dstAt, J13, J14, J15, J16, J17, J18, J19, J20, J21, J22, J23, J24, J25, J26, J27, J28, J29, J30, J31, J32, J33, J34, J35, J36, J37, J38, J39, J40, J41, J42, J43, J44, J45, J46, J47, J48, J49, J50, J51, J52, J53, J54, J55, J56, J57, J58, J59, aop, J60, J61, J62, evalsA, partsA, evalO, J63, J64, J65, J66, J67, J68, J69, J70, J71, updO, J72, ofArgs, J73, binV, intBin, J74, unV, J75, J76, mmV, builtinA, J77, J78, J79, J80, J81, J82, J83, J84, J85, J86, J87, J88, J89, Nat.reduceLT, Nat.reduceEqDiff, Nat.reduceAdd, Nat.reduceSub, Nat.reduceMul, reduceIte, J90, J91, J92, reduceCtorEq, J93, J94, J95, J96, J97, J98, J99, J100, t7, t9, t10, hlv]))
      refine W_block ?_
      refine W_loopI (fun m τ ds S' => ds = [] ∧ ∃ (q : Nat) (M : Nat → Nat → Int) (ys : List Int), m = p - q ∧ q ≤ p ∧ τ 7 = .slice (some ⟨S1.n, 0, none⟩) xs.length xs.length ∧ τ 9 = .pointer (some ⟨S4.n, 0, none⟩) ∧ τ 10 = .int .i64 p ∧ τ 59 = v ∧ τ 60 = .int .i64 p ∧ τ 61 = .int .i64 q ∧ CSt S2 S' xs.length S1.n S4.n bd bs M ys ∧ Mine S' 3 1 S6.n v (iv at') p) p ?_ ?_
      · refine ⟨rfl, 0, M, ys, by omega, by omega, ?_, ?_, ?_, ?_, ?_, ?_, hC7, hM7⟩ <;> first | rfl | simp only [und3, und4, und22, und26, und29, und45, und64, info3, info4, info22, info26, info29, info45, info64, info50, und50, aggT, J0, J1, J2, J3, J4, J5, J6, J7, J8, J9, J10, J11, J12, gv, dstAt, J13, J14, J15, J16, J17, J18, J19, J20, J21, J22, J23, J24, J25, J26, J27, J28, J29, J30, J31, J32, J33, J34, J35, J36, J37, J38, J39, J40, J41, J42, J43, J44, J45, J46, J47, J48, J49, J50, J51, J52, J53, J54, J55, J56, J57, J58, J59, aop, J60, J61, J62, evalsA, partsA, evalO, J63, J64, J65, J66, J67, J68, J69, J70, J71, updO, J72, ofArgs, J73, binV, intBin, J74, unV, J75, J76, mmV, builtinA, J77, J78, J79, J80, J81, J82, J83, J84, J85, J86, J87, J88, J89, Nat.reduceLT, Nat.reduceEqDiff, Nat.reduceAdd, Nat.reduceSub, Nat.reduceMul, reduceIte, J90, J91, J92, reduceCtorEq, J93, J94, J95, J96, J97, J98, J99, J100, t7, t9, t10]
      clear t7 t9 t10 hC7 hM7 hlv
      rintro m τ ds S8 ⟨rfl, q, M8, ys8, rfl, hq, t7, t9, t10, t59, t60, t61, hC8, hM8⟩
      by_cases hqp : q < p
      · have e3 : decide ((q : Int) < p) = true := by simpa using hqp
        have hwq := wrap_succ (k := q) (by omega)
        obtain ⟨p1, a1, a2, _⟩ := hM8.sl.at1 (T := TT) (k := .i64) und26 info3 und3 rfl rfl (i := q) hqp
        have hqa : q < at'.length := by omega
        rw [iv_get, List.getElem?_eq_getElem hqa] at a2
        obtain ⟨x, hx1, hx2⟩ := upto_mem (hat.mem_iff.1 (List.getElem_mem hqa))
        rw [hx2] at a2
        simp only [Option.map_some] at a2
        have r1 := load_one (o := 0) und26 info26 rfl hC8.box
        simp only [List.getElem?_cons_zero] at r1
        have b1 := arr_index (T := TT) (b := bd) (c := BIG) (n := xs.length) (k := .i64) (i := p) und26 info3 rfl (by omega)
        have r2 := load_one (o := p) und3 info3 rfl hC8.left
        rw [iv_get, List.getElem?_eq_getElem (by rw [hC8.llen]; omega)] at r2
        simp only [Option.map_some] at r2
        have hpb : p < bs.length := by omega
        have hxb : x < bs.length := by omega
        have c1 := arr_index (T := TT) (b := S1.n) (c := xs.length) (n := xs.length) (k := .i64) (i := p) und22 info26 rfl (by omega)
        have c2 := arr_index (T := TT) (b := S1.n) (c := xs.length) (n := xs.length) (k := .i64) (i := x) und22 info26 rfl (by omega)
        have l1 := load_one (o := p) und26 info26 rfl hC8.tab
        have l2 := load_one (o := x) und26 info26 rfl hC8.tab
        rw [List.getElem?_map, List.getElem?_eq_getElem hpb] at l1
        rw [List.getElem?_map, List.getElem?_eq_getElem hxb] at l2
        simp only [Option.map_some] at l1 l2
        have d1 : indexAddrA TT 26 (.int .i64 x) (rowv xs.length bs[p]) = some (.pointer (some ⟨bs[p], x, none⟩)) := arr_index und26 info3 rfl (by omega)
        have d2 : indexAddrA TT 26 (.int .i64 p) (rowv xs.length bs[x]) = some (.pointer (some ⟨bs[x], p, none⟩)) := arr_index und26 info3 rfl (by omega)
        repeat (first | with_reducible refine W_seq ?_ | with_reducible refine W_block ?_ | with_reducible refine W_scope ?_ | ((first | with_reducible refine W_regionV hTT ?_ | with_reducible refine W_condV ?_ | with_reducible refine W_ret ?_ | with_reducible refine W_exit ?_ | with_reducible refine W_skip ?_ | with_reducible refine W_label ?_ | with_reducible refine W_drawV hTT (by kernel_rfl) ?_); try simp only [und3, und4, und22, und26, und29, und45, und64, info3, info4, info22, info26, info29, info45, info64, info50, und50, aggT, J0, J1, J2, J3, J4, J5, J6, J7, J8, J9, J10, J11, J12, gv, dstAt, J13, J14, J15, J16, J17, J18, J19, J20, J21, J22, J23, J24, J25, J26, J27, J28, J29, J30, J31, J32, J33, J34, J35, J36, J37, J38, J39, J40, J41, J42, J43, J44, J45, J46, J47, J48, J49, J50, J51, J52, J53, J54, J55, J56, J57, J58, J59, aop, J60, J61, J62, evalsA, partsA, evalO, J63, J64, J65, J66, J67, J68, J69, J70, J71, updO, J72, ofArgs, J73, binV, intBin, J74, unV, J75, J76, mmV, builtinA, J77, J78, J79, J80, J81, J82, J83, J84, J85, J86, J87, J88, J89, Nat.reduceLT, Nat.reduceEqDiff, Nat.reduceAdd, Nat.reduceSub, Nat.reduceMul, reduceIte, J90, J91, J92, reduceCtorEq, J93, J94, J95, J96, J97, J98, J99, J100, t7, t9, t10, t59, t60, t61, e3, a1, a2, r1, b1, r2]))
        refine VIf_split (fun hb3 => ?_) (fun hb3 => ?_)
        · obtain ⟨S9, s1, hC9, hf9⟩ := hC8.setM hpb (j := x) (by omega) 1
          repeat (first | with_reducible refine W_seq ?_ | with_reducible refine W_block ?_ | with_reducible refine W_scope ?_ | ((first | with_reducible refine W_regionV hTT ?_ | with_reducible refine W_condV ?_ | with_reducible refine W_ret ?_ | with_reducible refine W_exit ?_ | with_reducible refine W_skip ?_ | with_reducible refine W_label ?_ | with_reducible refine W_drawV hTT (by kernel_rfl) ?_); try simp only [und3, und4, und22, und26, und29, und45, und64, info3, info4, info22, info26, info29, info45, info64, info50, und50, aggT, J0, J1, J2, J3, J4, J5, J6, J7, J8, J9, J10, J11, J12, gv, dstAt, J13, J14, J15, J16, J17, J18, J19, J20, J21, J22, J23, J24, J25, J26, J27, J28, J29, J30, J31, J32, J33, J34, J35, J36, J37, J38, J39, J40, J41, J42, J43, J44, J45, J46, J47, J48, J49, J50, J51, J52, J53, J54, J55, J56, J57, J58, J59, aop, J60, J61, J62, evalsA, partsA, evalO, J63, J64, J65, J66, J67, J68, J69, J70, J71, updO, J72, ofArgs, J73, binV, intBin, J74, unV, J75, J76, mmV, builtinA, J77, J78, J79, J80, J81, J82, J83, J84, J85, J86, J87, J88, J89, Nat.reduceLT, Nat.reduceEqDiff, Nat.reduceAdd, Nat.reduceSub, Nat.reduceMul, reduceIte, J90, J91, J92, reduceCtorEq, J93, J94, J95, J96, J97, J98, J99, J100, t7, t9, t10, t59, t60, t61, c1, l1, d1, s1, hwq]))
          refine LoopQ_intro (p - (q + 1)) (by omega) ⟨rfl, q + 1, _, _, rfl, by omega, by simp only [und3, und4, und22, und26, und29, und45, und64, info3, info4, info22, info26, info29, info45, info64, info50, und50, aggT, J0, J1, J2, J3, J4, J5, J6, J7, J8, J9, J10, J11, J12, gv, dstAt, J13, J14, J15, J16, J17, J18, J19, J20, J21, J22, J23, J24, J25, J26, J27, J28, J29, J30, J31, J32, J33, J34, J35, J36, J37, J38, J39, J40, J41, J42, J43, J44, J45, J46, J47, J48, J49, J50, J51, J52, J53, J54, J55, J56, J57, J58, J59, aop, J60, J61, J62, evalsA, partsA, evalO, J63, J64, J65, J66, J67, J68, J69, J70, J71, updO, J72, ofArgs, J73, binV, intBin, J74, unV, J75, J76, mmV, builtinA, J77, J78, J79, J80, J81, J82, J83, J84, J85, J86, J87, J88, J89, Nat.reduceLT, Nat.reduceEqDiff, Nat.reduceAdd, Nat.reduceSub, Nat.reduceMul, reduceIte, J90, J91, J92, reduceCtorEq, J93, J94, J95, J96, J97, J98, J99, J100, t7], by simp only [und3, und4, und22, und26, und29, und45, und64, info3, info4, info22, info26, info29, info45, info64, info50, und50, aggT, J0, J1, J2, J3, J4, J5, J6, J7, J8, J9, J10, J11, J12, gv, dstAt, J13, J14, J15, J16, J17, J18, J19, J20, J21, J22, J23, J24, J25, J26, J27, J28, J29, J30, J31, J32, J33, J34, J35, J36, J37, J38, J39, J40, J41, J42, J43, J44, J45, J46, J47, J48, J49, J50, J51, J52, J53, J54, J55, J56, J57, J58, J59, aop, J60, J61, J62, evalsA, partsA, evalO, J63, J64, J65, J66, J67, J68, J69, J70, J71, updO, J72, ofArgs, J73, binV, intBin, J74, unV, J75, J76, mmV, builtinA, J77, J78, J79, J80, J81, J82, J83, J84, J85, J86, J87, J88, J89, Nat.reduceLT, Nat.reduceEqDiff, Nat.reduceAdd, Nat.reduceSub, Nat.reduceMul, reduceIte, J90, J91, J92, reduceCtorEq, J93, J94, J95, J96, J97, J98, J99, J100, t9], by simp only [und3, und4, und22, und26, und29, und45, und64, info3, info4, info22, info26, info29, info45, info64, info50, und50, aggT, J0, J1, J2, J3, J4, J5, J6, J7, J8, J9, J10, J11, J12, gv, dstAt, J13, J14, J15, J16, J17, J18, J19, J20, J21, J22, J23, J24, J25, J26, J27, J28, J29, J30, J31, J32, J33, J34, J35, J36, J37, J38, J39, J40, J41, J42, J43, J44, J45, J46, J47, J48, J49, J50, J51, J52, J53, J54, J55, J56, J57, J58, J59, aop, J60, J61, J62, evalsA, partsA, evalO, J63, J64, J65, J66, J67, J68, J69, J70, J71, updO, J72, ofArgs, J73, binV, intBin, J74, unV, J75, J76, mmV, builtinA, J77, J78, J79, J80, J81, J82, J83, J84, J85, J86, J87, J88, J89, Nat.reduceLT, Nat.reduceEqDiff, Nat.reduceAdd, Nat.reduceSub, Nat.reduceMul, reduceIte, J90, J91, J92, reduceCtorEq, J93, J94, J95, J96, J97, J98, J99, J100, t10], by simp only [und3, und4, und22, und26, und29, und45, und64, info3, info4, info22, info26, info29, info45, info64, info50, und50, aggT, J0, J1, J2, J3, J4, J5, J6, J7, J8, J9, J10, J11, J12, gv, dstAt, J13, J14, J15, J16, J17, J18, J19, J20, J21, J22, J23, J24, J25, J26, J27, J28, J29, J30, J31, J32, J33, J34, J35, J36, J37, J38, J39, J40, J41, J42, J43, J44, J45, J46, J47, J48, J49, J50, J51, J52, J53, J54, J55, J56, J57, J58, J59, aop, J60, J61, J62, evalsA, partsA, evalO, J63, J64, J65, J66, J67, J68, J69, J70, J71, updO, J72, ofArgs, J73, binV, intBin, J74, unV, J75, J76, mmV, builtinA, J77, J78, J79, J80, J81, J82, J83, J84, J85, J86, J87, J88, J89, Nat.reduceLT, Nat.reduceEqDiff, Nat.reduceAdd, Nat.reduceSub, Nat.reduceMul, reduceIte, J90, J91, J92, reduceCtorEq, J93, J94, J95, J96, J97, J98, J99, J100, t59], by simp only [und3, und4, und22, und26, und29, und45, und64, info3, info4, info22, info26, info29, info45, info64, info50, und50, aggT, J0, J1, J2, J3, J4, J5, J6, J7, J8, J9, J10, J11, J12, gv, dstAt, J13, J14, J15, J16, J17, J18, J19, J20, J21, J22, J23, J24, J25, J26, J27, J28, J29, J30, J31, J32, J33, J34, J35, J36, J37, J38, J39, J40, J41, J42, J43, J44, J45, J46, J47, J48, J49, J50, J51, J52, J53, J54, J55, J56, J57, J58, J59, aop, J60, J61, J62, evalsA, partsA, evalO, J63, J64, J65, J66, J67, J68, J69, J70, J71, updO, J72, ofArgs, J73, binV, intBin, J74, unV, J75, J76, mmV, builtinA, J77, J78, J79, J80, J81, J82, J83, J84, J85, J86, J87, J88, J89, Nat.reduceLT, Nat.reduceEqDiff, Nat.reduceAdd, Nat.reduceSub, Nat.reduceMul, reduceIte, J90, J91, J92, reduceCtorEq, J93, J94, J95, J96, J97, J98, J99, J100, t60], by simp only [und3, und4, und22, und26, und29, und45, und64, info3, info4, info22, info26, info29, info45, info64, info50, und50, aggT, J0, J1, J2, J3, J4, J5, J6, J7, J8, J9, J10, J11, J12, gv, dstAt, J13, J14, J15, J16, J17, J18, J19, J20, J21, J22, J23, J24, J25, J26, J27, J28, J29, J30, J31, J32, J33, J34, J35, J36, J37, J38, J39, J40, J41, J42, J43, J44, J45, J46, J47, J48, J49, J50, J51, J52, J53, J54, J55, J56, J57, J58, J59, aop, J60, J61, J62, evalsA, partsA, evalO, J63, J64, J65, J66, J67, J68, J69, J70, J71, updO, J72, ofArgs, J73, binV, intBin, J74, unV, J75, J76, mmV, builtinA, J77, J78, J79, J80, J81, J82, J83, J84, J85, J86, J87, J88, J89, Nat.reduceLT, Nat.reduceEqDiff, Nat.reduceAdd, Nat.reduceSub, Nat.reduceMul, reduceIte, J90, J91, J92, reduceCtorEq, J93, J94, J95, J96, J97, J98, J99, J100, t61, hwq], hC9, hM8.same fun b hb => hf9 b (fun i h e => ?_) (fun e => ?_)⟩
          · have := (hM8.base hb).1
            have := hfr i h
            omega
          · have := (hM8.base hb).1
            omega
        · obtain ⟨S9, s1, hC9, hf9⟩ := hC8.setM hxb (j := p) (by omega) 1
          have r3 := load_one (o := 0) und26 info26 rfl hC9.box
          simp only [List.getElem?_cons_zero] at r3
          have b2 := arr_index (T := TT) (b := bd) (c := BIG) (n := xs.length) (k := .i64) (i := x) und26 info3 rfl (by omega)
          have r4 := load_one (o := x) und3 info3 rfl hC9.left
          rw [iv_get, List.getElem?_eq_getElem (by rw [hC9.llen]; omega)] at r4
          simp only [Option.map_some] at r4
          obtain ⟨SA, s2, hCA, hfA⟩ := hC9.setL (i := x) (by omega) (IntKind.i64.wrap (ys8[x]'(by rw [hC9.llen]; omega) - 1))
          repeat (first | with_reducible refine W_seq ?_ | with_reducible refine W_block ?_ | with_reducible refine W_scope ?_ | ((first | with_reducible refine W_regionV hTT ?_ | with_reducible refine W_condV ?_ | with_reducible refine W_ret ?_ | with_reducible refine W_exit ?_ | with_reducible refine W_skip ?_ | with_reducible refine W_label ?_ | with_reducible refine W_drawV hTT (by kernel_rfl) ?_); try simp only [und3, und4, und22, und26, und29, und45, und64, info3, info4, info22, info26, info29, info45, info64, info50, und50, aggT, J0, J1, J2, J3, J4, J5, J6, J7, J8, J9, J10, J11, J12, gv, dstAt, J13, J14, J15, J16, J17, J18, J19, J20, J21, J22, J23, J24, J25, J26, J27, J28, J29, J30, J31, J32, J33, J34, J35, J36, J37, J38, J39, J40, J41, J42, J43, J44, J45, J46, J47, J48, J49, J50, J51, J52, J53, J54, J55, J56, J57, J58, J59, aop, J60, J61, J62, evalsA, partsA, evalO, J63, J64, J65, J66, J67, J68, J69, J70, J71, updO, J72, ofArgs, J73, binV, intBin, J74, unV, J75, J76, mmV, builtinA, J77, J78, J79, J80, J81, J82, J83, J84, J85, J86, J87, J88, J89, Nat.reduceLT, Nat.reduceEqDiff, Nat.reduceAdd, Nat.reduceSub, Nat.reduceMul, reduceIte, J90, J91, J92, reduceCtorEq, J93, J94, J95, J96, J97, J98, J99, J100, t7, t9, t10, t59, t60, t61, c2, l2, d2, s1, r3, b2, r4, s2, hwq]))
          refine LoopQ_intro (p - (q + 1)) (by omega) ⟨rfl, q + 1, _, _, rfl, by omega, by simp only [und3, und4, und22, und26, und29, und45, und64, info3, info4, info22, info26, info29, info45, info64, info50, und50, aggT, J0, J1, J2, J3, J4, J5, J6, J7, J8, J9, J10, J11, J12, gv, dstAt, J13, J14, J15, J16, J17, J18, J19, J20, J21, J22, J23, J24, J25, J26, J27, J28, J29, J30, J31, J32, J33, J34, J35, J36, J37, J38, J39, J40, J41, J42, J43, J44, J45, J46, J47, J48, J49, J50, J51, J52, J53, J54, J55, J56, J57, J58, J59, aop, J60, J61, J62, evalsA, partsA, evalO, J63, J64, J65, J66, J67, J68, J69, J70, J71, updO, J72, ofArgs, J73, binV, intBin, J74, unV, J75, J76, mmV, builtinA, J77, J78, J79, J80, J81, J82, J83, J84, J85, J86, J87, J88, J89, Nat.reduceLT, Nat.reduceEqDiff, Nat.reduceAdd, Nat.reduceSub, Nat.reduceMul, reduceIte, J90, J91, J92, reduceCtorEq, J93, J94, J95, J96, J97, J98, J99, J100, t7], by simp only [und3, und4, und22, und26, und29, und45, und64, info3, info4, info22, info26, info29, info45, info64, info50, und50, aggT, J0, J1, J2, J3, J4, J5, J6, J7, J8, J9, J10, J11, J12, gv, dstAt, J13, J14, J15, J16, J17, J18, J19, J20, J21, J22, J23, J24, J25, J26, J27, J28, J29, J30, J31, J32, J33, J34, J35, J36, J37, J38, J39, J40, J41, J42, J43, J44, J45, J46, J47, J48, J49, J50, J51, J52, J53, J54, J55, J56, J57, J58, J59, aop, J60, J61, J62, evalsA, partsA, evalO, J63, J64, J65, J66, J67, J68, J69, J70, J71, updO, J72, ofArgs, J73, binV, intBin, J74, unV, J75, J76, mmV, builtinA, J77, J78, J79, J80, J81, J82, J83, J84, J85, J86, J87, J88, J89, Nat.reduceLT, Nat.reduceEqDiff, Nat.reduceAdd, Nat.reduceSub, Nat.reduceMul, reduceIte, J90, J91, J92, reduceCtorEq, J93, J94, J95, J96, J97, J98, J99, J100, t9], by simp only [und3, und4, und22, und26, und29, und45, und64, info3, info4, info22, info26, info29, info45, info64, info50, und50, aggT, J0, J1, J2, J3, J4, J5, J6, J7, J8, J9, J10, J11, J12, gv, dstAt, J13, J14, J15, J16, J17, J18, J19, J20, J21, J22, J23, J24, J25, J26, J27, J28, J29, J30, J31, J32, J33, J34, J35, J36, J37, J38, J39, J40, J41, J42, J43, J44, J45, J46, J47, J48, J49, J50, J51, J52, J53, J54, J55, J56, J57, J58, J59, aop, J60, J61, J62, evalsA, partsA, evalO, J63, J64, J65, J66, J67, J68, J69, J70, J71, updO, J72, ofArgs, J73, binV, intBin, J74, unV, J75, J76, mmV, builtinA, J77, J78, J79, J80, J81, J82, J83, J84, J85, J86, J87, J88, J89, Nat.reduceLT, Nat.reduceEqDiff, Nat.reduceAdd, Nat.reduceSub, Nat.reduceMul, reduceIte, J90, J91, J92, reduceCtorEq, J93, J94, J95, J96, J97, J98, J99, J100, t10], by simp only [und3, und4, und22, und26, und29, und45, und64, info3, info4, info22, info26, info29, info45, info64, info50, und50, aggT, J0, J1, J2, J3, J4, J5, J6, J7, J8, J9, J10, J11, J12, gv, dstAt, J13, J14, J15, J16, J17, J18, J19, J20, J21, J22, J23, J24, J25, J26, J27, J28, J29, J30, J31, J32, J33, J34, J35, J36, J37, J38, J39, J40, J41, J42, J43, J44, J45, J46, J47, J48, J49, J50, J51, J52, J53, J54, J55, J56, J57, J58, J59, aop, J60, J61, J62, evalsA, partsA, evalO, J63, J64, J65, J66, J67, J68, J69, J70, J71, updO, J72, ofArgs, J73, binV, intBin, J74, unV, J75, J76, mmV, builtinA, J77, J78, J79, J80, J81, J82, J83, J84, J85, J86, J87, J88, J89, Nat.reduceLT, Nat.reduceEqDiff, Nat.reduceAdd, Nat.reduceSub, Nat.reduceMul, reduceIte, J90, J91, J92, reduceCtorEq, J93, J94, J95, J96, J97, J98, J99, J100, t59], by simp only [und3, und4, und22, und26, und29, und45, und64, info3, info4, info22, info26, info29, info45, info64, info50, und50, aggT, J0, J1, J2, J3, J4, J5, J6, J7, J8, J9, J10, J11, J12, gv, dstAt, J13, J14, J15, J16, J17, J18, J19, J20, J21, J22, J23, J24, J25, J26, J27, J28, J29, J30, J31, J32, J33, J34, J35, J36, J37, J38, J39, J40, J41, J42, J43, J44, J45, J46, J47, J48, J49, J50, J51, J52, J53, J54, J55, J56, J57, J58, J59, aop, J60, J61, J62, evalsA, partsA, evalO, J63, J64, J65, J66, J67, J68, J69, J70, J71, updO, J72, ofArgs, J73, binV, intBin, J74, unV, J75, J76, mmV, builtinA, J77, J78, J79, J80, J81, J82, J83, J84, J85, J86, J87, J88, J89, Nat.reduceLT, Nat.reduceEqDiff, Nat.reduceAdd, Nat.reduceSub, Nat.reduceMul, reduceIte, J90, J91, J92, reduceCtorEq, J93, J94, J95, J96, J97, J98, J99, J100, t60], by simp only [und3, und4, und22, und26, und29, und45, und64, info3, info4, info22, info26, info29, info45, info64, info50, und50, aggT, J0, J1, J2, J3, J4, J5, J6, J7, J8, J9, J10, J11, J12, gv, dstAt, J13, J14, J15, J16, J17, J18, J19, J20, J21, J22, J23, J24, J25, J26, J27, J28, J29, J30, J31, J32, J33, J34, J35, J36, J37, J38, J39, J40, J41, J42, J43, J44, J45, J46, J47, J48, J49, J50, J51, J52, J53, J54, J55, J56, J57, J58, J59, aop, J60, J61, J62, evalsA, partsA, evalO, J63, J64, J65, J66, J67, J68, J69, J70, J71, updO, J72, ofArgs, J73, binV, intBin, J74, unV, J75, J76, mmV, builtinA, J77, J78, J79, J80, J81, J82, J83, J84, J85, J86, J87, J88, J89, Nat.reduceLT, Nat.reduceEqDiff, Nat.reduceAdd, Nat.reduceSub, Nat.reduceMul, reduceIte, J90, J91, J92, reduceCtorEq, J93, J94, J95, J96, J97, J98, J99, J100, t61, hwq], hCA, hM8.same fun b hb => ?_⟩
          have hbb := (hM8.base hb).1
          have n1 : ∀ i (h : i < bs.length), bs[i] ≠ b := fun i h e => by have := hfr i h; omega
          have n2 : b ≠ bd := by omega
          rw [hfA b n1 n2, hf9 b n1 n2]
      · have e3 : decide ((q : Int) < p) = false := by simpa using hqp
        repeat (first | with_reducible refine W_seq ?_ | with_reducible refine W_block ?_ | with_reducible refine W_scope ?_ | ((first | with_reducible refine W_regionV hTT ?_ | with_reducible refine W_condV ?_ | with_reducible refine W_ret ?_ | with_reducible refine W_exit ?_ | with_reducible refine W_skip ?_ | with_reducible refine W_label ?_ | with_reducible refine W_drawV hTT (by kernel_rfl) ?_); try simp only [und3, und4, und22, und26, und29, und45, und64, info3, info4, info22, info26, info29, info45, info64, info50, und50, aggT, J0, J1, J2, J3, J4, J5, J6, J7, J8, J9, J10, J11, J12, gv, dstAt, J13, J14, J15, J16, J17, J18, J19, J20, J21, J22, J23, J24, J25, J26, J27, J28, J29, J30, J31, J32, J33, J34, J35, J36, J37, J38, J39, J40, J41, J42, J43, J44, J45, J46, J47, J48, J49, J50, J51, J52, J53, J54, J55, J56, J57, J58, J59, aop, J60, J61, J62, evalsA, partsA, evalO, J63, J64, J65, J66, J67, J68, J69, J70, J71, updO, J72, ofArgs, J73, binV, intBin, J74, unV, J75, J76, mmV, builtinA, J77, J78, J79, J80, J81, J82, J83, J84, J85, J86, J87, J88, J89, Nat.reduceLT, Nat.reduceEqDiff, Nat.reduceAdd, Nat.reduceSub, Nat.reduceMul, reduceIte, J90, J91, J92, reduceCtorEq, J93, J94, J95, J96, J97, J98, J99, J100, t7, t9, t10, t59, t60, t61, e3]))
        refine NQ_intro ⟨rfl, by simp only [und3, und4, und22, und26, und29, und45, und64, info3, info4, info22, info26, info29, info45, info64, info50, und50, aggT, J0, J1, J2, J3, J4, J5, J6, J7, J8, J9, J10, J11, J12, gv, dstAt, J13, J14, J15, J16, J17, J18, J19, J20, J21, J22, J23, J24, J25, J26, J27, J28, J29, J30, J31, J32, J33, J34, J35, J36, J37, J38, J39, J40, J41, J42, J43, J44, J45, J46, J47, J48, J49, J50, J51, J52, J53, J54, J55, J56, J57, J58, J59, aop, J60, J61, J62, evalsA, partsA, evalO, J63, J64, J65, J66, J67, J68, J69, J70, J71, updO, J72, ofArgs, J73, binV, intBin, J74, unV, J75, J76, mmV, builtinA, J77, J78, J79, J80, J81, J82, J83, J84, J85, J86, J87, J88, J89, Nat.reduceLT, Nat.reduceEqDiff, Nat.reduceAdd, Nat.reduceSub, Nat.reduceMul, reduceIte, J90, J91, J92, reduceCtorEq, J93, J94, J95, J96, J97, J98, J99, J100, t7], by simp only [und3, und4, und22, und26, und29, und45, und64, info3, info4, info22, info26, info29, info45, info64, info50, und50, aggT, J0, J1, J2, J3, J4, J5, J6, J7, J8, J9, J10, J11, J12, gv, dstAt, J13, J14, J15, J16, J17, J18, J19, J20, J21, J22, J23, J24, J25, J26, J27, J28, J29, J30, J31, J32, J33, J34, J35, J36, J37, J38, J39, J40, J41, J42, J43, J44, J45, J46, J47, J48, J49, J50, J51, J52, J53, J54, J55, J56, J57, J58, J59, aop, J60, J61, J62, evalsA, partsA, evalO, J63, J64, J65, J66, J67, J68, J69, J70, J71, updO, J72, ofArgs, J73, binV, intBin, J74, unV, J75, J76, mmV, builtinA, J77, J78, J79, J80, J81, J82, J83, J84, J85, J86, J87, J88, J89, Nat.reduceLT, Nat.reduceEqDiff, Nat.reduceAdd, Nat.reduceSub, Nat.reduceMul, reduceIte, J90, J91, J92, reduceCtorEq, J93, J94, J95, J96, J97, J98, J99, J100, t9], by simp only [und3, und4, und22, und26, und29, und45, und64, info3, info4, info22, info26, info29, info45, info64, info50, und50, aggT, J0, J1, J2, J3, J4, J5, J6, J7, J8, J9, J10, J11, J12, gv, dstAt, J13, J14, J15, J16, J17, J18, J19, J20, J21, J22, J23, J24, J25, J26, J27, J28, J29, J30, J31, J32, J33, J34, J35, J36, J37, J38, J39, J40, J41, J42, J43, J44, J45, J46, J47, J48, J49, J50, J51, J52, J53, J54, J55, J56, J57, J58, J59, aop, J60, J61, J62, evalsA, partsA, evalO, J63, J64, J65, J66, J67, J68, J69, J70, J71, updO, J72, ofArgs, J73, binV, intBin, J74, unV, J75, J76, mmV, builtinA, J77, J78, J79, J80, J81, J82, J83, J84, J85, J86, J87, J88, J89, Nat.reduceLT, Nat.reduceEqDiff, Nat.reduceAdd, Nat.reduceSub, Nat.reduceMul, reduceIte, J90, J91, J92, reduceCtorEq, J93, J94, J95, J96, J97, J98, J99, J100, t10], _, _, hC8⟩
    · rintro τ ds S7 ⟨rfl, t7, t9, t10, M7, ys7, hC7⟩
      (try simp only [und3, und4, und22, und26, und29, und45, und64, info3, info4, info22, info26, info29, info45, info64, info50, und50, aggT, J0, J1, J2, J3, J4, J5, J6, J7, J8, J9, J10, J11, J12, gv, dstAt, J13, J14, J15, J16, J17, J18, J19, J20, J21, J22, J23, J24, J25, J26, J27, J28, J29, J30, J31, J32, J33, J34, J35, J36, J37, J38, J39, J40, J41, J42, J43, J44, J45, J46, J47, J48, J49, J50, J51, J52, J53, J54, J55, J56, J57, J58, J59, aop, J60, J61, J62, evalsA, partsA, evalO, J63, J64, J65, J66, J67, J68, J69, J70, J71, updO, J72, ofArgs, J73, binV, intBin, J74, unV, J75, J76, mmV, builtinA, J77, J78, J79, J80, J81, J82, J83, J84, J85, J86, J87, J88, J89, Nat.reduceLT, Nat.reduceEqDiff, Nat.reduceAdd, Nat.reduceSub, Nat.reduceMul, reduceIte, J90, J91, J92, reduceCtorEq, J93, J94, J95, J96, J97, J98, J99, J100, t7, t9, t10, hwp]); repeat (first | with_reducible refine W_seq ?_ | with_reducible refine W_block ?_ | with_reducible refine W_scope ?_ | ((first | with_reducible refine W_regionV hTT ?_ | with_reducible refine W_condV ?_ | with_reducible refine W_ret ?_ | with_reducible refine W_exit ?_ | with_reducible refine W_skip ?_ | with_reducible refine W_label ?_ | with_reducible refine W_drawV hTT (by kernel_rfl) ?_); try simp only [und3, und4, und22, und26, und29, und45, und64, info3, info4, info22, info26, info29, info45, info64, info50, und50, aggT, J0, J1, J2, J3, J4, J5, J6, J7, J8, J9, J10, J11, J12, gv, dstAt, J13, J14, J15, J16, J17, J18, J19, J20, J21, J22, J23, J24, J25, J26, J27, J28, J29, J30, J31, J32, J33, J34, J35, J36, J37, J38, J39, J40, J41, J42, J43, J44, J45, J46, J47, J48, J49, J50, J51, J52, J53, J54, J55, J56, J57, J58, J59, aop, J60, J61, J62, evalsA, partsA, evalO, J63, J64, J65, J66, J67, J68, J69, J70, J71, updO, J72, ofArgs, J73, binV, intBin, J74, unV, J75, J76, mmV, builtinA, J77, J78, J79, J80, J81, J82, J83, J84, J85, J86, J87, J88, J89, Nat.reduceLT, Nat.reduceEqDiff, Nat.reduceAdd, Nat.reduceSub, Nat.reduceMul, reduceIte, J90, J91, J92, reduceCtorEq, J93, J94, J95, J96, J97, J98, J99, J100, t7, t9, t10, hwp]))
      refine LoopQ_intro p (by omega) ⟨rfl, by simp only [und3, und4, und22, und26, und29, und45, und64, info3, info4, info22, info26, info29, info45, info64, info50, und50, aggT, J0, J1, J2, J3, J4, J5, J6, J7, J8, J9, J10, J11, J12, gv, dstAt, J13, J14, J15, J16, J17, J18, J19, J20, J21, J22, J23, J24, J25, J26, J27, J28, J29, J30, J31, J32, J33, J34, J35, J36, J37, J38, J39, J40, J41, J42, J43, J44, J45, J46, J47, J48, J49, J50, J51, J52, J53, J54, J55, J56, J57, J58, J59, aop, J60, J61, J62, evalsA, partsA, evalO, J63, J64, J65, J66, J67, J68, J69, J70, J71, updO, J72, ofArgs, J73, binV, intBin, J74, unV, J75, J76, mmV, builtinA, J77, J78, J79, J80, J81, J82, J83, J84, J85, J86, J87, J88, J89, Nat.reduceLT, Nat.reduceEqDiff, Nat.reduceAdd, Nat.reduceSub, Nat.reduceMul, reduceIte, J90, J91, J92, reduceCtorEq, J93, J94, J95, J96, J97, J98, J99, J100, t7], by simp only [und3, und4, und22, und26, und29, und45, und64, info3, info4, info22, info26, info29, info45, info64, info50, und50, aggT, J0, J1, J2, J3, J4, J5, J6, J7, J8, J9, J10, J11, J12, gv, dstAt, J13, J14, J15, J16, J17, J18, J19, J20, J21, J22, J23, J24, J25, J26, J27, J28, J29, J30, J31, J32, J33, J34, J35, J36, J37, J38, J39, J40, J41, J42, J43, J44, J45, J46, J47, J48, J49, J50, J51, J52, J53, J54, J55, J56, J57, J58, J59, aop, J60, J61, J62, evalsA, partsA, evalO, J63, J64, J65, J66, J67, J68, J69, J70, J71, updO, J72, ofArgs, J73, binV, intBin, J74, unV, J75, J76, mmV, builtinA, J77, J78, J79, J80, J81, J82, J83, J84, J85, J86, J87, J88, J89, Nat.reduceLT, Nat.reduceEqDiff, Nat.reduceAdd, Nat.reduceSub, Nat.reduceMul, reduceIte, J90, J91, J92, reduceCtorEq, J93, J94, J95, J96, J97, J98, J99, J100, t9], by simp only [und3, und4, und22, und26, und29, und45, und64, info3, info4, info22, info26, info29, info45, info64, info50, und50, aggT, J0, J1, J2, J3, J4, J5, J6, J7, J8, J9, J10, J11, J12, gv, dstAt, J13, J14, J15, J16, J17, J18, J19, J20, J21, J22, J23, J24, J25, J26, J27, J28, J29, J30, J31, J32, J33, J34, J35, J36, J37, J38, J39, J40, J41, J42, J43, J44, J45, J46, J47, J48, J49, J50, J51, J52, J53, J54, J55, J56, J57, J58, J59, aop, J60, J61, J62, evalsA, partsA, evalO, J63, J64, J65, J66, J67, J68, J69, J70, J71, updO, J72, ofArgs, J73, binV, intBin, J74, unV, J75, J76, mmV, builtinA, J77, J78, J79, J80, J81, J82, J83, J84, J85, J86, J87, J88, J89, Nat.reduceLT, Nat.reduceEqDiff, Nat.reduceAdd, Nat.reduceSub, Nat.reduceMul, reduceIte, J90, J91, J92, reduceCtorEq, J93, J94, J95, J96, J97, J98, J99, J100, t10, hwp], by omega, M7, ys7, hC7⟩
end Go.Proofs.Sz
end
/- part Zh -/
section
/- slices.Insert of one number, as a known call: by the library's own contract. -/
namespace Go.Proofs.Sz
open Go Go.Ax Go.Proofs Go.RowKit
theorem putB_id {w : World} {b : Nat} {ob : Obj} (h : w.heap[b]? = some ob) : putB w b ob = w := by
  unfold putB
  have : w.heap.setIfInBounds b ob = w.heap := by
    apply Array.ext_getElem?
    intro i
    rw [Array.getElem?_setIfInBounds]
    split
    · rename_i e
      subst e
      split
      · exact h.symm
      · rename_i hlt; rw [Array.getElem?_eq_none (by omega)]
    · rfl
  rw [this]
theorem putB_putB (w : World) (b : Nat) (x y : Obj) : putB (putB w b x) b y = putB w b y := by
  unfold putB
  simp
theorem setCell_put {w : World} {b o : Nat} {l : List Value} {t : TypeId} {fz : Nat × Nat} (h : w.heap[b]? = some (.cells l.toArray t fz)) (v : Value) : w.setCell ⟨b, o, none⟩ v = putB w b (.cells (l.set o v).toArray t fz) := by
  unfold World.setCell putB
  congr 1
  apply Array.ext_getElem?
  intro i
  rw [Array.getElem?_modify, Array.getElem?_setIfInBounds]
  by_cases e : b = i
  · subst e
    have hlt : b < w.heap.size := (Array.getElem?_eq_some_iff.1 h).1
    rw [if_pos rfl, if_pos rfl, if_pos hlt, h]
    simp
  · rw [if_neg e, if_neg e]
theorem splice_cons {l : List Value} {o : Nat} {v : Value} {vs : List Value} (h : o < l.length) : splice (l.set o v) (o + 1) vs = splice l o (v :: vs) := by
  unfold splice
  apply List.ext_getElem?
  intro i
  simp only [List.getElem?_append, List.getElem?_take, List.getElem?_set, List.getElem?_drop, List.length_take, List.length_set, List.length_cons, List.getElem?_cons]
  grind
theorem setCells_put {b : Nat} {t : TypeId} {fz : Nat × Nat} : ∀ (vs : List Value) (o : Nat) (l : List Value) (w : World), w.heap[b]? = some (.cells l.toArray t fz) → o + vs.length ≤ l.length → w.setCells b o vs = putB w b (.cells (splice l o vs).toArray t fz) := by
  intro vs
  induction vs with
  | nil => intro o l w h _; rw [splice_nil]; exact (putB_id h).symm
  | cons v vs ih =>
    intro o l w h hl
    rw [List.length_cons] at hl
    have hlt : b < w.heap.size := (Array.getElem?_eq_some_iff.1 h).1
    rw [World.setCells, setCell_put h, ih (o + 1) (l.set o v) _ (putB_same _ _ hlt) (by rw [List.length_set]; omega), putB_putB, splice_cons (by omega)]
theorem putB_alloc (w : World) (x y : Obj) : putB (w.alloc x) w.heap.size y = w.alloc y := by
  unfold putB World.alloc
  congr 1
  apply Array.ext_getElem?
  intro i
  rw [Array.getElem?_setIfInBounds]
  simp only [Array.getElem?_push, Array.size_push]
  grind
theorem alloc_drew (w : World) (x : Obj) : (w.alloc x).drew = w.drew.alloc x := rfl
theorem putB_drew (w : World) (b : Nat) (x : Obj) : (putB w b x).drew = putB w.drew b x := rfl
theorem drew_size (w : World) : w.drew.heap.size = w.heap.size := rfl
theorem fn34 : TT.fn 34 = some Tryz.f34 := by kernel_rfl
theorem scalars_iv (xs : List Int) : scalars (iv xs) = true := by
  unfold scalars iv
  rw [List.all_eq_true]
  intro x hx
  rw [List.mem_map] at hx
  obtain ⟨a, _, rfl⟩ := hx
  rfl
theorem one_iv {xs : List Int} : ∀ v ∈ iv xs, v.oneCell' = true := by
  intro v hv
  unfold iv at hv
  rw [List.mem_map] at hv
  obtain ⟨a, _, rfl⟩ := hv
  rfl
theorem splice_ins {l pad : List Value} {i : Nat} {x : Value} (hi : i < l.length) (hp : 0 < pad.length) : splice (splice (l ++ pad) (i + 1) (l.drop i)) i [x] = (l.take i ++ [x] ++ l.drop i) ++ pad.drop 1 := by
  unfold splice
  apply List.ext_getElem?
  intro j
  simp only [List.getElem?_append, List.getElem?_take, List.getElem?_drop, List.length_take, List.length_append, List.length_drop, List.length_singleton, List.length_cons, List.length_nil, List.getElem?_cons]
  grind
theorem alloc_setCells (w : World) (l vs : List Value) (o : Nat) (t : TypeId) (h : o + vs.length ≤ l.length) : (w.alloc (.cells l.toArray t (0, 0))).setCells w.heap.size o vs = w.alloc (.cells (splice l o vs).toArray t (0, 0)) := by
  rw [setCells_put _ _ _ _ (alloc_new w _) h, putB_alloc]
/-- what a grown row stands for, under its new name -/
theorem grownSR {w0 : Base} {E : Env} {S : St} {w : World} (hS : SR w0 E S w) {cs pad : List Value} {κ : Nat} (hs : scalars cs = true) (hk : cs.length + pad.length = κ) (hm : κ ≤ 9223372036854775807) :
    SR w0 (E.upd S.n (w.heap.size, κ)) (S.push (.cells cs 3 1)) (w.alloc (.cells (cs ++ pad).toArray 3 (0, 0))) := by
  refine hS.push _ _ κ ?_
  intro w' hw'
  exact ⟨w.heap.size, κ, cs, pad, Env.upd_same _ _ _, hw', VRs.of_scalars hs, fun h => absurd h (by omega), fun _ => ⟨by omega, hm⟩⟩
theorem zero_ints (n : Nat) : (Builtin.zeroCells (Value.int .i64 0).cells n).toList = List.replicate n (.int .i64 0) := by
  unfold Builtin.zeroCells
  rw [Array.toList_map, List.eq_replicate_iff]
  refine ⟨by simp [Value.cells], ?_⟩
  intro b hb
  rw [List.mem_map] at hb
  obtain ⟨j, hj, rfl⟩ := hb
  simp [Value.cells, Nat.mod_one]
theorem grownCap_le' (w : World) (need old : Nat) (e : TypeId) (h : need < 1000000) : need ≤ grownCap w need old e ∧ grownCap w need old e ≤ 9223372036854775807 := by
  have hlt := Nat.mod_lt (w.tape w.drawn (.appendCap need old e)) (show 0 < 2 ^ 63 - need by omega)
  simp only [grownCap, Question.cut]
  omega
/-- Insert into nothing -/
theorem ins_nil {S : St} {vb : Nat} {x : Int} (hvb : S.get vb = some (.cells [.int .i64 x] 3 0)) :
    CallIs PP 34 [.slice none 0 0, .int .i64 0, .slice (some ⟨vb, 0, none⟩) 1 1] S [(.slice (some ⟨S.n, 0, none⟩) 1 BIG, some (S.push (.cells (iv [x]) 3 1)))] := by
  obtain ⟨k1, k2⟩ := hTT.fn 34 _ fn34
  refine ⟨⟨Tryz.f34, _, k1, k2, rfl⟩, ?_⟩
  intro w0 E w args' m R hS hv hR
  cases hv with
  | cons hv1 hv =>
  cases hv with
  | cons hv2 hv =>
  cases hv with
  | cons hv3 hv =>
  cases hv
  have e1 := hv1.scalar_eq rfl
  have e2 := hv2.scalar_eq rfl
  subst e1 e2
  cases hv3 with
  | sc hs => simp [scalar] at hs
  | sl o l c hbv =>
  rename_i vb' κv
  obtain ⟨vs', vpad, p1, p2, p3, _⟩ := hS.cells hvb hbv
  have hvp := p3 rfl
  subst hvp
  have hvs' : vs' = [.int .i64 x] := p2.scalars_eq rfl
  subst hvs'
  have hcap1 : capOf κv 1 = 1 := rfl
  rw [hcap1]
  refine callsIn_wide.2 ?_
  refine (Any2.slices_Insert_int_end_grow insE none 0 0 vb' 0 1 1 [] [.int .i64 x] w (by omega) (by omega) (by omega) (by omega) rfl rfl (fun _ => rfl) (fun a h => by cases h) ?_ ?_).mono ?_
  · intro j v hj
    unfold World.cell?
    rw [p1]
    cases j with
    | zero => simpa using hj
    | succ j => simp at hj
  · intro v hv
    simp only [List.mem_singleton] at hv
    subst hv
    rfl
  · rintro e w' ⟨rfl, rfl⟩
    have hg := grownCap_le' w 1 0 3 (by omega)
    have hgr := grownSR hS.drew (cs := iv [x]) (pad := (Builtin.zeroCells (Value.int .i64 0).cells (grownCap w 1 0 3 - 1)).toList) (κ := grownCap w 1 0 3) (scalars_iv _) (by rw [zero_ints, List.length_replicate]; show 1 + _ = _; omega) hg.2
    have hle := Env.upd_le (x := (w.drew.heap.size, grownCap w 1 0 3)) (hS.dom _ (Nat.le_refl _))
    refine hR _ (List.mem_singleton.2 rfl) _ _ _ hle ?_ (.slb 0 1 (Env.upd_same _ _ _)) (Keeps.push _ _) (by rw [World.size_alloc]; exact Nat.le_succ _)
    have harr : (([] ++ [Value.int .i64 x]).toArray ++ Builtin.zeroCells (Value.int .i64 0).cells (grownCap w 1 0 3 - 1)) = (iv [x] ++ (Builtin.zeroCells (Value.int .i64 0).cells (grownCap w 1 0 3 - 1)).toList).toArray := by apply Array.ext'; simp
    show SR _ _ _ (w.drew.alloc (.cells (([] ++ [Value.int .i64 x]).toArray ++ Builtin.zeroCells (Value.int .i64 0).cells (grownCap w 1 0 3 - 1)) 3))
    rw [harr]
    exact hgr
theorem cell_of {w : World} {b : Nat} {l : List Value} {t : TypeId} (h : w.heap[b]? = some (.cells l.toArray t (0, 0))) (k : Nat) : w.cell? ⟨b, k, none⟩ = l[k]? := by
  unfold World.cell?
  rw [h]
  simp
theorem frozen_of {w : World} {b : Nat} {l : List Value} {t : TypeId} (h : w.heap[b]? = some (.cells l.toArray t (0, 0))) (k : Nat) : w.frozen? ⟨b, k, none⟩ = false := by
  unfold World.frozen?
  rw [h]
  simp
theorem shape_of {w : World} {b : Nat} {l : List Value} {t : TypeId} (h : w.heap[b]? = some (.cells l.toArray t (0, 0))) : w.shape? b = some (t, l.length) := by
  unfold World.shape?
  rw [h]
  simp
theorem regrowSR {w0 : Base} {E : Env} {S : St} {w : World} (hS : SR w0 E S w) {b b' κ : Nat} {cs cs2 : List Value} (hb : S.get b = some (.cells cs 3 1)) (hbE : E b = some (b', κ)) {pad : List Value} (hs : scalars cs2 = true) (hk : cs2.length + pad.length = κ) (hm : κ ≤ 9223372036854775807) :
    SR w0 (E.upd S.n (b', κ)) ((S.set b .dead).push (.cells cs2 3 1)) (putB w b' (.cells (cs2 ++ pad).toArray 3 (0, 0))) := by
  refine hS.regrow hb rfl hbE _ _ ?_
  intro w' hw'
  exact ⟨b', κ, cs2, pad, Env.upd_same _ _ _, hw', VRs.of_scalars hs, fun h => absurd h (by omega), fun _ => ⟨by omega, hm⟩⟩
theorem ins_is {S : St} {b vb n i : Nat} {xs : List Int} {x : Int} (hb : S.get b = some (.cells (iv xs) 3 1)) (hl : xs.length = n) (hi : i ≤ n) (hvb : S.get vb = some (.cells [.int .i64 x] 3 0)) (hn : n < 1000) :
    CallIs PP 34 [.slice (some ⟨b, 0, none⟩) n BIG, .int .i64 i, .slice (some ⟨vb, 0, none⟩) 1 1] S [(.slice (some ⟨S.n, 0, none⟩) (n + 1) BIG, some ((S.set b .dead).push (.cells (iv (xs.take i ++ [x] ++ xs.drop i)) 3 1)))] := by
  obtain ⟨k1, k2⟩ := hTT.fn 34 _ fn34
  refine ⟨⟨Tryz.f34, _, k1, k2, rfl⟩, ?_⟩
  intro w0 E w args' m R hS hv hR
  cases hv with
  | cons hv1 hv =>
  cases hv with
  | cons hv2 hv =>
  cases hv with
  | cons hv3 hv =>
  cases hv
  have e2 := hv2.scalar_eq rfl
  subst e2
  cases hv1 with
  | sc hs => simp [scalar] at hs
  | sl o l c hbE =>
  rename_i b' κ
  cases hv3 with
  | sc hs => simp [scalar] at hs
  | sl o l c hbv =>
  rename_i vb' κv
  rw [BIG_not]
  have hcap1 : capOf κv 1 = 1 := rfl
  rw [hcap1]
  obtain ⟨cs', pad, q1, q2, q3, q4⟩ := hS.cells hb hbE
  have hκ := hS.cellsK hb (by omega) hbE
  have hcs' : cs' = iv xs := q2.scalars_eq (scalars_iv _)
  subst hcs'
  have hlen := q4 (by omega)
  rw [iv_len, hl, Nat.mul_one] at hlen
  obtain ⟨vs', vpad, p1, p2, p3, _⟩ := hS.cells hvb hbv
  have hvp := p3 rfl
  subst hvp
  have hvs' : vs' = [.int .i64 x] := p2.scalars_eq rfl
  subst hvs'
  have hne : vb' ≠ b' := by
    intro e
    subst e
    have := hS.inj b vb _ _ vb' κ κv hb rfl hvb rfl hbE hbv
    subst this
    rw [hb] at hvb
    simp at hvb
  have hblt := (hS.rng _ _ _ hbE).2
  have hivl : (iv xs).length = n := by rw [iv_len, hl]
  have hins : iv (xs.take i ++ [x] ++ xs.drop i) = (iv xs).take i ++ [.int .i64 x] ++ (iv xs).drop i := by simp [iv, List.map_take, List.map_drop]
  have hinl : (iv (xs.take i ++ [x] ++ xs.drop i)).length = n + 1 := by rw [iv_len]; simp; omega
  have hvs : ∀ j v, [Value.int .i64 x][j]? = some v → w.cell? ⟨vb', 0 + j, none⟩ = some v := by
    intro j v hj
    rw [cell_of p1, Nat.zero_add, List.append_nil]
    exact hj
  have hv1 : ∀ v ∈ [Value.int .i64 x], v.oneCell' = true := by
    intro v hv
    simp only [List.mem_singleton] at hv
    subst hv
    rfl
  have hcs : ∀ j v, (iv xs)[j]? = some v → w.cell? ⟨b', 0 + j, none⟩ = some v := by
    intro j v hj
    have hlt : j < (iv xs).length := (List.getElem?_eq_some_iff.1 hj).1
    rw [cell_of q1, Nat.zero_add, List.getElem?_append_left hlt]
    exact hj
  -- where it all ends
  have fin : ∀ (w' : World) (nb κ' : Nat), SR w0 (E.upd S.n (nb, κ')) ((S.set b .dead).push (.cells (iv (xs.take i ++ [x] ++ xs.drop i)) 3 1)) w' → w.heap.size ≤ w'.heap.size → R (.returned (.slice (some ⟨nb, 0, none⟩) (n + 1) κ')) w' := by
    intro w' nb κ' hSR hz
    exact hR _ (List.mem_singleton.2 rfl) _ _ _ (Env.upd_le (hS.dom _ (Nat.le_refl _))) hSR (.slb 0 (n + 1) (Env.upd_same _ _ _)) ((Keeps.set (lt_of_get hb) _).trans (Keeps.push _ _)) hz
  have newrow : ∀ (w1 : World), SR w0 E S w1 → ∀ κ', n + 1 ≤ κ' → κ' ≤ 9223372036854775807 → SR w0 (E.upd S.n (w1.heap.size, κ')) ((S.set b .dead).push (.cells (iv (xs.take i ++ [x] ++ xs.drop i)) 3 1)) (w1.alloc (.cells (iv (xs.take i ++ [x] ++ xs.drop i) ++ List.replicate (κ' - (n + 1)) (Value.int .i64 0)).toArray 3 (0, 0))) := by
    intro w1 hS1 κ' h1 h2
    have hlt := lt_of_get hb
    have hk := grownSR (hS1.kill hlt) (cs := iv (xs.take i ++ [x] ++ xs.drop i)) (pad := List.replicate (κ' - (n + 1)) (Value.int .i64 0)) (κ := κ') (scalars_iv _) (by rw [hinl, List.length_replicate]; omega) h2
    exact hk
  refine callsIn_wide.2 ?_
  by_cases hroom : n + 1 ≤ κ
  · have hpl : 0 < pad.length := by omega
    have hreg : ∀ w1 : World, SR w0 E S w1 → SR w0 (E.upd S.n (b', κ)) ((S.set b .dead).push (.cells (iv (xs.take i ++ [x] ++ xs.drop i)) 3 1)) (putB w1 b' (.cells (iv (xs.take i ++ [x] ++ xs.drop i) ++ pad.drop 1).toArray 3 (0, 0))) :=
      fun w1 hS1 => regrowSR hS1 hb hbE (scalars_iv _) (by rw [hinl, List.length_drop]; omega) hκ
    have hsp : ∀ j, j < n + 1 → (w.cell? ⟨b', 0 + j, none⟩).isSome = true := by
      intro j hj
      rw [cell_of q1, Nat.zero_add, List.getElem?_eq_getElem (by rw [List.length_append]; omega)]
      rfl
    by_cases hin : i < n
    · refine (Any2.slices_Insert_int_shift insE b' 0 n κ i vb' 0 1 1 (iv xs) [.int .i64 x] w hin (by omega) hroom hκ hne hivl rfl hcs hsp (fun j _ => frozen_of q1 _) hvs one_iv hv1 _ _ _ _ (shape_of p1) (shape_of q1) (by rw [List.length_append]; omega) (frozen_of p1 _) (frozen_of p1 _)).mono ?_
      rintro e w' ⟨rfl, rfl⟩
      have q1' : w.drew.heap[b']? = some (.cells (iv xs ++ pad).toArray 3 (0, 0)) := q1
      rw [Nat.zero_add, Nat.zero_add, setCells_put _ _ _ _ q1' (by simp only [List.length_drop, List.length_append]; omega)]
      rw [setCells_put _ _ _ _ (putB_same w.drew _ hblt) (by rw [splice_length _ _ _ (by simp only [List.length_drop, List.length_append]; omega)]; simp only [List.length_append, List.length_singleton]; omega), putB_putB, splice_ins (by omega) hpl]
      have := hreg _ hS.drew
      rw [hins] at this
      refine fin _ b' κ ?_ (by rw [putB_size]; exact Nat.le_refl _)
      rw [hins]
      exact this
    · have hin' : i = n := by omega
      subst hin'
      refine (Any2.slices_Insert_int_end_room insE b' 0 i κ vb' 0 1 1 [.int .i64 x] w (by omega) hroom hκ rfl (fun j hj => by have := hsp (i + j) (by omega); rwa [Nat.zero_add] at this ⊢) (fun j _ => frozen_of q1 _) hvs hv1).mono ?_
      rintro e w' ⟨rfl, rfl⟩
      rw [Nat.zero_add, setCells_put _ _ _ _ q1 (by simp only [List.length_append, List.length_singleton]; omega)]
      have hsplice : splice (iv xs ++ pad) i [.int .i64 x] = iv (xs.take i ++ [x] ++ xs.drop i) ++ pad.drop 1 := by
        rw [hins]
        unfold splice
        apply List.ext_getElem?
        intro j
        simp only [List.getElem?_append, List.getElem?_take, List.getElem?_drop, List.length_take, List.length_append, List.length_drop, List.length_singleton, List.length_cons, List.length_nil, List.getElem?_cons]
        grind
      rw [hsplice]
      exact fin _ b' κ (hreg _ hS) (by rw [putB_size]; exact Nat.le_refl _)
  · have hg := grownCap_le' w (n + 1) κ 3 (by omega)
    by_cases hin : i < n
    · refine (Any2.slices_Insert_int_grow insE b' 0 n κ i vb' 0 1 1 (iv xs) [.int .i64 x] w hin (by omega) (by omega) (by omega) (by omega) hivl rfl hcs hvs one_iv hv1).mono ?_
      rintro e w' ⟨rfl, rfl⟩
      refine fin _ w.heap.size (grownCap w (n + 1) κ 3) ?_ ?_
      · have := newrow w.drew.drew hS.drew.drew (grownCap w (n + 1) κ 3) (by omega) hg.2
        generalize hG : grownCap w (n + 1) κ 3 = G at *
        have hn0 : (Builtin.zeroCells (Value.int .i64 0).cells (n + 1 - i)).toList = List.replicate (n + 1 - i) (Value.int .i64 0) := zero_ints _
        have harr : ((iv xs).take i).toArray ++ Builtin.zeroCells (Value.int .i64 0).cells (n + 1 - i) ++ Builtin.zeroCells (Value.int .i64 0).cells (G - (n + 1)) = ((iv xs).take i ++ List.replicate (n + 1 - i) (Value.int .i64 0) ++ List.replicate (G - (n + 1)) (Value.int .i64 0)).toArray := by
          apply Array.ext'
          rw [Array.toList_append, Array.toList_append, zero_ints, zero_ints]
        show SR _ _ _ ((((w.alloc (.cells (((iv xs).take i).toArray ++ Builtin.zeroCells (Value.int .i64 0).cells (n + 1 - i) ++ Builtin.zeroCells (Value.int .i64 0).cells (grownCap w (n + 1) κ 3 - (n + 1))) 3)).drew.setCells w.heap.size i [.int .i64 x]).drew).setCells w.heap.size (i + 1) ((iv xs).drop i))
        rw [hG, harr]
        have x1 : (w.alloc (.cells ((iv xs).take i ++ List.replicate (n + 1 - i) (Value.int .i64 0) ++ List.replicate (G - (n + 1)) (Value.int .i64 0)).toArray 3)).drew.setCells w.heap.size i [.int .i64 x] = w.drew.alloc (.cells (splice ((iv xs).take i ++ List.replicate (n + 1 - i) (Value.int .i64 0) ++ List.replicate (G - (n + 1)) (Value.int .i64 0)) i [.int .i64 x]).toArray 3) :=
          alloc_setCells w.drew _ _ _ _ (by simp only [List.length_append, List.length_take, List.length_replicate, List.length_singleton]; omega)
        rw [x1]
        have x2 : (w.drew.alloc (.cells (splice ((iv xs).take i ++ List.replicate (n + 1 - i) (Value.int .i64 0) ++ List.replicate (G - (n + 1)) (Value.int .i64 0)) i [.int .i64 x]).toArray 3)).drew.setCells w.heap.size (i + 1) ((iv xs).drop i) = w.drew.drew.alloc (.cells (splice (splice ((iv xs).take i ++ List.replicate (n + 1 - i) (Value.int .i64 0) ++ List.replicate (G - (n + 1)) (Value.int .i64 0)) i [.int .i64 x]) (i + 1) ((iv xs).drop i)).toArray 3) :=
          alloc_setCells w.drew.drew _ _ _ _ (by rw [splice_length _ _ _ (by simp only [List.length_append, List.length_take, List.length_replicate, List.length_singleton]; omega)]; simp only [List.length_append, List.length_take, List.length_replicate, List.length_drop]; omega)
        rw [x2]
        have hsp2 : splice (splice ((iv xs).take i ++ List.replicate (n + 1 - i) (Value.int .i64 0) ++ List.replicate (G - (n + 1)) (Value.int .i64 0)) i [.int .i64 x]) (i + 1) ((iv xs).drop i) = iv (xs.take i ++ [x] ++ xs.drop i) ++ List.replicate (G - (n + 1)) (Value.int .i64 0) := by
          rw [hins]
          unfold splice
          apply List.ext_getElem?
          intro j
          simp only [List.getElem?_append, List.getElem?_take, List.getElem?_drop, List.length_take, List.length_append, List.length_drop, List.length_singleton, List.length_cons, List.length_nil, List.getElem?_cons, List.length_replicate, List.getElem?_replicate]
          grind
        rw [hsp2]
        exact this
      · have h1 : ∀ (vs : List Value) (o : Nat) (w : World) (b : Nat), (w.setCells b o vs).heap.size = w.heap.size := by
          intro vs
          induction vs with
          | nil => intro o w b; rfl
          | cons v vs ih => intro o w b; rw [World.setCells, ih]; simp [World.setCell]
        rw [h1]
        show w.heap.size ≤ (World.setCells _ _ _ _).heap.size
        rw [h1]
        show w.heap.size ≤ (w.alloc _).heap.size
        rw [World.size_alloc]
        exact Nat.le_succ _
    · have hin' : i = n := by omega
      subst hin'
      refine (Any2.slices_Insert_int_end_grow insE (some ⟨b', 0, none⟩) i κ vb' 0 1 1 (iv xs) [.int .i64 x] w (by omega) (by omega) (by omega) (by omega) hivl rfl (fun h => by cases h) (fun a ha j v hj => by cases ha; rw [Addr.add_lit]; exact hcs j v hj) hvs hv1).mono ?_
      rintro e w' ⟨rfl, rfl⟩
      refine fin _ w.heap.size _ ?_ (by rw [World.size_alloc]; exact Nat.le_succ _)
      have := newrow w.drew hS.drew (grownCap w (i + 1) κ 3) (by omega) hg.2
      have harr : ((iv xs ++ [Value.int .i64 x]).toArray ++ Builtin.zeroCells (Value.int .i64 0).cells (grownCap w (i + 1) κ 3 - (i + 1))) = (iv (xs.take i ++ [x] ++ xs.drop i) ++ List.replicate (grownCap w (i + 1) κ 3 - (i + 1)) (Value.int .i64 0)).toArray := by
        apply Array.ext'
        rw [Array.toList_append, zero_ints, hins, List.take_of_length_le (by omega), List.drop_eq_nil_of_le (by omega), List.append_nil]
      show SR _ _ _ (w.drew.alloc (.cells ((iv xs ++ [Value.int .i64 x]).toArray ++ Builtin.zeroCells (Value.int .i64 0).cells (grownCap w (i + 1) κ 3 - (i + 1))) 3))
      rw [harr]
      exact this
end Go.Proofs.Sz
end
/- part Zi -/
section
namespace Go.Proofs.Sz
open Go Go.Ax Go.Proofs Go.RowKit
/-- a number put in at a place -/
def insL (xs : List Int) (i : Nat) (x : Int) : List Int := xs.take i ++ [x] ++ xs.drop i
theorem insL_len {xs : List Int} {i : Nat} (h : i ≤ xs.length) (x : Int) : (insL xs i x).length = xs.length + 1 := by
  unfold insL
  simp
  omega
theorem ins_call {S : St} (hok : S.ok) {lo : Nat} {v : Value} {xs : List Int} (hM : Mine S 3 1 lo v (iv xs) xs.length) (hlo : lo ≤ S.n) {i : Nat} (hi : i ≤ xs.length) {vb : Nat} {x : Int} (hvb : S.get vb = some (.cells [.int .i64 x] 3 0)) (hn : xs.length < 1000) :
    CallW PP 34 [v, .int .i64 i, .slice (some ⟨vb, 0, none⟩) 1 1] S (fun r S' => Mine S' 3 1 lo r (iv (insL xs i x)) (xs.length + 1) ∧ But v S S') := by
  rcases hM with ⟨rfl, h1, h2⟩ | ⟨b, rfl, h1, h2, h3⟩
  · have hxs : xs = [] := List.length_eq_zero_iff.1 h2
    subst hxs
    have hi0 : i = 0 := by simpa using hi
    subst hi0
    refine ⟨_, _, ins_nil hvb, .inr ⟨S.n, rfl, hlo, get_push_new _ rfl, rfl⟩, ⟨by rw [ok_push_iff]; exact hok, by rw [push_n]; omega, fun j hj _ => get_push_ne _ (by omega), rfl⟩⟩
  · have hlt := lt_of_get h2
    refine ⟨_, _, ins_is h2 rfl hi hvb hn, .inr ⟨S.n, rfl, hlo, get_push_new _ rfl, ?_⟩, ⟨by rw [ok_push_iff, ok_set_iff]; exact hok, by rw [push_n, set_n]; omega, fun j hj hne => ?_, rfl⟩⟩
    · rw [iv_len]
      have := insL_len hi x
      unfold insL at this ⊢
      omega
    · rw [get_push_ne _ (by rw [set_n]; omega), get_set_ne _ hlt (fun e => hne (by rw [e]; rfl))]
/-- the way as far as the first players -/
def wayL (M : Nat → Nat → Int) : Nat → List Int
  | 0 => []
  | k + 1 => insL (wayL M k) (((wayL M k).findIdx? (fun u => M k u.toNat == 1)).getD (wayL M k).length) k
theorem way_at_le {p : Int → Bool} (l : List Int) : (l.findIdx? p).getD l.length ≤ l.length := by
  cases h : l.findIdx? p with
  | none => exact Nat.le_refl _
  | some i =>
    rw [List.findIdx?_eq_some_iff_getElem] at h
    exact Nat.le_of_lt h.1
theorem wayL_len (M : Nat → Nat → Int) (k : Nat) : (wayL M k).length = k := by
  induction k with
  | zero => rfl
  | succ k ih =>
    unfold wayL
    rw [insL_len (way_at_le _), ih]
theorem insL_perm (xs : List Int) (i : Nat) (x : Int) : (insL xs i x).Perm (xs ++ [x]) := by
  unfold insL
  have h := List.take_append_drop i xs
  have h1 : (xs.take i ++ [x] ++ xs.drop i).Perm (xs.take i ++ xs.drop i ++ [x]) := by
    rw [List.append_assoc, List.append_assoc]
    exact List.Perm.append_left _ List.perm_append_comm
  rw [h] at h1
  exact h1
theorem wayL_perm (M : Nat → Nat → Int) (k : Nat) : (wayL M k).Perm (upto k) := by
  induction k with
  | zero => exact .refl _
  | succ k ih =>
    unfold wayL
    rw [upto_succ]
    exact (insL_perm _ _ _).trans (ih.append_right _)
theorem fn12 : TT.fn 12 = some Tryz.f12 := by kernel_rfl
set_option maxHeartbeats 4000000 in
/-- Way, of a contest -/
theorem way_call {S : St} (hok : S.ok) {vl : Value} {n : Nat} {M : Nat → Nat → Int} (hx0 : Mat S vl (mrows n n M)) (hpl : Plain vl n) (hn : n < 31) (hC : IsC n M) :
    CallW PP 12 [vl] S (fun v S' => ∃ u, v = .tuple #[u, .int .i64 0] ∧ Mine S' 3 1 S.n u (iv (wayL M n)) n ∧ Ext S S') := by
  have hcp := hpl.cells
  have hE0 : Ext S (S.push (.cells [vl] 22 0)) := (Ext.refl hok).push _
  have hx := hx0.extd hE0
  have hla := hx.len (T := TT) und22
  rw [mrows_len] at hla
  have hl : (S.push (.cells [vl] 22 0)).get S.n = some (.cells [vl] 22 0) := get_push_new _ rfl
  have r1 := load_one (o := 0) und22 info22 rfl hl
  simp only [List.getElem?_cons_zero] at r1
  refine CallW_of hTT fn12 rfl (by simp [Tryz.f12]) ?_
  unfold Tryz.f12
  repeat (first | with_reducible refine W_seq ?_ | with_reducible refine W_block ?_ | with_reducible refine W_scope ?_ | ((first | with_reducible refine W_regionV hTT ?_ | with_reducible refine W_condV ?_ | with_reducible refine W_ret ?_ | with_reducible refine W_exit ?_ | with_reducible refine W_skip ?_ | with_reducible refine W_label ?_ | with_reducible refine W_drawV hTT (by kernel_rfl) ?_); try simp only [und3, und4, und22, und26, und29, und45, und64, info3, info4, info22, info26, info29, info45, info64, info50, und50, aggT, J0, J1, J2, J3, J4, J5, J6, J7, J8, J9, J10, J11, J12, gv, dstAt, J13, J14, J15, J16, J17, J18, J19, J20, J21, J22, J23, J24, J25, J26, J27, J28, J29, J30, J31, J32, J33, J34, J35, J36, J37, J38, J39, J40, J41, J42, J43, J44, J45, J46, J47, J48, J49, J50, J51, J52, J53, J54, J55, J56, J57, J58, J59, aop, J60, J61, J62, evalsA, partsA, evalO, J63, J64, J65, J66, J67, J68, J69, J70, J71, updO, J72, ofArgs, J73, binV, intBin, J74, unV, J75, J76, mmV, builtinA, J77, J78, J79, J80, J81, J82, J83, J84, J85, J86, J87, J88, J89, Nat.reduceLT, Nat.reduceEqDiff, Nat.reduceAdd, Nat.reduceSub, Nat.reduceMul, reduceIte, J90, J91, J92, reduceCtorEq, J93, J94, J95, J96, J97, J98, J99, J100, boxA, hcp.1, r1]))
  refine VCall_intro (isContest_yes hx hn hC) ?_
  rintro v S1 ⟨rfl, rfl⟩
  (try simp only [und3, und4, und22, und26, und29, und45, und64, info3, info4, info22, info26, info29, info45, info64, info50, und50, aggT, J0, J1, J2, J3, J4, J5, J6, J7, J8, J9, J10, J11, J12, gv, dstAt, J13, J14, J15, J16, J17, J18, J19, J20, J21, J22, J23, J24, J25, J26, J27, J28, J29, J30, J31, J32, J33, J34, J35, J36, J37, J38, J39, J40, J41, J42, J43, J44, J45, J46, J47, J48, J49, J50, J51, J52, J53, J54, J55, J56, J57, J58, J59, aop, J60, J61, J62, evalsA, partsA, evalO, J63, J64, J65, J66, J67, J68, J69, J70, J71, updO, J72, ofArgs, J73, binV, intBin, J74, unV, J75, J76, mmV, builtinA, J77, J78, J79, J80, J81, J82, J83, J84, J85, J86, J87, J88, J89, Nat.reduceLT, Nat.reduceEqDiff, Nat.reduceAdd, Nat.reduceSub, Nat.reduceMul, reduceIte, J90, J91, J92, reduceCtorEq, J93, J94, J95, J96, J97, J98, J99, J100, r1, hla]); repeat (first | with_reducible refine W_seq ?_ | with_reducible refine W_scope ?_ | ((first | with_reducible refine W_regionV hTT ?_ | with_reducible refine W_condV ?_ | with_reducible refine W_ret ?_ | with_reducible refine W_exit ?_ | with_reducible refine W_skip ?_ | with_reducible refine W_label ?_ | with_reducible refine W_drawV hTT (by kernel_rfl) ?_); try simp only [und3, und4, und22, und26, und29, und45, und64, info3, info4, info22, info26, info29, info45, info64, info50, und50, aggT, J0, J1, J2, J3, J4, J5, J6, J7, J8, J9, J10, J11, J12, gv, dstAt, J13, J14, J15, J16, J17, J18, J19, J20, J21, J22, J23, J24, J25, J26, J27, J28, J29, J30, J31, J32, J33, J34, J35, J36, J37, J38, J39, J40, J41, J42, J43, J44, J45, J46, J47, J48, J49, J50, J51, J52, J53, J54, J55, J56, J57, J58, J59, aop, J60, J61, J62, evalsA, partsA, evalO, J63, J64, J65, J66, J67, J68, J69, J70, J71, updO, J72, ofArgs, J73, binV, intBin, J74, unV, J75, J76, mmV, builtinA, J77, J78, J79, J80, J81, J82, J83, J84, J85, J86, J87, J88, J89, Nat.reduceLT, Nat.reduceEqDiff, Nat.reduceAdd, Nat.reduceSub, Nat.reduceMul, reduceIte, J90, J91, J92, reduceCtorEq, J93, J94, J95, J96, J97, J98, J99, J100, r1, hla]))
  refine W_block ?_
  refine W_loopI (fun m τ ds S' => Ext (S.push (.cells [vl] 22 0)) S' ∧ ds = [] ∧ ∃ (k : Nat) (v4 : Value), m = n - k ∧ k ≤ n ∧ τ 1 = .pointer (some ⟨S.n, 0, none⟩) ∧ τ 4 = v4 ∧ τ 11 = .int .i64 n ∧ τ 12 = .int .i64 k ∧ Mine S' 3 1 (S.n + 1) v4 (iv (wayL M k)) k) n ?_ ?_
  · refine ⟨Ext.refl hE0.ok, rfl, 0, .slice none 0 0, by simp, by simp, ?_, ?_, ?_, ?_, Mine.nil _ _ _ _⟩ <;> first | rfl | simp only [und3, und4, und22, und26, und29, und45, und64, info3, info4, info22, info26, info29, info45, info64, info50, und50, aggT, J0, J1, J2, J3, J4, J5, J6, J7, J8, J9, J10, J11, J12, gv, dstAt, J13, J14, J15, J16, J17, J18, J19, J20, J21, J22, J23, J24, J25, J26, J27, J28, J29, J30, J31, J32, J33, J34, J35, J36, J37, J38, J39, J40, J41, J42, J43, J44, J45, J46, J47, J48, J49, J50, J51, J52, J53, J54, J55, J56, J57, J58, J59, aop, J60, J61, J62, evalsA, partsA, evalO, J63, J64, J65, J66, J67, J68, J69, J70, J71, updO, J72, ofArgs, J73, binV, intBin, J74, unV, J75, J76, mmV, builtinA, J77, J78, J79, J80, J81, J82, J83, J84, J85, J86, J87, J88, J89, Nat.reduceLT, Nat.reduceEqDiff, Nat.reduceAdd, Nat.reduceSub, Nat.reduceMul, reduceIte, J90, J91, J92, reduceCtorEq, J93, J94, J95, J96, J97, J98, J99, J100]
  · rintro m τ ds S' ⟨hE, rfl, k, v4, rfl, hk, t1, t4, t11, t12, hM⟩
    have hnn := hE.n
    rw [push_n] at hnn
    by_cases hlt : k < n
    · have e1 : decide ((k : Int) < n) = true := by simpa using hlt
      have hw := wrap_succ (k := k) (by omega)
      have s1 := store_one (T := TT) (S := S'.push (.cells [.int .i64 0] 3 0)) (b := S'.n) (o := 0) (v := .int .i64 k) info3 (get_push_new _ rfl) rfl rfl (by simp)
      simp only [List.set_cons_zero] at s1
      generalize hS2 : (S'.push (.cells [.int .i64 0] 3 0)).set S'.n (.cells [.int .i64 k] 3 0) = S2 at s1
      have hE2 : Ext (S.push (.cells [vl] 22 0)) S2 := by
        rw [← hS2]
        exact (hE.push _).set _ (by rw [push_n]; omega) (by rw [push_n]; omega)
      have n2 : S2.n = S'.n + 1 := by rw [← hS2, set_n, push_n]
      have g5 : S2.get S'.n = some (.cells [.int .i64 k] 3 0) := by
        rw [← hS2]
        exact get_set_same _ (by rw [ok_push_iff]; exact hE.ok) (by rw [push_n]; omega) rfl
      have hM2 : Mine S2 3 1 (S.n + 1) v4 (iv (wayL M k)) (wayL M k).length := by
        rw [wayL_len]
        refine hM.same fun b hb => ?_
        have := (hM.base hb).2
        rw [← hS2, get_set_ne _ (by rw [push_n]; omega) (by omega), get_push_ne _ (by omega)]
      have g1 := hE2.get hl
      have r3 := load_one (o := 0) und3 info3 rfl g5
      simp only [List.getElem?_cons_zero] at r3
      have hx2 := hx.extd hE2
      have hwl := wayL_len M k
      have hlv := hM2.sl.len (T := TT) und26
      have hidx : ∀ x ∈ wayL M k, CallW PP 33 ([.int .i64 x] ++ [.pointer (some ⟨S.n, 0, none⟩), .pointer (some ⟨S'.n, 0, none⟩)]) S2 (fun v S' => v = .bool ((fun u : Int => M k u.toNat == 1) x) ∧ S' = S2) := by
        intro x hx9
        obtain ⟨u, hu, rfl⟩ := upto_mem ((wayL_perm M k).mem_iff.1 hx9)
        exact beaten_call hx2 g1 g5 hlt (by omega)
      repeat (first | with_reducible refine W_seq ?_ | with_reducible refine W_block ?_ | with_reducible refine W_scope ?_ | ((first | with_reducible refine W_regionV hTT ?_ | with_reducible refine W_condV ?_ | with_reducible refine W_ret ?_ | with_reducible refine W_exit ?_ | with_reducible refine W_skip ?_ | with_reducible refine W_label ?_ | with_reducible refine W_drawV hTT (by kernel_rfl) ?_); try simp only [und3, und4, und22, und26, und29, und45, und64, info3, info4, info22, info26, info29, info45, info64, info50, und50, aggT, J0, J1, J2, J3, J4, J5, J6, J7, J8, J9, J10, J11, J12, gv, dstAt, J13, J14, J15, J16, J17, J18, J19, J20, J21, J22, J23, J24, J25, J26, J27, J28, J29, J30, J31, J32, J33, J34, J35, J36, J37, J38, J39, J40, J41, J42, J43, J44, J45, J46, J47, J48, J49, J50, J51, J52, J53, J54, J55, J56, J57, J58, J59, aop, J60, J61, J62, evalsA, partsA, evalO, J63, J64, J65, J66, J67, J68, J69, J70, J71, updO, J72, ofArgs, J73, binV, intBin, J74, unV, J75, J76, mmV, builtinA, J77, J78, J79, J80, J81, J82, J83, J84, J85, J86, J87, J88, J89, Nat.reduceLT, Nat.reduceEqDiff, Nat.reduceAdd, Nat.reduceSub, Nat.reduceMul, reduceIte, J90, J91, J92, reduceCtorEq, J93, J94, J95, J96, J97, J98, J99, J100, t1, t4, t11, t12, e1, al3, s1, fnOk_func]))
      refine VCall_intro (indexFunc_call hM2.sl (by omega) hidx) ?_
      rintro v S3 ⟨rfl, rfl⟩
      have b1 := bs_one (T := TT) (S := S3) (x := .int .i64 k) und26 info3 rfl rfl rfl
      have hEp : Ext (S.push (.cells [vl] 22 0)) (S3.push (.cells [.int .i64 k] 3 0)) := hE2.push _
      have hMp : Mine (S3.push (.cells [.int .i64 k] 3 0)) 3 1 (S.n + 1) v4 (iv (wayL M k)) (wayL M k).length := hM2.same fun b hb => get_push_ne _ (by have := (hM2.base hb).2; omega)
      have hat : (((wayL M k).findIdx? (fun u => M k u.toNat == 1)).getD (wayL M k).length) ≤ (wayL M k).length := way_at_le _
      have hins := ins_call hEp.ok hMp (by rw [push_n]; omega) hat (get_push_new (S := S3) (.cells [.int .i64 (k : Int)] 3 0) rfl) (by omega)
      -- what follows, whichever place it is
      have hnext : ∀ r S4, Mine S4 3 1 (S.n + 1) r (iv (insL (wayL M k) (((wayL M k).findIdx? (fun u => M k u.toNat == 1)).getD (wayL M k).length) k)) ((wayL M k).length + 1) → But v4 (S3.push (.cells [.int .i64 k] 3 0)) S4 → Mine S4 3 1 (S.n + 1) r (iv (wayL M (k + 1))) (k + 1) ∧ Ext (S.push (.cells [vl] 22 0)) S4 := by
        intro r S4 h1 h2
        rw [hwl] at h1
        exact ⟨by unfold wayL; rw [hwl]; exact h1, h2.ext hEp fun b hb => by rw [push_n]; exact (hMp.base hb).1⟩
      cases hf : (wayL M k).findIdx? (fun u => M k u.toNat == 1) with
      | none =>
        have hix : idx (fun u => M k u.toNat == 1) (wayL M k) = -1 := by unfold idx; rw [hf]
        have e2 : decide ((-1 : Int) < 0) = true := rfl
        rw [hf, Option.getD_none] at hins hnext
        rw [hix]
        (try simp only [und3, und4, und22, und26, und29, und45, und64, info3, info4, info22, info26, info29, info45, info64, info50, und50, aggT, J0, J1, J2, J3, J4, J5, J6, J7, J8, J9, J10, J11, J12, gv, dstAt, J13, J14, J15, J16, J17, J18, J19, J20, J21, J22, J23, J24, J25, J26, J27, J28, J29, J30, J31, J32, J33, J34, J35, J36, J37, J38, J39, J40, J41, J42, J43, J44, J45, J46, J47, J48, J49, J50, J51, J52, J53, J54, J55, J56, J57, J58, J59, aop, J60, J61, J62, evalsA, partsA, evalO, J63, J64, J65, J66, J67, J68, J69, J70, J71, updO, J72, ofArgs, J73, binV, intBin, J74, unV, J75, J76, mmV, builtinA, J77, J78, J79, J80, J81, J82, J83, J84, J85, J86, J87, J88, J89, Nat.reduceLT, Nat.reduceEqDiff, Nat.reduceAdd, Nat.reduceSub, Nat.reduceMul, reduceIte, J90, J91, J92, reduceCtorEq, J93, J94, J95, J96, J97, J98, J99, J100, t1, t4, t11, t12, e2, hlv, r3, b1]); repeat (first | with_reducible refine W_seq ?_ | with_reducible refine W_block ?_ | with_reducible refine W_scope ?_ | ((first | with_reducible refine W_regionV hTT ?_ | with_reducible refine W_condV ?_ | with_reducible refine W_ret ?_ | with_reducible refine W_exit ?_ | with_reducible refine W_skip ?_ | with_reducible refine W_label ?_ | with_reducible refine W_drawV hTT (by kernel_rfl) ?_); try simp only [und3, und4, und22, und26, und29, und45, und64, info3, info4, info22, info26, info29, info45, info64, info50, und50, aggT, J0, J1, J2, J3, J4, J5, J6, J7, J8, J9, J10, J11, J12, gv, dstAt, J13, J14, J15, J16, J17, J18, J19, J20, J21, J22, J23, J24, J25, J26, J27, J28, J29, J30, J31, J32, J33, J34, J35, J36, J37, J38, J39, J40, J41, J42, J43, J44, J45, J46, J47, J48, J49, J50, J51, J52, J53, J54, J55, J56, J57, J58, J59, aop, J60, J61, J62, evalsA, partsA, evalO, J63, J64, J65, J66, J67, J68, J69, J70, J71, updO, J72, ofArgs, J73, binV, intBin, J74, unV, J75, J76, mmV, builtinA, J77, J78, J79, J80, J81, J82, J83, J84, J85, J86, J87, J88, J89, Nat.reduceLT, Nat.reduceEqDiff, Nat.reduceAdd, Nat.reduceSub, Nat.reduceMul, reduceIte, J90, J91, J92, reduceCtorEq, J93, J94, J95, J96, J97, J98, J99, J100, t1, t4, t11, t12, e2, hlv, r3, b1]))
        refine VCall_intro hins ?_
        rintro r S4 ⟨h1, h2⟩
        obtain ⟨h3, h4⟩ := hnext r S4 h1 h2
        (try simp only [und3, und4, und22, und26, und29, und45, und64, info3, info4, info22, info26, info29, info45, info64, info50, und50, aggT, J0, J1, J2, J3, J4, J5, J6, J7, J8, J9, J10, J11, J12, gv, dstAt, J13, J14, J15, J16, J17, J18, J19, J20, J21, J22, J23, J24, J25, J26, J27, J28, J29, J30, J31, J32, J33, J34, J35, J36, J37, J38, J39, J40, J41, J42, J43, J44, J45, J46, J47, J48, J49, J50, J51, J52, J53, J54, J55, J56, J57, J58, J59, aop, J60, J61, J62, evalsA, partsA, evalO, J63, J64, J65, J66, J67, J68, J69, J70, J71, updO, J72, ofArgs, J73, binV, intBin, J74, unV, J75, J76, mmV, builtinA, J77, J78, J79, J80, J81, J82, J83, J84, J85, J86, J87, J88, J89, Nat.reduceLT, Nat.reduceEqDiff, Nat.reduceAdd, Nat.reduceSub, Nat.reduceMul, reduceIte, J90, J91, J92, reduceCtorEq, J93, J94, J95, J96, J97, J98, J99, J100, t1, t4, t11, t12, hw]); repeat (first | with_reducible refine W_seq ?_ | with_reducible refine W_block ?_ | with_reducible refine W_scope ?_ | ((first | with_reducible refine W_regionV hTT ?_ | with_reducible refine W_condV ?_ | with_reducible refine W_ret ?_ | with_reducible refine W_exit ?_ | with_reducible refine W_skip ?_ | with_reducible refine W_label ?_ | with_reducible refine W_drawV hTT (by kernel_rfl) ?_); try simp only [und3, und4, und22, und26, und29, und45, und64, info3, info4, info22, info26, info29, info45, info64, info50, und50, aggT, J0, J1, J2, J3, J4, J5, J6, J7, J8, J9, J10, J11, J12, gv, dstAt, J13, J14, J15, J16, J17, J18, J19, J20, J21, J22, J23, J24, J25, J26, J27, J28, J29, J30, J31, J32, J33, J34, J35, J36, J37, J38, J39, J40, J41, J42, J43, J44, J45, J46, J47, J48, J49, J50, J51, J52, J53, J54, J55, J56, J57, J58, J59, aop, J60, J61, J62, evalsA, partsA, evalO, J63, J64, J65, J66, J67, J68, J69, J70, J71, updO, J72, ofArgs, J73, binV, intBin, J74, unV, J75, J76, mmV, builtinA, J77, J78, J79, J80, J81, J82, J83, J84, J85, J86, J87, J88, J89, Nat.reduceLT, Nat.reduceEqDiff, Nat.reduceAdd, Nat.reduceSub, Nat.reduceMul, reduceIte, J90, J91, J92, reduceCtorEq, J93, J94, J95, J96, J97, J98, J99, J100, t1, t4, t11, t12, hw]))
        refine LoopQ_intro (n - (k + 1)) (by omega) ⟨h4, rfl, k + 1, r, rfl, by omega, by simp only [und3, und4, und22, und26, und29, und45, und64, info3, info4, info22, info26, info29, info45, info64, info50, und50, aggT, J0, J1, J2, J3, J4, J5, J6, J7, J8, J9, J10, J11, J12, gv, dstAt, J13, J14, J15, J16, J17, J18, J19, J20, J21, J22, J23, J24, J25, J26, J27, J28, J29, J30, J31, J32, J33, J34, J35, J36, J37, J38, J39, J40, J41, J42, J43, J44, J45, J46, J47, J48, J49, J50, J51, J52, J53, J54, J55, J56, J57, J58, J59, aop, J60, J61, J62, evalsA, partsA, evalO, J63, J64, J65, J66, J67, J68, J69, J70, J71, updO, J72, ofArgs, J73, binV, intBin, J74, unV, J75, J76, mmV, builtinA, J77, J78, J79, J80, J81, J82, J83, J84, J85, J86, J87, J88, J89, Nat.reduceLT, Nat.reduceEqDiff, Nat.reduceAdd, Nat.reduceSub, Nat.reduceMul, reduceIte, J90, J91, J92, reduceCtorEq, J93, J94, J95, J96, J97, J98, J99, J100, t1], by simp only [und3, und4, und22, und26, und29, und45, und64, info3, info4, info22, info26, info29, info45, info64, info50, und50, aggT, J0, J1, J2, J3, J4, J5, J6, J7, J8, J9, J10, J11, J12, gv, dstAt, J13, J14, J15, J16, J17, J18, J19, J20, J21, J22, J23, J24, J25, J26, J27, J28, J29, J30, J31, J32, J33, J34, J35, J36, J37, J38, J39, J40, J41, J42, J43, J44, J45, J46, J47, J48, J49, J50, J51, J52, J53, J54, J55, J56, J57, J58, J59, aop, J60, J61, J62, evalsA, partsA, evalO, J63, J64, J65, J66, J67, J68, J69, J70, J71, updO, J72, ofArgs, J73, binV, intBin, J74, unV, J75, J76, mmV, builtinA, J77, J78, J79, J80, J81, J82, J83, J84, J85, J86, J87, J88, J89, Nat.reduceLT, Nat.reduceEqDiff, Nat.reduceAdd, Nat.reduceSub, Nat.reduceMul, reduceIte, J90, J91, J92, reduceCtorEq, J93, J94, J95, J96, J97, J98, J99, J100], by simp only [und3, und4, und22, und26, und29, und45, und64, info3, info4, info22, info26, info29, info45, info64, info50, und50, aggT, J0, J1, J2, J3, J4, J5, J6, J7, J8, J9, J10, J11, J12, gv, dstAt, J13, J14, J15, J16, J17, J18, J19, J20, J21, J22, J23, J24, J25, J26, J27, J28, J29, J30, J31, J32, J33, J34, J35, J36, J37, J38, J39, J40, J41, J42, J43, J44, J45, J46, J47, J48, J49, J50, J51, J52, J53, J54, J55, J56, J57, J58, J59, aop, J60, J61, J62, evalsA, partsA, evalO, J63, J64, J65, J66, J67, J68, J69, J70, J71, updO, J72, ofArgs, J73, binV, intBin, J74, unV, J75, J76, mmV, builtinA, J77, J78, J79, J80, J81, J82, J83, J84, J85, J86, J87, J88, J89, Nat.reduceLT, Nat.reduceEqDiff, Nat.reduceAdd, Nat.reduceSub, Nat.reduceMul, reduceIte, J90, J91, J92, reduceCtorEq, J93, J94, J95, J96, J97, J98, J99, J100, t11], by simp only [und3, und4, und22, und26, und29, und45, und64, info3, info4, info22, info26, info29, info45, info64, info50, und50, aggT, J0, J1, J2, J3, J4, J5, J6, J7, J8, J9, J10, J11, J12, gv, dstAt, J13, J14, J15, J16, J17, J18, J19, J20, J21, J22, J23, J24, J25, J26, J27, J28, J29, J30, J31, J32, J33, J34, J35, J36, J37, J38, J39, J40, J41, J42, J43, J44, J45, J46, J47, J48, J49, J50, J51, J52, J53, J54, J55, J56, J57, J58, J59, aop, J60, J61, J62, evalsA, partsA, evalO, J63, J64, J65, J66, J67, J68, J69, J70, J71, updO, J72, ofArgs, J73, binV, intBin, J74, unV, J75, J76, mmV, builtinA, J77, J78, J79, J80, J81, J82, J83, J84, J85, J86, J87, J88, J89, Nat.reduceLT, Nat.reduceEqDiff, Nat.reduceAdd, Nat.reduceSub, Nat.reduceMul, reduceIte, J90, J91, J92, reduceCtorEq, J93, J94, J95, J96, J97, J98, J99, J100, t12, hw], h3⟩
      | some i =>
        have hix : idx (fun u => M k u.toNat == 1) (wayL M k) = i := by unfold idx; rw [hf]
        have e2 : decide ((i : Int) < 0) = false := by simp
        rw [hf, Option.getD_some] at hins hnext
        rw [hix]
        (try simp only [und3, und4, und22, und26, und29, und45, und64, info3, info4, info22, info26, info29, info45, info64, info50, und50, aggT, J0, J1, J2, J3, J4, J5, J6, J7, J8, J9, J10, J11, J12, gv, dstAt, J13, J14, J15, J16, J17, J18, J19, J20, J21, J22, J23, J24, J25, J26, J27, J28, J29, J30, J31, J32, J33, J34, J35, J36, J37, J38, J39, J40, J41, J42, J43, J44, J45, J46, J47, J48, J49, J50, J51, J52, J53, J54, J55, J56, J57, J58, J59, aop, J60, J61, J62, evalsA, partsA, evalO, J63, J64, J65, J66, J67, J68, J69, J70, J71, updO, J72, ofArgs, J73, binV, intBin, J74, unV, J75, J76, mmV, builtinA, J77, J78, J79, J80, J81, J82, J83, J84, J85, J86, J87, J88, J89, Nat.reduceLT, Nat.reduceEqDiff, Nat.reduceAdd, Nat.reduceSub, Nat.reduceMul, reduceIte, J90, J91, J92, reduceCtorEq, J93, J94, J95, J96, J97, J98, J99, J100, t1, t4, t11, t12, e2, hlv, r3, b1]); repeat (first | with_reducible refine W_seq ?_ | with_reducible refine W_block ?_ | with_reducible refine W_scope ?_ | ((first | with_reducible refine W_regionV hTT ?_ | with_reducible refine W_condV ?_ | with_reducible refine W_ret ?_ | with_reducible refine W_exit ?_ | with_reducible refine W_skip ?_ | with_reducible refine W_label ?_ | with_reducible refine W_drawV hTT (by kernel_rfl) ?_); try simp only [und3, und4, und22, und26, und29, und45, und64, info3, info4, info22, info26, info29, info45, info64, info50, und50, aggT, J0, J1, J2, J3, J4, J5, J6, J7, J8, J9, J10, J11, J12, gv, dstAt, J13, J14, J15, J16, J17, J18, J19, J20, J21, J22, J23, J24, J25, J26, J27, J28, J29, J30, J31, J32, J33, J34, J35, J36, J37, J38, J39, J40, J41, J42, J43, J44, J45, J46, J47, J48, J49, J50, J51, J52, J53, J54, J55, J56, J57, J58, J59, aop, J60, J61, J62, evalsA, partsA, evalO, J63, J64, J65, J66, J67, J68, J69, J70, J71, updO, J72, ofArgs, J73, binV, intBin, J74, unV, J75, J76, mmV, builtinA, J77, J78, J79, J80, J81, J82, J83, J84, J85, J86, J87, J88, J89, Nat.reduceLT, Nat.reduceEqDiff, Nat.reduceAdd, Nat.reduceSub, Nat.reduceMul, reduceIte, J90, J91, J92, reduceCtorEq, J93, J94, J95, J96, J97, J98, J99, J100, t1, t4, t11, t12, e2, hlv, r3, b1]))
        refine VCall_intro hins ?_
        rintro r S4 ⟨h1, h2⟩
        obtain ⟨h3, h4⟩ := hnext r S4 h1 h2
        (try simp only [und3, und4, und22, und26, und29, und45, und64, info3, info4, info22, info26, info29, info45, info64, info50, und50, aggT, J0, J1, J2, J3, J4, J5, J6, J7, J8, J9, J10, J11, J12, gv, dstAt, J13, J14, J15, J16, J17, J18, J19, J20, J21, J22, J23, J24, J25, J26, J27, J28, J29, J30, J31, J32, J33, J34, J35, J36, J37, J38, J39, J40, J41, J42, J43, J44, J45, J46, J47, J48, J49, J50, J51, J52, J53, J54, J55, J56, J57, J58, J59, aop, J60, J61, J62, evalsA, partsA, evalO, J63, J64, J65, J66, J67, J68, J69, J70, J71, updO, J72, ofArgs, J73, binV, intBin, J74, unV, J75, J76, mmV, builtinA, J77, J78, J79, J80, J81, J82, J83, J84, J85, J86, J87, J88, J89, Nat.reduceLT, Nat.reduceEqDiff, Nat.reduceAdd, Nat.reduceSub, Nat.reduceMul, reduceIte, J90, J91, J92, reduceCtorEq, J93, J94, J95, J96, J97, J98, J99, J100, t1, t4, t11, t12, hw]); repeat (first | with_reducible refine W_seq ?_ | with_reducible refine W_block ?_ | with_reducible refine W_scope ?_ | ((first | with_reducible refine W_regionV hTT ?_ | with_reducible refine W_condV ?_ | with_reducible refine W_ret ?_ | with_reducible refine W_exit ?_ | with_reducible refine W_skip ?_ | with_reducible refine W_label ?_ | with_reducible refine W_drawV hTT (by kernel_rfl) ?_); try simp only [und3, und4, und22, und26, und29, und45, und64, info3, info4, info22, info26, info29, info45, info64, info50, und50, aggT, J0, J1, J2, J3, J4, J5, J6, J7, J8, J9, J10, J11, J12, gv, dstAt, J13, J14, J15, J16, J17, J18, J19, J20, J21, J22, J23, J24, J25, J26, J27, J28, J29, J30, J31, J32, J33, J34, J35, J36, J37, J38, J39, J40, J41, J42, J43, J44, J45, J46, J47, J48, J49, J50, J51, J52, J53, J54, J55, J56, J57, J58, J59, aop, J60, J61, J62, evalsA, partsA, evalO, J63, J64, J65, J66, J67, J68, J69, J70, J71, updO, J72, ofArgs, J73, binV, intBin, J74, unV, J75, J76, mmV, builtinA, J77, J78, J79, J80, J81, J82, J83, J84, J85, J86, J87, J88, J89, Nat.reduceLT, Nat.reduceEqDiff, Nat.reduceAdd, Nat.reduceSub, Nat.reduceMul, reduceIte, J90, J91, J92, reduceCtorEq, J93, J94, J95, J96, J97, J98, J99, J100, t1, t4, t11, t12, hw]))
        refine LoopQ_intro (n - (k + 1)) (by omega) ⟨h4, rfl, k + 1, r, rfl, by omega, by simp only [und3, und4, und22, und26, und29, und45, und64, info3, info4, info22, info26, info29, info45, info64, info50, und50, aggT, J0, J1, J2, J3, J4, J5, J6, J7, J8, J9, J10, J11, J12, gv, dstAt, J13, J14, J15, J16, J17, J18, J19, J20, J21, J22, J23, J24, J25, J26, J27, J28, J29, J30, J31, J32, J33, J34, J35, J36, J37, J38, J39, J40, J41, J42, J43, J44, J45, J46, J47, J48, J49, J50, J51, J52, J53, J54, J55, J56, J57, J58, J59, aop, J60, J61, J62, evalsA, partsA, evalO, J63, J64, J65, J66, J67, J68, J69, J70, J71, updO, J72, ofArgs, J73, binV, intBin, J74, unV, J75, J76, mmV, builtinA, J77, J78, J79, J80, J81, J82, J83, J84, J85, J86, J87, J88, J89, Nat.reduceLT, Nat.reduceEqDiff, Nat.reduceAdd, Nat.reduceSub, Nat.reduceMul, reduceIte, J90, J91, J92, reduceCtorEq, J93, J94, J95, J96, J97, J98, J99, J100, t1], by simp only [und3, und4, und22, und26, und29, und45, und64, info3, info4, info22, info26, info29, info45, info64, info50, und50, aggT, J0, J1, J2, J3, J4, J5, J6, J7, J8, J9, J10, J11, J12, gv, dstAt, J13, J14, J15, J16, J17, J18, J19, J20, J21, J22, J23, J24, J25, J26, J27, J28, J29, J30, J31, J32, J33, J34, J35, J36, J37, J38, J39, J40, J41, J42, J43, J44, J45, J46, J47, J48, J49, J50, J51, J52, J53, J54, J55, J56, J57, J58, J59, aop, J60, J61, J62, evalsA, partsA, evalO, J63, J64, J65, J66, J67, J68, J69, J70, J71, updO, J72, ofArgs, J73, binV, intBin, J74, unV, J75, J76, mmV, builtinA, J77, J78, J79, J80, J81, J82, J83, J84, J85, J86, J87, J88, J89, Nat.reduceLT, Nat.reduceEqDiff, Nat.reduceAdd, Nat.reduceSub, Nat.reduceMul, reduceIte, J90, J91, J92, reduceCtorEq, J93, J94, J95, J96, J97, J98, J99, J100], by simp only [und3, und4, und22, und26, und29, und45, und64, info3, info4, info22, info26, info29, info45, info64, info50, und50, aggT, J0, J1, J2, J3, J4, J5, J6, J7, J8, J9, J10, J11, J12, gv, dstAt, J13, J14, J15, J16, J17, J18, J19, J20, J21, J22, J23, J24, J25, J26, J27, J28, J29, J30, J31, J32, J33, J34, J35, J36, J37, J38, J39, J40, J41, J42, J43, J44, J45, J46, J47, J48, J49, J50, J51, J52, J53, J54, J55, J56, J57, J58, J59, aop, J60, J61, J62, evalsA, partsA, evalO, J63, J64, J65, J66, J67, J68, J69, J70, J71, updO, J72, ofArgs, J73, binV, intBin, J74, unV, J75, J76, mmV, builtinA, J77, J78, J79, J80, J81, J82, J83, J84, J85, J86, J87, J88, J89, Nat.reduceLT, Nat.reduceEqDiff, Nat.reduceAdd, Nat.reduceSub, Nat.reduceMul, reduceIte, J90, J91, J92, reduceCtorEq, J93, J94, J95, J96, J97, J98, J99, J100, t11], by simp only [und3, und4, und22, und26, und29, und45, und64, info3, info4, info22, info26, info29, info45, info64, info50, und50, aggT, J0, J1, J2, J3, J4, J5, J6, J7, J8, J9, J10, J11, J12, gv, dstAt, J13, J14, J15, J16, J17, J18, J19, J20, J21, J22, J23, J24, J25, J26, J27, J28, J29, J30, J31, J32, J33, J34, J35, J36, J37, J38, J39, J40, J41, J42, J43, J44, J45, J46, J47, J48, J49, J50, J51, J52, J53, J54, J55, J56, J57, J58, J59, aop, J60, J61, J62, evalsA, partsA, evalO, J63, J64, J65, J66, J67, J68, J69, J70, J71, updO, J72, ofArgs, J73, binV, intBin, J74, unV, J75, J76, mmV, builtinA, J77, J78, J79, J80, J81, J82, J83, J84, J85, J86, J87, J88, J89, Nat.reduceLT, Nat.reduceEqDiff, Nat.reduceAdd, Nat.reduceSub, Nat.reduceMul, reduceIte, J90, J91, J92, reduceCtorEq, J93, J94, J95, J96, J97, J98, J99, J100, t12, hw], h3⟩
    · have e1 : decide ((k : Int) < n) = false := by simpa using hlt
      have hkk : k = n := by omega
      subst hkk
      repeat (first | with_reducible refine W_seq ?_ | with_reducible refine W_block ?_ | with_reducible refine W_scope ?_ | ((first | with_reducible refine W_regionV hTT ?_ | with_reducible refine W_condV ?_ | with_reducible refine W_ret ?_ | with_reducible refine W_exit ?_ | with_reducible refine W_skip ?_ | with_reducible refine W_label ?_ | with_reducible refine W_drawV hTT (by kernel_rfl) ?_); try simp only [und3, und4, und22, und26, und29, und45, und64, info3, info4, info22, info26, info29, info45, info64, info50, und50, aggT, J0, J1, J2, J3, J4, J5, J6, J7, J8, J9, J10, J11, J12, gv, dstAt, J13, J14, J15, J16, J17, J18, J19, J20, J21, J22, J23, J24, J25, J26, J27, J28, J29, J30, J31, J32, J33, J34, J35, J36, J37, J38, J39, J40, J41, J42, J43, J44, J45, J46, J47, J48, J49, J50, J51, J52, J53, J54, J55, J56, J57, J58, J59, aop, J60, J61, J62, evalsA, partsA, evalO, J63, J64, J65, J66, J67, J68, J69, J70, J71, updO, J72, ofArgs, J73, binV, intBin, J74, unV, J75, J76, mmV, builtinA, J77, J78, J79, J80, J81, J82, J83, J84, J85, J86, J87, J88, J89, Nat.reduceLT, Nat.reduceEqDiff, Nat.reduceAdd, Nat.reduceSub, Nat.reduceMul, reduceIte, J90, J91, J92, reduceCtorEq, J93, J94, J95, J96, J97, J98, J99, J100, t1, t4, t11, t12, e1]))
      exact ⟨v4, rfl, hM.mono (Nat.le_succ _), hE0.trans hE⟩
end Go.Proofs.Sz
end
/- part SzJoin -/
section
namespace Go.Proofs.Sz
open Go Go.Ax Go.Proofs
def ren : Shelf.Ren where
  f := fun x => match x with
    | 156 => 77
    | 165 => 86
    | 166 => 87
    | 169 => 88
    | 240 => 110
    | 241 => 111
    | 276 => 122
    | 277 => 123
    | n => n
  t := fun x => match x with
    | 31 => 84
    | 9 => 9
    | 3 => 3
    | 4 => 4
    | 0 => 0
    | 20 => 20
    | 72 => 96
    | 76 => 99
    | 70 => 93
    | 37 => 94
    | 75 => 98
    | 127 => 121
    | 164 => 131
    | 5 => 5
    | 80 => 101
    | n => n
  g := fun x => x
theorem lays : Lays.n156 Tryz.prog ren where
  mixed := by kernel_rfl
  f156 := by kernel_rfl
  f165 := by kernel_rfl
  f166 := by kernel_rfl
  f169 := by kernel_rfl
  f240 := by kernel_rfl
  f241 := by kernel_rfl
  f276 := by kernel_rfl
  f277 := by kernel_rfl
  t0 := Tryz.underlying0
  a0 := Tryz.isAgg0
  z0 := Tryz.sizeOf0
  v0 := Tryz.zeroValue0
  t3 := Tryz.underlying3
  a3 := Tryz.isAgg3
  z3 := Tryz.sizeOf3
  v3 := Tryz.zeroValue3
  t4 := Tryz.underlying4
  a4 := Tryz.isAgg4
  z4 := Tryz.sizeOf4
  v4 := Tryz.zeroValue4
  t9 := Tryz.underlying9
  a9 := Tryz.isAgg9
  z9 := Tryz.sizeOf9
  v9 := Tryz.zeroValue9
  t20 := Tryz.underlying20
  a20 := Tryz.isAgg20
  z20 := Tryz.sizeOf20
  v20 := Tryz.zeroValue20
  t31 := Tryz.underlying84
  a31 := Tryz.isAgg84
  z31 := Tryz.sizeOf84
  v31 := Tryz.zeroValue84
  t37 := Tryz.underlying94
  a37 := Tryz.isAgg94
  z37 := Tryz.sizeOf94
  v37 := Tryz.zeroValue94
  t70 := Tryz.underlying93
  a70 := Tryz.isAgg93
  z70 := Tryz.sizeOf93
  v70 := Tryz.zeroValue93
  t72 := Tryz.underlying96
  a72 := Tryz.isAgg96
  z72 := Tryz.sizeOf96
  v72 := Tryz.zeroValue96
  t75 := Tryz.underlying98
  a75 := Tryz.isAgg98
  z75 := Tryz.sizeOf98
  v75 := Tryz.zeroValue98
  t76 := Tryz.underlying99
  a76 := Tryz.isAgg99
  z76 := Tryz.sizeOf99
  v76 := Tryz.zeroValue99
  t127 := Tryz.underlying121
  a127 := Tryz.isAgg121
  z127 := Tryz.sizeOf121
  v127 := Tryz.zeroValue121
  t164 := Tryz.underlying131
  a164 := Tryz.isAgg131
  z164 := Tryz.sizeOf131
  v164 := Tryz.zeroValue131
theorem extra : Builder.Extra Tryz.prog ren where
  sizeBuilder := by kernel_rfl
  liesBuilder := by kernel_rfl
  t5 := Tryz.underlying5
  a5 := Tryz.isAgg5
  z5 := Tryz.sizeOf5
  v5 := Tryz.zeroValue5
  infoByte := by kernel_rfl
  cellsByte := by kernel_rfl
  sizeByte := by kernel_rfl
  neB5 := by decide
end Go.Proofs.Sz
end
/- part SzAwake -/
section
namespace Go.Proofs.Sz
open Go Go.Ax Go.Proofs Go.RowKit
theorem namesA : namesOk Tryz.prog = true := by kernel_rfl
theorem mixedA : Tryz.prog.follows .mixedOrders = true := by kernel_rfl
theorem known : KnownOK Tryz.prog (joinX 77) := joinX_ok lays extra ⟨_, _, lays.f156, by kernel_rfl, rfl⟩
theorem awake_run : outsAre [.bool true] ((iter Tryz.prog (tabOf Tryz.prog) (joinX 77) 60).call 16 [] start0) = true := by kernel_rfl
/-- **awake comes to true, whatever the world.** -/
theorem awake_calls (w : World) : Calls Tryz.prog 16 #[] w fun e w' => e = .returned (.bool true) ∧ Below w.heap.size w w' :=
  calls_closed namesA mixedA known 60 16 [] rfl (.bool true) awake_run w
end Go.Proofs.Sz
end
/- part Zl -/
section
namespace Go.Proofs.Sz
open Go Go.Ax Go.Proofs Go.RowKit
theorem awake_call (S : St) : CallW PP 16 [] S (fun v _ => v = .bool true) := by
  refine ⟨.bool true, { S with mono := false }, ⟨⟨Tryz.f16, _, Tryz.func16, by kernel_rfl, rfl⟩, ?_⟩, rfl⟩
  intro w0 E w args' n R hS hv hR
  cases hv
  refine callsIn_wide.2 ?_
  refine (awake_calls w).mono ?_
  rintro e w' ⟨rfl, hb⟩
  have hS0 : SR w0 E { S with mono := false } w := ⟨hS.len, hS.obj, hS.hole, hS.dom, hS.inj, hS.rng, hS.below, hS.new, fun h => by cases h⟩
  exact hR (.bool true, some { S with mono := false }) (by simp) E _ w' (.refl E) (hS0.after hb (fun h => by cases h)) (.sc rfl) ⟨Nat.le_refl _, Nat.le_refl _, fun _ _ _ => rfl⟩ hb.size
/-- a row of numbers of a call's own, that may be written -/
def Wrow (S : St) (lo : Nat) (v : Value) : Prop := v = .slice none 0 0 ∨ ∃ b n c xs g, v = .slice (some ⟨b, 0, none⟩) n c ∧ lo ≤ b ∧ S.get b = some (.cells (iv xs) 3 g) ∧ xs.length = n ∧ n < 1000
theorem Wrow.len {S : St} {lo : Nat} {v : Value} (h : Wrow S lo v) : ∃ n : Nat, n < 1000 ∧ lenOpA TT S 26 v = some (.int .i64 n) := by
  rcases h with rfl | ⟨b, n, c, xs, g, rfl, _, _, _, h⟩
  · exact ⟨0, by omega, by simp [lenOpA, und26]⟩
  · exact ⟨n, h, by simp [lenOpA, und26]⟩
theorem Wrow.ofMine {S : St} {lo lo' : Nat} {v : Value} {xs : List Int} {n : Nat} (h : Mine S 3 1 lo' v (iv xs) n) (hl : lo ≤ lo') (hn : n < 1000) : Wrow S lo v := by
  rcases h with ⟨rfl, _⟩ | ⟨b, rfl, h1, h2, h3⟩
  · exact .inl rfl
  · exact .inr ⟨b, n, _, xs, _, rfl, by omega, h2, by rw [iv_len] at h3; omega, hn⟩
theorem Wrow.extd {S S' : St} {lo : Nat} {v : Value} (h : Wrow S lo v) (hE : Ext S S') : Wrow S' lo v := by
  rcases h with rfl | ⟨b, n, c, xs, g, rfl, h1, h2, h3⟩
  · exact .inl rfl
  · exact .inr ⟨b, n, c, xs, g, rfl, h1, hE.get h2, h3⟩
/-- a number is written to a row of one's own: what else is such a row stays one -/
theorem Wrow.store {S : St} (hok : S.ok) {lo b n c : Nat} (h : Wrow S lo (.slice (some ⟨b, 0, none⟩) n c)) {j : Nat} (hj : j < n) (x : Int) :
    ∃ S', storeA TT S 3 (.int .i64 x) (.pointer (some ⟨b, j, none⟩)) = some S' ∧ S'.ok ∧ S'.n = S.n ∧ S'.mono = S.mono ∧ lo ≤ b ∧ (∀ k, k ≠ b → S'.get k = S.get k) ∧ ∀ v, Wrow S lo v → Wrow S' lo v := by
  rcases h with h | ⟨b', n', c', xs, g, h, h1, h2, h3, h4⟩
  · cases h
  · cases h
    have hl := lt_of_get h2
    have s1 := store_one (T := TT) (v := .int .i64 x) (o := j) info3 h2 rfl rfl (by rw [iv_len]; omega)
    have hset : (iv xs).set j (.int .i64 x) = iv (xs.set j x) := by simp [iv, List.map_set]
    rw [hset] at s1
    refine ⟨_, s1, by rw [ok_set_iff]; exact hok, rfl, rfl, h1, fun k hk => get_set_ne _ hl hk, ?_⟩
    intro v hv
    rcases hv with rfl | ⟨b2, n2, c2, ys, g2, rfl, q1, q2, q3, q4⟩
    · exact .inl rfl
    · by_cases e : b2 = b
      · subst e
        rw [h2] at q2
        simp only [Option.some.injEq, AObj.cells.injEq] at q2
        have hll := congrArg List.length q2.1
        rw [iv_len, iv_len] at hll
        exact .inr ⟨b2, n2, c2, xs.set j x, g, rfl, q1, get_set_same _ hok hl rfl, by rw [List.length_set]; omega, q4⟩
      · exact .inr ⟨b2, n2, c2, ys, g2, rfl, q1, by rw [get_set_ne _ hl e]; exact q2, q3, q4⟩
theorem Wrow.shape {S : St} {lo : Nat} {v : Value} (h : Wrow S lo v) (x : Int) : ∃ nn : Nat, nn < 1000 ∧ (∀ S, lenOpA TT S 26 v = some (.int .i64 nn)) ∧ ∀ S', S'.ok → Wrow S' lo v → ∀ j, j < nn →
    ∃ p S'', indexAddrA TT 26 (.int .i64 j) v = some p ∧ storeA TT S' 3 (.int .i64 x) p = some S'' ∧ S''.ok ∧ S''.n = S'.n ∧ S''.mono = S'.mono ∧ (∀ k, k < lo → S''.get k = S'.get k) ∧ (∀ k cs g, S'.get k = some (.cells cs 26 g) → S''.get k = some (.cells cs 26 g)) ∧ ∀ u, Wrow S' lo u → Wrow S'' lo u := by
  rcases h with rfl | ⟨b, n, c, xs, g, rfl, _, _, _, hn⟩
  · exact ⟨0, by omega, fun S => by simp [lenOpA, und26], fun S' _ _ j hj => by omega⟩
  · refine ⟨n, hn, fun S => by simp [lenOpA, und26], fun S' hok h j hj => ?_⟩
    obtain ⟨S'', s1, s2, s3, s4, s5, s6, s7⟩ := h.store hok hj x
    refine ⟨_, S'', arr_index und26 info3 rfl hj, s1, s2, s3, s4, fun k hk => s6 k (by omega), fun k cs g hk => ?_, s7⟩
    rw [s6 k ?_, hk]
    rintro rfl
    rcases h with h | ⟨b', n', c', ys, g', h, _, h2, _⟩
    · cases h
    · cases h
      rw [hk] at h2
      simp at h2
theorem Tabl.extd {S S' : St} {lo n : Nat} {v : Value} (h : Tabl S lo n v) (hE : Ext S S') : Tabl S' lo n v := by
  rcases h with h | ⟨ba, bs, M, rfl, h1, h2, h3⟩
  · exact .inl h
  · exact .inr ⟨ba, bs, M, rfl, hE.get h1, h2, h3.keep fun i hi => hE.same _ (lt_of_get (h3.get i hi))⟩
theorem Tabl.mono {S : St} {lo lo' n : Nat} {v : Value} (h : Tabl S lo n v) (hl : lo' ≤ lo) : Tabl S lo' n v := by
  rcases h with h | ⟨ba, bs, M, rfl, h1, h2, h3⟩
  · exact .inl h
  · exact .inr ⟨ba, bs, M, rfl, h1, h2, ⟨fun i hi => Nat.le_trans hl (h3.lo i hi), h3.get, h3.nodup⟩⟩
theorem fill_two {x y z : Value} (hz : z.cells = #[z]) (hx : x.cells = #[x]) (hy : y.cells = #[y]) : Instr.fill (fun j => some (j * 1, 1)) (zeroRow z (2 * 1)) [(0, x), (1, y)] = some #[x, y] := by
  have h1 : zeroRow z (2 * 1) = #[z, z] := by
    apply Array.ext'
    rw [zeroRow_one hz]
    rfl
  rw [h1]
  simp [Instr.fill, hx, hy]
theorem bs_two {S : St} {ty e : TypeId} {z x y : Value} {by' : Nat} (hu : TT.und ty = some (.slice e)) (he : TT.info e = some ⟨z, 1, by'⟩) (hz : z.cells = #[z]) (hp : plain1 z = true) (hx : x.cells = #[x]) (hy : y.cells = #[y]) :
    buildSliceA TT S ty 2 [(0, x), (1, y)] = some (.slice (some ⟨S.n, 0, none⟩) 2 2, S.push (.cells [x, y] e 0)) := by
  simp only [buildSliceA, hu, he, fill_two hz hx hy]
  rw [if_pos ⟨by rw [zeroRow_one hz]; simp [plains1, hp], by omega⟩, if_pos (by unfold BIG; omega)]
/-- the two rows and the table's -/
theorem all_rows {S : St} (hok : S.ok) {n lo : Nat} {x y a : Value} (hx : x.oneCell' = true ∧ x.cells = #[x]) (hy : y.oneCell' = true ∧ y.cells = #[y]) (hn : n ≤ 12) (hn0 : 0 < n) (ha : Tabl S lo n a) (hwx : Wrow S lo x) (hwy : Wrow S lo y) :
    ∃ ba m c g rvs S', appendOpA TT (S.push (.cells [x, y] 26 0)) 22 22 (.slice (some ⟨S.n, 0, none⟩) 2 2) a = some (.slice (some ⟨ba, 0, none⟩) m c, S') ∧ S'.get ba = some (.cells rvs 26 g) ∧ rvs.length = m ∧ m < 1000 ∧ Ext S S' ∧ ∀ rv ∈ rvs, Wrow S' lo rv := by
  have hE1 : Ext S (S.push (.cells [x, y] 26 0)) := (Ext.refl hok).push _
  have hg : (S.push (.cells [x, y] 26 0)).get S.n = some (.cells [x, y] 26 0) := get_push_new _ rfl
  rcases ha with rfl | ⟨bt, bs, M, rfl, h1, h2, h3⟩
  · refine ⟨S.n, 2, 2, 0, [x, y], (S.push (.cells [x, y] 26 0)).set S.n (.cells [x, y] 26 0), ?_, get_set_same _ hE1.ok (by rw [push_n]; omega) rfl, rfl, by omega, hE1.set _ (Nat.le_refl _) (by rw [push_n]; omega), ?_⟩
    · unfold appendOpA
      simp only [und22, und26, info26, intT, lenA, Bool.false_eq_true, if_false]
      unfold srcA appendA
      simp [hg, splice, ones, BIG, Value.cells]
    · have hE2 : Ext S ((S.push (.cells [x, y] 26 0)).set S.n (.cells [x, y] 26 0)) := hE1.set _ (Nat.le_refl _) (by rw [push_n]; omega)
      intro rv hrv
      simp only [List.mem_cons, List.not_mem_nil, or_false] at hrv
      rcases hrv with rfl | rfl
      · exact hwx.extd hE2
      · exact hwy.extd hE2
  · have hsl : Sl (S.push (.cells [x, y] 26 0)) 1 (.slice (some ⟨bt, 0, none⟩) n n) (bs.map (rowv n)) n := by
      refine Sl.of_cells (hE1.get h1) (by rw [List.length_map, h2, Nat.mul_one]) (by unfold BIG; omega) (Nat.le_refl _)
    have hgo : growOk ⟨.slice none 0 0, 1, 24⟩ (2 + n) = true := grow_ok (by simp only; omega) (by omega)
    have hones : ones (bs.map (rowv n)) = true := by
      unfold ones
      rw [List.all_eq_true]
      intro v hv
      rw [List.mem_map] at hv
      obtain ⟨b, _, rfl⟩ := hv
      rfl
    refine ⟨S.n + 1, 2 + n, BIG, 1, [x, y] ++ bs.map (rowv n), (S.push (.cells [x, y] 26 0)).push (.cells ([x, y] ++ bs.map (rowv n)) 26 1), ?_, get_push_new _ rfl, by simp [h2]; omega, by omega, hE1.push _, ?_⟩
    · unfold appendOpA
      simp only [und22, und26, info26, intT, hsl.lenA, hsl.src, Bool.false_eq_true, if_false]
      rw [if_pos ⟨by decide, by decide⟩, if_pos ⟨hones, by rw [List.length_map, h2, Nat.mul_one]⟩]
      unfold appendA
      simp only [hg]
      rw [if_pos (by simp), if_pos (by unfold BIG; omega), if_neg (by omega), if_pos hgo]
      simp [push_n]
    · have hE2 : Ext S ((S.push (.cells [x, y] 26 0)).push (.cells ([x, y] ++ bs.map (rowv n)) 26 1)) := hE1.push _
      intro rv hrv
      rw [List.mem_append] at hrv
      rcases hrv with hrv | hrv
      · simp only [List.mem_cons, List.not_mem_nil, or_false] at hrv
        rcases hrv with rfl | rfl
        · exact hwx.extd hE2
        · exact hwy.extd hE2
      · rw [List.mem_map] at hrv
        obtain ⟨b, hb, rfl⟩ := hrv
        obtain ⟨i, hi, rfl⟩ := List.getElem_of_mem hb
        exact .inr ⟨bs[i], n, n, mrow n (M i), 0, rfl, h3.lo i hi, hE2.get (h3.get i hi), mrow_len _ _, by omega⟩
end Go.Proofs.Sz
end
/- part Zj -/
section
namespace Go.Proofs.Sz
open Go Go.Ax Go.Proofs Go.RowKit
theorem fn3 : TT.fn 3 = some Tryz.f3 := by kernel_rfl
theorem sums_len (n : Nat) (M : Nat → Nat → Int) : ((mrows n n M).map List.sum).length = n := by simp [mrows_len]
theorem mrow_sum_bnd {n : Nat} {M : Nat → Nat → Int} (hC : IsC n M) (hn : n ≤ 30) {i : Nat} (hi : i < n) : 0 ≤ (mrow n (M i)).sum ∧ (mrow n (M i)).sum ≤ 30 := by
  have hb : ∀ (l : List Int), (∀ x ∈ l, x = 0 ∨ x = 1) → 0 ≤ l.sum ∧ l.sum ≤ l.length := by
    intro l
    induction l with
    | nil => intro _; simp
    | cons x l ih =>
      intro h
      have h1 := ih fun y hy => h y (by simp [hy])
      have h2 := h x (by simp)
      simp only [List.sum_cons, List.length_cons]
      omega
  have := hb _ (hC.row hi)
  rw [mrow_len] at this
  omega
set_option maxHeartbeats 8000000 in
/-- ScoresOwn returns true -/
theorem law_call {S : St} (hok : S.ok) {vl : Value} {ls : List (List Int)} (hx : Mat S vl ls) (n0 : Int) :
    CallW PP 3 [vl, .int .i64 n0] S (fun v _ => v = .bool true) := by
  refine CallW_of hTT fn3 rfl (by simp [Tryz.f3]) ?_
  unfold Tryz.f3
  repeat (first | with_reducible refine W_seq ?_ | with_reducible refine W_block ?_ | with_reducible refine W_scope ?_ | ((first | with_reducible refine W_regionV hTT ?_ | with_reducible refine W_condV ?_ | with_reducible refine W_ret ?_ | with_reducible refine W_exit ?_ | with_reducible refine W_skip ?_ | with_reducible refine W_label ?_ | with_reducible refine W_drawV hTT (by kernel_rfl) ?_); try simp only [und3, und4, und22, und26, und29, und45, und64, info3, info4, info22, info26, info29, info45, info64, info50, und50, aggT, J0, J1, J2, J3, J4, J5, J6, J7, J8, J9, J10, J11, J12, gv, dstAt, J13, J14, J15, J16, J17, J18, J19, J20, J21, J22, J23, J24, J25, J26, J27, J28, J29, J30, J31, J32, J33, J34, J35, J36, J37, J38, J39, J40, J41, J42, J43, J44, J45, J46, J47, J48, J49, J50, J51, J52, J53, J54, J55, J56, J57, J58, J59, aop, J60, J61, J62, evalsA, partsA, evalO, J63, J64, J65, J66, J67, J68, J69, J70, J71, updO, J72, ofArgs, J73, binV, intBin, J74, unV, J75, J76, mmV, builtinA, J77, J78, J79, J80, J81, J82, J83, J84, J85, J86, J87, J88, J89, Nat.reduceLT, Nat.reduceEqDiff, Nat.reduceAdd, Nat.reduceSub, Nat.reduceMul, reduceIte, J90, J91, J92, reduceCtorEq, J93, J94, J95, J96, J97, J98, J99, J100]))
  refine VCall_intro (mod_call S n0 (n := 11) (by omega) (by omega)) ?_
  rintro v S0 ⟨⟨r, hr, rfl⟩, rfl⟩
  obtain ⟨N, hN⟩ : ∃ N : Nat, N = r + 2 := ⟨_, rfl⟩
  have hw : IntKind.i64.wrap (2 + (r : Int)) = N := by rw [wrap_id (by omega) (by omega)]; omega
  (try simp only [und3, und4, und22, und26, und29, und45, und64, info3, info4, info22, info26, info29, info45, info64, info50, und50, aggT, J0, J1, J2, J3, J4, J5, J6, J7, J8, J9, J10, J11, J12, gv, dstAt, J13, J14, J15, J16, J17, J18, J19, J20, J21, J22, J23, J24, J25, J26, J27, J28, J29, J30, J31, J32, J33, J34, J35, J36, J37, J38, J39, J40, J41, J42, J43, J44, J45, J46, J47, J48, J49, J50, J51, J52, J53, J54, J55, J56, J57, J58, J59, aop, J60, J61, J62, evalsA, partsA, evalO, J63, J64, J65, J66, J67, J68, J69, J70, J71, updO, J72, ofArgs, J73, binV, intBin, J74, unV, J75, J76, mmV, builtinA, J77, J78, J79, J80, J81, J82, J83, J84, J85, J86, J87, J88, J89, Nat.reduceLT, Nat.reduceEqDiff, Nat.reduceAdd, Nat.reduceSub, Nat.reduceMul, reduceIte, J90, J91, J92, reduceCtorEq, J93, J94, J95, J96, J97, J98, J99, J100, hw]); repeat (first | with_reducible refine W_seq ?_ | with_reducible refine W_block ?_ | with_reducible refine W_scope ?_ | ((first | with_reducible refine W_regionV hTT ?_ | with_reducible refine W_condV ?_ | with_reducible refine W_ret ?_ | with_reducible refine W_exit ?_ | with_reducible refine W_skip ?_ | with_reducible refine W_label ?_ | with_reducible refine W_drawV hTT (by kernel_rfl) ?_); try simp only [und3, und4, und22, und26, und29, und45, und64, info3, info4, info22, info26, info29, info45, info64, info50, und50, aggT, J0, J1, J2, J3, J4, J5, J6, J7, J8, J9, J10, J11, J12, gv, dstAt, J13, J14, J15, J16, J17, J18, J19, J20, J21, J22, J23, J24, J25, J26, J27, J28, J29, J30, J31, J32, J33, J34, J35, J36, J37, J38, J39, J40, J41, J42, J43, J44, J45, J46, J47, J48, J49, J50, J51, J52, J53, J54, J55, J56, J57, J58, J59, aop, J60, J61, J62, evalsA, partsA, evalO, J63, J64, J65, J66, J67, J68, J69, J70, J71, updO, J72, ofArgs, J73, binV, intBin, J74, unV, J75, J76, mmV, builtinA, J77, J78, J79, J80, J81, J82, J83, J84, J85, J86, J87, J88, J89, Nat.reduceLT, Nat.reduceEqDiff, Nat.reduceAdd, Nat.reduceSub, Nat.reduceMul, reduceIte, J90, J91, J92, reduceCtorEq, J93, J94, J95, J96, J97, J98, J99, J100, hw]))
  refine VCall_intro (contest_call hok hx (n := N) (by omega)) ?_
  rintro vc S1 ⟨⟨M, hC, hM1⟩, hpc, hE1⟩
  have hmr : ∀ r ∈ mrows N N M, r.length < 31 ∧ ∀ x ∈ r, 0 ≤ x ∧ x < 1000 := by
    intro r hr
    obtain ⟨i, hi, rfl⟩ := List.getElem_of_mem hr
    rw [mrows_get, mrow_len]
    rw [mrows_len] at hi
    refine ⟨by omega, fun x hx => ?_⟩
    have := hC.row hi x hx
    omega
  (try simp only [und3, und4, und22, und26, und29, und45, und64, info3, info4, info22, info26, info29, info45, info64, info50, und50, aggT, J0, J1, J2, J3, J4, J5, J6, J7, J8, J9, J10, J11, J12, gv, dstAt, J13, J14, J15, J16, J17, J18, J19, J20, J21, J22, J23, J24, J25, J26, J27, J28, J29, J30, J31, J32, J33, J34, J35, J36, J37, J38, J39, J40, J41, J42, J43, J44, J45, J46, J47, J48, J49, J50, J51, J52, J53, J54, J55, J56, J57, J58, J59, aop, J60, J61, J62, evalsA, partsA, evalO, J63, J64, J65, J66, J67, J68, J69, J70, J71, updO, J72, ofArgs, J73, binV, intBin, J74, unV, J75, J76, mmV, builtinA, J77, J78, J79, J80, J81, J82, J83, J84, J85, J86, J87, J88, J89, Nat.reduceLT, Nat.reduceEqDiff, Nat.reduceAdd, Nat.reduceSub, Nat.reduceMul, reduceIte, J90, J91, J92, reduceCtorEq, J93, J94, J95, J96, J97, J98, J99, J100]); repeat (first | with_reducible refine W_seq ?_ | with_reducible refine W_block ?_ | with_reducible refine W_scope ?_ | ((first | with_reducible refine W_regionV hTT ?_ | with_reducible refine W_condV ?_ | with_reducible refine W_ret ?_ | with_reducible refine W_exit ?_ | with_reducible refine W_skip ?_ | with_reducible refine W_label ?_ | with_reducible refine W_drawV hTT (by kernel_rfl) ?_); try simp only [und3, und4, und22, und26, und29, und45, und64, info3, info4, info22, info26, info29, info45, info64, info50, und50, aggT, J0, J1, J2, J3, J4, J5, J6, J7, J8, J9, J10, J11, J12, gv, dstAt, J13, J14, J15, J16, J17, J18, J19, J20, J21, J22, J23, J24, J25, J26, J27, J28, J29, J30, J31, J32, J33, J34, J35, J36, J37, J38, J39, J40, J41, J42, J43, J44, J45, J46, J47, J48, J49, J50, J51, J52, J53, J54, J55, J56, J57, J58, J59, aop, J60, J61, J62, evalsA, partsA, evalO, J63, J64, J65, J66, J67, J68, J69, J70, J71, updO, J72, ofArgs, J73, binV, intBin, J74, unV, J75, J76, mmV, builtinA, J77, J78, J79, J80, J81, J82, J83, J84, J85, J86, J87, J88, J89, Nat.reduceLT, Nat.reduceEqDiff, Nat.reduceAdd, Nat.reduceSub, Nat.reduceMul, reduceIte, J90, J91, J92, reduceCtorEq, J93, J94, J95, J96, J97, J98, J99, J100]))
  refine VCall_intro (table_call hE1.ok hM1 (by rw [mrows_len]; omega) fun r hr => (hmr r hr).1) ?_
  rintro vt S2 ⟨⟨cst, hMt⟩, hT2, hE2⟩
  have hM2 := hM1.extd hE2
  (try simp only [und3, und4, und22, und26, und29, und45, und64, info3, info4, info22, info26, info29, info45, info64, info50, und50, aggT, J0, J1, J2, J3, J4, J5, J6, J7, J8, J9, J10, J11, J12, gv, dstAt, J13, J14, J15, J16, J17, J18, J19, J20, J21, J22, J23, J24, J25, J26, J27, J28, J29, J30, J31, J32, J33, J34, J35, J36, J37, J38, J39, J40, J41, J42, J43, J44, J45, J46, J47, J48, J49, J50, J51, J52, J53, J54, J55, J56, J57, J58, J59, aop, J60, J61, J62, evalsA, partsA, evalO, J63, J64, J65, J66, J67, J68, J69, J70, J71, updO, J72, ofArgs, J73, binV, intBin, J74, unV, J75, J76, mmV, builtinA, J77, J78, J79, J80, J81, J82, J83, J84, J85, J86, J87, J88, J89, Nat.reduceLT, Nat.reduceEqDiff, Nat.reduceAdd, Nat.reduceSub, Nat.reduceMul, reduceIte, J90, J91, J92, reduceCtorEq, J93, J94, J95, J96, J97, J98, J99, J100]); repeat (first | with_reducible refine W_seq ?_ | with_reducible refine W_block ?_ | with_reducible refine W_scope ?_ | ((first | with_reducible refine W_regionV hTT ?_ | with_reducible refine W_condV ?_ | with_reducible refine W_ret ?_ | with_reducible refine W_exit ?_ | with_reducible refine W_skip ?_ | with_reducible refine W_label ?_ | with_reducible refine W_drawV hTT (by kernel_rfl) ?_); try simp only [und3, und4, und22, und26, und29, und45, und64, info3, info4, info22, info26, info29, info45, info64, info50, und50, aggT, J0, J1, J2, J3, J4, J5, J6, J7, J8, J9, J10, J11, J12, gv, dstAt, J13, J14, J15, J16, J17, J18, J19, J20, J21, J22, J23, J24, J25, J26, J27, J28, J29, J30, J31, J32, J33, J34, J35, J36, J37, J38, J39, J40, J41, J42, J43, J44, J45, J46, J47, J48, J49, J50, J51, J52, J53, J54, J55, J56, J57, J58, J59, aop, J60, J61, J62, evalsA, partsA, evalO, J63, J64, J65, J66, J67, J68, J69, J70, J71, updO, J72, ofArgs, J73, binV, intBin, J74, unV, J75, J76, mmV, builtinA, J77, J78, J79, J80, J81, J82, J83, J84, J85, J86, J87, J88, J89, Nat.reduceLT, Nat.reduceEqDiff, Nat.reduceAdd, Nat.reduceSub, Nat.reduceMul, reduceIte, J90, J91, J92, reduceCtorEq, J93, J94, J95, J96, J97, J98, J99, J100]))
  refine VCall_intro (scores_call hE2.ok hM2 (by rw [mrows_len]; omega) hmr) ?_
  rintro vs S3 ⟨hs3, hE3⟩
  rw [mrows_len] at hs3
  have hsl := sums_len N M
  have hM3 := hM2.extd hE3
  have hT3 := hT2.extd hE3
  have hs3' : Mine S3 3 1 S2.n vs (iv ((mrows N N M).map List.sum)) ((mrows N N M).map List.sum).length := by rw [hsl]; exact hs3
  (try simp only [und3, und4, und22, und26, und29, und45, und64, info3, info4, info22, info26, info29, info45, info64, info50, und50, aggT, J0, J1, J2, J3, J4, J5, J6, J7, J8, J9, J10, J11, J12, gv, dstAt, J13, J14, J15, J16, J17, J18, J19, J20, J21, J22, J23, J24, J25, J26, J27, J28, J29, J30, J31, J32, J33, J34, J35, J36, J37, J38, J39, J40, J41, J42, J43, J44, J45, J46, J47, J48, J49, J50, J51, J52, J53, J54, J55, J56, J57, J58, J59, aop, J60, J61, J62, evalsA, partsA, evalO, J63, J64, J65, J66, J67, J68, J69, J70, J71, updO, J72, ofArgs, J73, binV, intBin, J74, unV, J75, J76, mmV, builtinA, J77, J78, J79, J80, J81, J82, J83, J84, J85, J86, J87, J88, J89, Nat.reduceLT, Nat.reduceEqDiff, Nat.reduceAdd, Nat.reduceSub, Nat.reduceMul, reduceIte, J90, J91, J92, reduceCtorEq, J93, J94, J95, J96, J97, J98, J99, J100]); repeat (first | with_reducible refine W_seq ?_ | with_reducible refine W_block ?_ | with_reducible refine W_scope ?_ | ((first | with_reducible refine W_regionV hTT ?_ | with_reducible refine W_condV ?_ | with_reducible refine W_ret ?_ | with_reducible refine W_exit ?_ | with_reducible refine W_skip ?_ | with_reducible refine W_label ?_ | with_reducible refine W_drawV hTT (by kernel_rfl) ?_); try simp only [und3, und4, und22, und26, und29, und45, und64, info3, info4, info22, info26, info29, info45, info64, info50, und50, aggT, J0, J1, J2, J3, J4, J5, J6, J7, J8, J9, J10, J11, J12, gv, dstAt, J13, J14, J15, J16, J17, J18, J19, J20, J21, J22, J23, J24, J25, J26, J27, J28, J29, J30, J31, J32, J33, J34, J35, J36, J37, J38, J39, J40, J41, J42, J43, J44, J45, J46, J47, J48, J49, J50, J51, J52, J53, J54, J55, J56, J57, J58, J59, aop, J60, J61, J62, evalsA, partsA, evalO, J63, J64, J65, J66, J67, J68, J69, J70, J71, updO, J72, ofArgs, J73, binV, intBin, J74, unV, J75, J76, mmV, builtinA, J77, J78, J79, J80, J81, J82, J83, J84, J85, J86, J87, J88, J89, Nat.reduceLT, Nat.reduceEqDiff, Nat.reduceAdd, Nat.reduceSub, Nat.reduceMul, reduceIte, J90, J91, J92, reduceCtorEq, J93, J94, J95, J96, J97, J98, J99, J100]))
  refine VCall_intro (list_call hE3.ok hs3'.sl hs3'.plain) ?_
  rintro vw S4 ⟨hw4, hE4⟩
  rw [List.take_of_length_le (by omega)] at hw4
  have hM4 := hM3.extd hE4
  have hT4 := hT3.extd hE4
  have hs4 : Mine S4 3 1 S2.n vs (iv ((mrows N N M).map List.sum)) N := hs3.same fun b hb => hE4.same b (hs3.base hb).2
  have hsl4 := hs4.sl
  rcases hs4 with ⟨_, _, h0⟩ | ⟨bs0, rfl, hs1, hs2, hs5⟩
  · omega
  (try simp only [und3, und4, und22, und26, und29, und45, und64, info3, info4, info22, info26, info29, info45, info64, info50, und50, aggT, J0, J1, J2, J3, J4, J5, J6, J7, J8, J9, J10, J11, J12, gv, dstAt, J13, J14, J15, J16, J17, J18, J19, J20, J21, J22, J23, J24, J25, J26, J27, J28, J29, J30, J31, J32, J33, J34, J35, J36, J37, J38, J39, J40, J41, J42, J43, J44, J45, J46, J47, J48, J49, J50, J51, J52, J53, J54, J55, J56, J57, J58, J59, aop, J60, J61, J62, evalsA, partsA, evalO, J63, J64, J65, J66, J67, J68, J69, J70, J71, updO, J72, ofArgs, J73, binV, intBin, J74, unV, J75, J76, mmV, builtinA, J77, J78, J79, J80, J81, J82, J83, J84, J85, J86, J87, J88, J89, Nat.reduceLT, Nat.reduceEqDiff, Nat.reduceAdd, Nat.reduceSub, Nat.reduceMul, reduceIte, J90, J91, J92, reduceCtorEq, J93, J94, J95, J96, J97, J98, J99, J100]); repeat (first | with_reducible refine W_seq ?_ | with_reducible refine W_block ?_ | with_reducible refine W_scope ?_ | ((first | with_reducible refine W_regionV hTT ?_ | with_reducible refine W_condV ?_ | with_reducible refine W_ret ?_ | with_reducible refine W_exit ?_ | with_reducible refine W_skip ?_ | with_reducible refine W_label ?_ | with_reducible refine W_drawV hTT (by kernel_rfl) ?_); try simp only [und3, und4, und22, und26, und29, und45, und64, info3, info4, info22, info26, info29, info45, info64, info50, und50, aggT, J0, J1, J2, J3, J4, J5, J6, J7, J8, J9, J10, J11, J12, gv, dstAt, J13, J14, J15, J16, J17, J18, J19, J20, J21, J22, J23, J24, J25, J26, J27, J28, J29, J30, J31, J32, J33, J34, J35, J36, J37, J38, J39, J40, J41, J42, J43, J44, J45, J46, J47, J48, J49, J50, J51, J52, J53, J54, J55, J56, J57, J58, J59, aop, J60, J61, J62, evalsA, partsA, evalO, J63, J64, J65, J66, J67, J68, J69, J70, J71, updO, J72, ofArgs, J73, binV, intBin, J74, unV, J75, J76, mmV, builtinA, J77, J78, J79, J80, J81, J82, J83, J84, J85, J86, J87, J88, J89, Nat.reduceLT, Nat.reduceEqDiff, Nat.reduceAdd, Nat.reduceSub, Nat.reduceMul, reduceIte, J90, J91, J92, reduceCtorEq, J93, J94, J95, J96, J97, J98, J99, J100]))
  have hxs : Sl S4 1 (.slice (some ⟨bs0, 0, none⟩) ((mrows N N M).map List.sum).length BIG) (iv ((mrows N N M).map List.sum)) ((mrows N N M).map List.sum).length := by rw [hsl]; exact hsl4
  have hbuild := build_call hE4.ok hxs (by omega) (by omega) (fun x hx => by
    rw [List.mem_map] at hx
    obtain ⟨r, hr, rfl⟩ := hx
    obtain ⟨i, hi, rfl⟩ := List.getElem_of_mem hr
    rw [mrows_get]
    rw [mrows_len] at hi
    exact mrow_sum_bnd hC (by omega) hi)
  rw [hsl] at hbuild
  refine VCall_intro hbuild ?_
  rintro v S5 ⟨a, k, rfl, hTab, hE5⟩
  have hM5 := hM4.extd hE5
  (try simp only [und3, und4, und22, und26, und29, und45, und64, info3, info4, info22, info26, info29, info45, info64, info50, und50, aggT, J0, J1, J2, J3, J4, J5, J6, J7, J8, J9, J10, J11, J12, gv, dstAt, J13, J14, J15, J16, J17, J18, J19, J20, J21, J22, J23, J24, J25, J26, J27, J28, J29, J30, J31, J32, J33, J34, J35, J36, J37, J38, J39, J40, J41, J42, J43, J44, J45, J46, J47, J48, J49, J50, J51, J52, J53, J54, J55, J56, J57, J58, J59, aop, J60, J61, J62, evalsA, partsA, evalO, J63, J64, J65, J66, J67, J68, J69, J70, J71, updO, J72, ofArgs, J73, binV, intBin, J74, unV, J75, J76, mmV, builtinA, J77, J78, J79, J80, J81, J82, J83, J84, J85, J86, J87, J88, J89, Nat.reduceLT, Nat.reduceEqDiff, Nat.reduceAdd, Nat.reduceSub, Nat.reduceMul, reduceIte, J90, J91, J92, reduceCtorEq, J93, J94, J95, J96, J97, J98, J99, J100, extractA]); repeat (first | with_reducible refine W_seq ?_ | with_reducible refine W_block ?_ | with_reducible refine W_scope ?_ | ((first | with_reducible refine W_regionV hTT ?_ | with_reducible refine W_condV ?_ | with_reducible refine W_ret ?_ | with_reducible refine W_exit ?_ | with_reducible refine W_skip ?_ | with_reducible refine W_label ?_ | with_reducible refine W_drawV hTT (by kernel_rfl) ?_); try simp only [und3, und4, und22, und26, und29, und45, und64, info3, info4, info22, info26, info29, info45, info64, info50, und50, aggT, J0, J1, J2, J3, J4, J5, J6, J7, J8, J9, J10, J11, J12, gv, dstAt, J13, J14, J15, J16, J17, J18, J19, J20, J21, J22, J23, J24, J25, J26, J27, J28, J29, J30, J31, J32, J33, J34, J35, J36, J37, J38, J39, J40, J41, J42, J43, J44, J45, J46, J47, J48, J49, J50, J51, J52, J53, J54, J55, J56, J57, J58, J59, aop, J60, J61, J62, evalsA, partsA, evalO, J63, J64, J65, J66, J67, J68, J69, J70, J71, updO, J72, ofArgs, J73, binV, intBin, J74, unV, J75, J76, mmV, builtinA, J77, J78, J79, J80, J81, J82, J83, J84, J85, J86, J87, J88, J89, Nat.reduceLT, Nat.reduceEqDiff, Nat.reduceAdd, Nat.reduceSub, Nat.reduceMul, reduceIte, J90, J91, J92, reduceCtorEq, J93, J94, J95, J96, J97, J98, J99, J100, extractA]))
  refine VCall_intro (way_call hE5.ok hM5 hpc (by omega) hC) ?_
  rintro v S6 ⟨uw, rfl, hW6, hE6⟩
  have hM6 := hM5.extd hE6
  (try simp only [und3, und4, und22, und26, und29, und45, und64, info3, info4, info22, info26, info29, info45, info64, info50, und50, aggT, J0, J1, J2, J3, J4, J5, J6, J7, J8, J9, J10, J11, J12, gv, dstAt, J13, J14, J15, J16, J17, J18, J19, J20, J21, J22, J23, J24, J25, J26, J27, J28, J29, J30, J31, J32, J33, J34, J35, J36, J37, J38, J39, J40, J41, J42, J43, J44, J45, J46, J47, J48, J49, J50, J51, J52, J53, J54, J55, J56, J57, J58, J59, aop, J60, J61, J62, evalsA, partsA, evalO, J63, J64, J65, J66, J67, J68, J69, J70, J71, updO, J72, ofArgs, J73, binV, intBin, J74, unV, J75, J76, mmV, builtinA, J77, J78, J79, J80, J81, J82, J83, J84, J85, J86, J87, J88, J89, Nat.reduceLT, Nat.reduceEqDiff, Nat.reduceAdd, Nat.reduceSub, Nat.reduceMul, reduceIte, J90, J91, J92, reduceCtorEq, J93, J94, J95, J96, J97, J98, J99, J100, extractA]); repeat (first | with_reducible refine W_seq ?_ | with_reducible refine W_block ?_ | with_reducible refine W_scope ?_ | ((first | with_reducible refine W_regionV hTT ?_ | with_reducible refine W_condV ?_ | with_reducible refine W_ret ?_ | with_reducible refine W_exit ?_ | with_reducible refine W_skip ?_ | with_reducible refine W_label ?_ | with_reducible refine W_drawV hTT (by kernel_rfl) ?_); try simp only [und3, und4, und22, und26, und29, und45, und64, info3, info4, info22, info26, info29, info45, info64, info50, und50, aggT, J0, J1, J2, J3, J4, J5, J6, J7, J8, J9, J10, J11, J12, gv, dstAt, J13, J14, J15, J16, J17, J18, J19, J20, J21, J22, J23, J24, J25, J26, J27, J28, J29, J30, J31, J32, J33, J34, J35, J36, J37, J38, J39, J40, J41, J42, J43, J44, J45, J46, J47, J48, J49, J50, J51, J52, J53, J54, J55, J56, J57, J58, J59, aop, J60, J61, J62, evalsA, partsA, evalO, J63, J64, J65, J66, J67, J68, J69, J70, J71, updO, J72, ofArgs, J73, binV, intBin, J74, unV, J75, J76, mmV, builtinA, J77, J78, J79, J80, J81, J82, J83, J84, J85, J86, J87, J88, J89, Nat.reduceLT, Nat.reduceEqDiff, Nat.reduceAdd, Nat.reduceSub, Nat.reduceMul, reduceIte, J90, J91, J92, reduceCtorEq, J93, J94, J95, J96, J97, J98, J99, J100, extractA]))
  refine VCall_intro (kings_call hE6.ok hM6 hpc (by omega) hC) ?_
  rintro v S7 ⟨uk, rfl, hK7, hE7⟩
  have hM7 := hM6.extd hE7
  have hW7 : Mine S7 3 1 S5.n uw (iv (wayL M N)) N := hW6.same fun b hb => hE7.same b (hW6.base hb).2
  have hn4 := hE5.n
  have hn5 := hE6.n
  have hwo := hW7.one
  have hko := hK7.one
  have hkl := kings_len N M N
  have hE47 : Ext S4 S7 := (hE5.trans hE6).trans hE7
  have bs2 := bs_two (S := S7) (x := uw) (y := uk) und22 info26 rfl rfl hwo.1 hko.1
  obtain ⟨ba, mm, ca, ga, rvs, S8, a1, a2, a3, a4, hE8, a5⟩ := all_rows hE47.ok (x := uw) (y := uk) ⟨hwo.2, hwo.1⟩ ⟨hko.2, hko.1⟩ (by omega) (by omega) ((hTab.extd hE6).extd hE7) (.ofMine hW7 (by omega) (by omega)) (.ofMine hK7 (by omega) (by unfold kings; omega))
  (try simp only [und3, und4, und22, und26, und29, und45, und64, info3, info4, info22, info26, info29, info45, info64, info50, und50, aggT, J0, J1, J2, J3, J4, J5, J6, J7, J8, J9, J10, J11, J12, gv, dstAt, J13, J14, J15, J16, J17, J18, J19, J20, J21, J22, J23, J24, J25, J26, J27, J28, J29, J30, J31, J32, J33, J34, J35, J36, J37, J38, J39, J40, J41, J42, J43, J44, J45, J46, J47, J48, J49, J50, J51, J52, J53, J54, J55, J56, J57, J58, J59, aop, J60, J61, J62, evalsA, partsA, evalO, J63, J64, J65, J66, J67, J68, J69, J70, J71, updO, J72, ofArgs, J73, binV, intBin, J74, unV, J75, J76, mmV, builtinA, J77, J78, J79, J80, J81, J82, J83, J84, J85, J86, J87, J88, J89, Nat.reduceLT, Nat.reduceEqDiff, Nat.reduceAdd, Nat.reduceSub, Nat.reduceMul, reduceIte, J90, J91, J92, reduceCtorEq, J93, J94, J95, J96, J97, J98, J99, J100, extractA, bs2, a1]); repeat (first | with_reducible refine W_seq ?_ | with_reducible refine W_scope ?_ | ((first | with_reducible refine W_regionV hTT ?_ | with_reducible refine W_condV ?_ | with_reducible refine W_ret ?_ | with_reducible refine W_exit ?_ | with_reducible refine W_skip ?_ | with_reducible refine W_label ?_ | with_reducible refine W_drawV hTT (by kernel_rfl) ?_); try simp only [und3, und4, und22, und26, und29, und45, und64, info3, info4, info22, info26, info29, info45, info64, info50, und50, aggT, J0, J1, J2, J3, J4, J5, J6, J7, J8, J9, J10, J11, J12, gv, dstAt, J13, J14, J15, J16, J17, J18, J19, J20, J21, J22, J23, J24, J25, J26, J27, J28, J29, J30, J31, J32, J33, J34, J35, J36, J37, J38, J39, J40, J41, J42, J43, J44, J45, J46, J47, J48, J49, J50, J51, J52, J53, J54, J55, J56, J57, J58, J59, aop, J60, J61, J62, evalsA, partsA, evalO, J63, J64, J65, J66, J67, J68, J69, J70, J71, updO, J72, ofArgs, J73, binV, intBin, J74, unV, J75, J76, mmV, builtinA, J77, J78, J79, J80, J81, J82, J83, J84, J85, J86, J87, J88, J89, Nat.reduceLT, Nat.reduceEqDiff, Nat.reduceAdd, Nat.reduceSub, Nat.reduceMul, reduceIte, J90, J91, J92, reduceCtorEq, J93, J94, J95, J96, J97, J98, J99, J100, extractA, bs2, a1]))
  refine W_cut (fun τ ds S' => ds = [] ∧ Ext S4 S' ∧ τ 5 = vc ∧ τ 6 = vt ∧ τ 7 = .slice (some ⟨bs0, 0, none⟩) N BIG ∧ τ 8 = vw ∧ τ 11 = .int .i64 0 ∧ τ 13 = .int .i64 0 ∧ τ 15 = .int .i64 0) ?_ ?_
  · refine W_block ?_
    refine W_loopI (fun m τ ds S' => ds = [] ∧ Ext S4 S' ∧ ∃ i : Nat, m = mm - i ∧ i ≤ mm ∧ τ 5 = vc ∧ τ 6 = vt ∧ τ 7 = .slice (some ⟨bs0, 0, none⟩) N BIG ∧ τ 8 = vw ∧ τ 11 = .int .i64 0 ∧ τ 13 = .int .i64 0 ∧ τ 15 = .int .i64 0 ∧ τ 16 = .slice (some ⟨ba, 0, none⟩) mm ca ∧ τ 17 = .int .i64 i ∧
      S'.get ba = some (.cells rvs 26 ga) ∧ ∀ rv ∈ rvs, Wrow S' S4.n rv) mm ?_ ?_
    · refine ⟨rfl, hE47.trans hE8, 0, by omega, by omega, ?_, ?_, ?_, ?_, ?_, ?_, ?_, ?_, ?_, a2, a5⟩ <;> first | rfl | simp only [und3, und4, und22, und26, und29, und45, und64, info3, info4, info22, info26, info29, info45, info64, info50, und50, aggT, J0, J1, J2, J3, J4, J5, J6, J7, J8, J9, J10, J11, J12, gv, dstAt, J13, J14, J15, J16, J17, J18, J19, J20, J21, J22, J23, J24, J25, J26, J27, J28, J29, J30, J31, J32, J33, J34, J35, J36, J37, J38, J39, J40, J41, J42, J43, J44, J45, J46, J47, J48, J49, J50, J51, J52, J53, J54, J55, J56, J57, J58, J59, aop, J60, J61, J62, evalsA, partsA, evalO, J63, J64, J65, J66, J67, J68, J69, J70, J71, updO, J72, ofArgs, J73, binV, intBin, J74, unV, J75, J76, mmV, builtinA, J77, J78, J79, J80, J81, J82, J83, J84, J85, J86, J87, J88, J89, Nat.reduceLT, Nat.reduceEqDiff, Nat.reduceAdd, Nat.reduceSub, Nat.reduceMul, reduceIte, J90, J91, J92, reduceCtorEq, J93, J94, J95, J96, J97, J98, J99, J100]
    clear bs2 a1 a2 a5 hE8 hW7 hK7 hW6 hTab
    rintro m τ ds SA ⟨rfl, hEA, i, rfl, hi, t5, t6, t7, t8, t11, t13, t15, t16, t17, ha, hrw⟩
    have hlm : lenOpA TT SA 22 (.slice (some ⟨ba, 0, none⟩) mm ca) = some (.int .i64 mm) := by simp [lenOpA, und22]
    by_cases hlt : i < mm
    · have e1 : decide ((i : Int) < mm) = true := by simpa using hlt
      have hwi := wrap_succ (k := i) (by omega)
      have hil : i < rvs.length := by omega
      obtain ⟨nn, hnn, hlenv, hst⟩ := (hrw _ (List.getElem_mem hil)).shape (-7)
      have b1 := arr_index (T := TT) (b := ba) (c := ca) (n := mm) (k := .i64) (i := i) und22 info26 rfl hlt
      (try simp only [und3, und4, und22, und26, und29, und45, und64, info3, info4, info22, info26, info29, info45, info64, info50, und50, aggT, J0, J1, J2, J3, J4, J5, J6, J7, J8, J9, J10, J11, J12, gv, dstAt, J13, J14, J15, J16, J17, J18, J19, J20, J21, J22, J23, J24, J25, J26, J27, J28, J29, J30, J31, J32, J33, J34, J35, J36, J37, J38, J39, J40, J41, J42, J43, J44, J45, J46, J47, J48, J49, J50, J51, J52, J53, J54, J55, J56, J57, J58, J59, aop, J60, J61, J62, evalsA, partsA, evalO, J63, J64, J65, J66, J67, J68, J69, J70, J71, updO, J72, ofArgs, J73, binV, intBin, J74, unV, J75, J76, mmV, builtinA, J77, J78, J79, J80, J81, J82, J83, J84, J85, J86, J87, J88, J89, Nat.reduceLT, Nat.reduceEqDiff, Nat.reduceAdd, Nat.reduceSub, Nat.reduceMul, reduceIte, J90, J91, J92, reduceCtorEq, J93, J94, J95, J96, J97, J98, J99, J100, t5, t6, t7, t8, t11, t13, t15, t16, t17, hlm, e1]); repeat (first | with_reducible refine W_seq ?_ | with_reducible refine W_scope ?_ | ((first | with_reducible refine W_regionV hTT ?_ | with_reducible refine W_condV ?_ | with_reducible refine W_ret ?_ | with_reducible refine W_exit ?_ | with_reducible refine W_skip ?_ | with_reducible refine W_label ?_ | with_reducible refine W_drawV hTT (by kernel_rfl) ?_); try simp only [und3, und4, und22, und26, und29, und45, und64, info3, info4, info22, info26, info29, info45, info64, info50, und50, aggT, J0, J1, J2, J3, J4, J5, J6, J7, J8, J9, J10, J11, J12, gv, dstAt, J13, J14, J15, J16, J17, J18, J19, J20, J21, J22, J23, J24, J25, J26, J27, J28, J29, J30, J31, J32, J33, J34, J35, J36, J37, J38, J39, J40, J41, J42, J43, J44, J45, J46, J47, J48, J49, J50, J51, J52, J53, J54, J55, J56, J57, J58, J59, aop, J60, J61, J62, evalsA, partsA, evalO, J63, J64, J65, J66, J67, J68, J69, J70, J71, updO, J72, ofArgs, J73, binV, intBin, J74, unV, J75, J76, mmV, builtinA, J77, J78, J79, J80, J81, J82, J83, J84, J85, J86, J87, J88, J89, Nat.reduceLT, Nat.reduceEqDiff, Nat.reduceAdd, Nat.reduceSub, Nat.reduceMul, reduceIte, J90, J91, J92, reduceCtorEq, J93, J94, J95, J96, J97, J98, J99, J100, t5, t6, t7, t8, t11, t13, t15, t16, t17, hlm, e1]))
      refine W_block ?_
      (try simp only [und3, und4, und22, und26, und29, und45, und64, info3, info4, info22, info26, info29, info45, info64, info50, und50, aggT, J0, J1, J2, J3, J4, J5, J6, J7, J8, J9, J10, J11, J12, gv, dstAt, J13, J14, J15, J16, J17, J18, J19, J20, J21, J22, J23, J24, J25, J26, J27, J28, J29, J30, J31, J32, J33, J34, J35, J36, J37, J38, J39, J40, J41, J42, J43, J44, J45, J46, J47, J48, J49, J50, J51, J52, J53, J54, J55, J56, J57, J58, J59, aop, J60, J61, J62, evalsA, partsA, evalO, J63, J64, J65, J66, J67, J68, J69, J70, J71, updO, J72, ofArgs, J73, binV, intBin, J74, unV, J75, J76, mmV, builtinA, J77, J78, J79, J80, J81, J82, J83, J84, J85, J86, J87, J88, J89, Nat.reduceLT, Nat.reduceEqDiff, Nat.reduceAdd, Nat.reduceSub, Nat.reduceMul, reduceIte, J90, J91, J92, reduceCtorEq, J93, J94, J95, J96, J97, J98, J99, J100, t5, t6, t7, t8, t11, t13, t15, t16, t17]); repeat (first | with_reducible refine W_seq ?_ | with_reducible refine W_scope ?_ | ((first | with_reducible refine W_regionV hTT ?_ | with_reducible refine W_condV ?_ | with_reducible refine W_ret ?_ | with_reducible refine W_exit ?_ | with_reducible refine W_skip ?_ | with_reducible refine W_label ?_ | with_reducible refine W_drawV hTT (by kernel_rfl) ?_); try simp only [und3, und4, und22, und26, und29, und45, und64, info3, info4, info22, info26, info29, info45, info64, info50, und50, aggT, J0, J1, J2, J3, J4, J5, J6, J7, J8, J9, J10, J11, J12, gv, dstAt, J13, J14, J15, J16, J17, J18, J19, J20, J21, J22, J23, J24, J25, J26, J27, J28, J29, J30, J31, J32, J33, J34, J35, J36, J37, J38, J39, J40, J41, J42, J43, J44, J45, J46, J47, J48, J49, J50, J51, J52, J53, J54, J55, J56, J57, J58, J59, aop, J60, J61, J62, evalsA, partsA, evalO, J63, J64, J65, J66, J67, J68, J69, J70, J71, updO, J72, ofArgs, J73, binV, intBin, J74, unV, J75, J76, mmV, builtinA, J77, J78, J79, J80, J81, J82, J83, J84, J85, J86, J87, J88, J89, Nat.reduceLT, Nat.reduceEqDiff, Nat.reduceAdd, Nat.reduceSub, Nat.reduceMul, reduceIte, J90, J91, J92, reduceCtorEq, J93, J94, J95, J96, J97, J98, J99, J100, t5, t6, t7, t8, t11, t13, t15, t16, t17]))
      refine W_block ?_
      refine W_loopI (fun m τ ds S' => ds = [] ∧ Ext S4 S' ∧ ∃ j : Nat, m = nn - j ∧ j ≤ nn ∧ τ 5 = vc ∧ τ 6 = vt ∧ τ 7 = .slice (some ⟨bs0, 0, none⟩) N BIG ∧ τ 8 = vw ∧ τ 11 = .int .i64 0 ∧ τ 13 = .int .i64 0 ∧ τ 15 = .int .i64 0 ∧ τ 16 = .slice (some ⟨ba, 0, none⟩) mm ca ∧ τ 17 = .int .i64 i ∧ τ 18 = .int .i64 j ∧
        S'.get ba = some (.cells rvs 26 ga) ∧ ∀ rv ∈ rvs, Wrow S' S4.n rv) nn ?_ ?_
      · refine ⟨rfl, hEA, 0, by omega, by omega, ?_, ?_, ?_, ?_, ?_, ?_, ?_, ?_, ?_, ?_, ha, hrw⟩ <;> first | rfl | simp only [und3, und4, und22, und26, und29, und45, und64, info3, info4, info22, info26, info29, info45, info64, info50, und50, aggT, J0, J1, J2, J3, J4, J5, J6, J7, J8, J9, J10, J11, J12, gv, dstAt, J13, J14, J15, J16, J17, J18, J19, J20, J21, J22, J23, J24, J25, J26, J27, J28, J29, J30, J31, J32, J33, J34, J35, J36, J37, J38, J39, J40, J41, J42, J43, J44, J45, J46, J47, J48, J49, J50, J51, J52, J53, J54, J55, J56, J57, J58, J59, aop, J60, J61, J62, evalsA, partsA, evalO, J63, J64, J65, J66, J67, J68, J69, J70, J71, updO, J72, ofArgs, J73, binV, intBin, J74, unV, J75, J76, mmV, builtinA, J77, J78, J79, J80, J81, J82, J83, J84, J85, J86, J87, J88, J89, Nat.reduceLT, Nat.reduceEqDiff, Nat.reduceAdd, Nat.reduceSub, Nat.reduceMul, reduceIte, J90, J91, J92, reduceCtorEq, J93, J94, J95, J96, J97, J98, J99, J100, t5, t6, t7, t8, t11, t13, t15, t16, t17]
      clear t5 t6 t7 t8 t11 t13 t15 t16 t17 ha hrw hEA hlm
      rintro m τ ds SB ⟨rfl, hEB, j, rfl, hj, t5, t6, t7, t8, t11, t13, t15, t16, t17, t18, ha, hrw⟩
      have l1 := load_one (o := i) und26 info26 rfl ha
      rw [List.getElem?_eq_getElem hil] at l1
      have hlv := hlenv SB
      by_cases hjn : j < nn
      · have e2 : decide ((j : Int) < nn) = true := by simpa using hjn
        have hwj := wrap_succ (k := j) (by omega)
        obtain ⟨p, SC, p1, p2, o1, o2, o3, o4, o5, o6⟩ := hst SB hEB.ok (hrw _ (List.getElem_mem hil)) j hjn
        repeat (first | with_reducible refine W_seq ?_ | with_reducible refine W_block ?_ | with_reducible refine W_scope ?_ | ((first | with_reducible refine W_regionV hTT ?_ | with_reducible refine W_condV ?_ | with_reducible refine W_ret ?_ | with_reducible refine W_exit ?_ | with_reducible refine W_skip ?_ | with_reducible refine W_label ?_ | with_reducible refine W_drawV hTT (by kernel_rfl) ?_); try simp only [und3, und4, und22, und26, und29, und45, und64, info3, info4, info22, info26, info29, info45, info64, info50, und50, aggT, J0, J1, J2, J3, J4, J5, J6, J7, J8, J9, J10, J11, J12, gv, dstAt, J13, J14, J15, J16, J17, J18, J19, J20, J21, J22, J23, J24, J25, J26, J27, J28, J29, J30, J31, J32, J33, J34, J35, J36, J37, J38, J39, J40, J41, J42, J43, J44, J45, J46, J47, J48, J49, J50, J51, J52, J53, J54, J55, J56, J57, J58, J59, aop, J60, J61, J62, evalsA, partsA, evalO, J63, J64, J65, J66, J67, J68, J69, J70, J71, updO, J72, ofArgs, J73, binV, intBin, J74, unV, J75, J76, mmV, builtinA, J77, J78, J79, J80, J81, J82, J83, J84, J85, J86, J87, J88, J89, Nat.reduceLT, Nat.reduceEqDiff, Nat.reduceAdd, Nat.reduceSub, Nat.reduceMul, reduceIte, J90, J91, J92, reduceCtorEq, J93, J94, J95, J96, J97, J98, J99, J100, t5, t6, t7, t8, t11, t13, t15, t16, t17, t18, b1, l1, hlv, e2, p1, p2, hwj]))
        refine LoopQ_intro (nn - (j + 1)) (by omega) ⟨rfl, ⟨o1, by rw [o2]; exact hEB.n, fun k hk => by rw [o4 k hk, hEB.same k hk], o3.trans hEB.mono⟩, j + 1, rfl, by omega, by simp only [und3, und4, und22, und26, und29, und45, und64, info3, info4, info22, info26, info29, info45, info64, info50, und50, aggT, J0, J1, J2, J3, J4, J5, J6, J7, J8, J9, J10, J11, J12, gv, dstAt, J13, J14, J15, J16, J17, J18, J19, J20, J21, J22, J23, J24, J25, J26, J27, J28, J29, J30, J31, J32, J33, J34, J35, J36, J37, J38, J39, J40, J41, J42, J43, J44, J45, J46, J47, J48, J49, J50, J51, J52, J53, J54, J55, J56, J57, J58, J59, aop, J60, J61, J62, evalsA, partsA, evalO, J63, J64, J65, J66, J67, J68, J69, J70, J71, updO, J72, ofArgs, J73, binV, intBin, J74, unV, J75, J76, mmV, builtinA, J77, J78, J79, J80, J81, J82, J83, J84, J85, J86, J87, J88, J89, Nat.reduceLT, Nat.reduceEqDiff, Nat.reduceAdd, Nat.reduceSub, Nat.reduceMul, reduceIte, J90, J91, J92, reduceCtorEq, J93, J94, J95, J96, J97, J98, J99, J100, t5], by simp only [und3, und4, und22, und26, und29, und45, und64, info3, info4, info22, info26, info29, info45, info64, info50, und50, aggT, J0, J1, J2, J3, J4, J5, J6, J7, J8, J9, J10, J11, J12, gv, dstAt, J13, J14, J15, J16, J17, J18, J19, J20, J21, J22, J23, J24, J25, J26, J27, J28, J29, J30, J31, J32, J33, J34, J35, J36, J37, J38, J39, J40, J41, J42, J43, J44, J45, J46, J47, J48, J49, J50, J51, J52, J53, J54, J55, J56, J57, J58, J59, aop, J60, J61, J62, evalsA, partsA, evalO, J63, J64, J65, J66, J67, J68, J69, J70, J71, updO, J72, ofArgs, J73, binV, intBin, J74, unV, J75, J76, mmV, builtinA, J77, J78, J79, J80, J81, J82, J83, J84, J85, J86, J87, J88, J89, Nat.reduceLT, Nat.reduceEqDiff, Nat.reduceAdd, Nat.reduceSub, Nat.reduceMul, reduceIte, J90, J91, J92, reduceCtorEq, J93, J94, J95, J96, J97, J98, J99, J100, t6], by simp only [und3, und4, und22, und26, und29, und45, und64, info3, info4, info22, info26, info29, info45, info64, info50, und50, aggT, J0, J1, J2, J3, J4, J5, J6, J7, J8, J9, J10, J11, J12, gv, dstAt, J13, J14, J15, J16, J17, J18, J19, J20, J21, J22, J23, J24, J25, J26, J27, J28, J29, J30, J31, J32, J33, J34, J35, J36, J37, J38, J39, J40, J41, J42, J43, J44, J45, J46, J47, J48, J49, J50, J51, J52, J53, J54, J55, J56, J57, J58, J59, aop, J60, J61, J62, evalsA, partsA, evalO, J63, J64, J65, J66, J67, J68, J69, J70, J71, updO, J72, ofArgs, J73, binV, intBin, J74, unV, J75, J76, mmV, builtinA, J77, J78, J79, J80, J81, J82, J83, J84, J85, J86, J87, J88, J89, Nat.reduceLT, Nat.reduceEqDiff, Nat.reduceAdd, Nat.reduceSub, Nat.reduceMul, reduceIte, J90, J91, J92, reduceCtorEq, J93, J94, J95, J96, J97, J98, J99, J100, t7], by simp only [und3, und4, und22, und26, und29, und45, und64, info3, info4, info22, info26, info29, info45, info64, info50, und50, aggT, J0, J1, J2, J3, J4, J5, J6, J7, J8, J9, J10, J11, J12, gv, dstAt, J13, J14, J15, J16, J17, J18, J19, J20, J21, J22, J23, J24, J25, J26, J27, J28, J29, J30, J31, J32, J33, J34, J35, J36, J37, J38, J39, J40, J41, J42, J43, J44, J45, J46, J47, J48, J49, J50, J51, J52, J53, J54, J55, J56, J57, J58, J59, aop, J60, J61, J62, evalsA, partsA, evalO, J63, J64, J65, J66, J67, J68, J69, J70, J71, updO, J72, ofArgs, J73, binV, intBin, J74, unV, J75, J76, mmV, builtinA, J77, J78, J79, J80, J81, J82, J83, J84, J85, J86, J87, J88, J89, Nat.reduceLT, Nat.reduceEqDiff, Nat.reduceAdd, Nat.reduceSub, Nat.reduceMul, reduceIte, J90, J91, J92, reduceCtorEq, J93, J94, J95, J96, J97, J98, J99, J100, t8], by simp only [und3, und4, und22, und26, und29, und45, und64, info3, info4, info22, info26, info29, info45, info64, info50, und50, aggT, J0, J1, J2, J3, J4, J5, J6, J7, J8, J9, J10, J11, J12, gv, dstAt, J13, J14, J15, J16, J17, J18, J19, J20, J21, J22, J23, J24, J25, J26, J27, J28, J29, J30, J31, J32, J33, J34, J35, J36, J37, J38, J39, J40, J41, J42, J43, J44, J45, J46, J47, J48, J49, J50, J51, J52, J53, J54, J55, J56, J57, J58, J59, aop, J60, J61, J62, evalsA, partsA, evalO, J63, J64, J65, J66, J67, J68, J69, J70, J71, updO, J72, ofArgs, J73, binV, intBin, J74, unV, J75, J76, mmV, builtinA, J77, J78, J79, J80, J81, J82, J83, J84, J85, J86, J87, J88, J89, Nat.reduceLT, Nat.reduceEqDiff, Nat.reduceAdd, Nat.reduceSub, Nat.reduceMul, reduceIte, J90, J91, J92, reduceCtorEq, J93, J94, J95, J96, J97, J98, J99, J100, t11], by simp only [und3, und4, und22, und26, und29, und45, und64, info3, info4, info22, info26, info29, info45, info64, info50, und50, aggT, J0, J1, J2, J3, J4, J5, J6, J7, J8, J9, J10, J11, J12, gv, dstAt, J13, J14, J15, J16, J17, J18, J19, J20, J21, J22, J23, J24, J25, J26, J27, J28, J29, J30, J31, J32, J33, J34, J35, J36, J37, J38, J39, J40, J41, J42, J43, J44, J45, J46, J47, J48, J49, J50, J51, J52, J53, J54, J55, J56, J57, J58, J59, aop, J60, J61, J62, evalsA, partsA, evalO, J63, J64, J65, J66, J67, J68, J69, J70, J71, updO, J72, ofArgs, J73, binV, intBin, J74, unV, J75, J76, mmV, builtinA, J77, J78, J79, J80, J81, J82, J83, J84, J85, J86, J87, J88, J89, Nat.reduceLT, Nat.reduceEqDiff, Nat.reduceAdd, Nat.reduceSub, Nat.reduceMul, reduceIte, J90, J91, J92, reduceCtorEq, J93, J94, J95, J96, J97, J98, J99, J100, t13], by simp only [und3, und4, und22, und26, und29, und45, und64, info3, info4, info22, info26, info29, info45, info64, info50, und50, aggT, J0, J1, J2, J3, J4, J5, J6, J7, J8, J9, J10, J11, J12, gv, dstAt, J13, J14, J15, J16, J17, J18, J19, J20, J21, J22, J23, J24, J25, J26, J27, J28, J29, J30, J31, J32, J33, J34, J35, J36, J37, J38, J39, J40, J41, J42, J43, J44, J45, J46, J47, J48, J49, J50, J51, J52, J53, J54, J55, J56, J57, J58, J59, aop, J60, J61, J62, evalsA, partsA, evalO, J63, J64, J65, J66, J67, J68, J69, J70, J71, updO, J72, ofArgs, J73, binV, intBin, J74, unV, J75, J76, mmV, builtinA, J77, J78, J79, J80, J81, J82, J83, J84, J85, J86, J87, J88, J89, Nat.reduceLT, Nat.reduceEqDiff, Nat.reduceAdd, Nat.reduceSub, Nat.reduceMul, reduceIte, J90, J91, J92, reduceCtorEq, J93, J94, J95, J96, J97, J98, J99, J100, t15], by simp only [und3, und4, und22, und26, und29, und45, und64, info3, info4, info22, info26, info29, info45, info64, info50, und50, aggT, J0, J1, J2, J3, J4, J5, J6, J7, J8, J9, J10, J11, J12, gv, dstAt, J13, J14, J15, J16, J17, J18, J19, J20, J21, J22, J23, J24, J25, J26, J27, J28, J29, J30, J31, J32, J33, J34, J35, J36, J37, J38, J39, J40, J41, J42, J43, J44, J45, J46, J47, J48, J49, J50, J51, J52, J53, J54, J55, J56, J57, J58, J59, aop, J60, J61, J62, evalsA, partsA, evalO, J63, J64, J65, J66, J67, J68, J69, J70, J71, updO, J72, ofArgs, J73, binV, intBin, J74, unV, J75, J76, mmV, builtinA, J77, J78, J79, J80, J81, J82, J83, J84, J85, J86, J87, J88, J89, Nat.reduceLT, Nat.reduceEqDiff, Nat.reduceAdd, Nat.reduceSub, Nat.reduceMul, reduceIte, J90, J91, J92, reduceCtorEq, J93, J94, J95, J96, J97, J98, J99, J100, t16], by simp only [und3, und4, und22, und26, und29, und45, und64, info3, info4, info22, info26, info29, info45, info64, info50, und50, aggT, J0, J1, J2, J3, J4, J5, J6, J7, J8, J9, J10, J11, J12, gv, dstAt, J13, J14, J15, J16, J17, J18, J19, J20, J21, J22, J23, J24, J25, J26, J27, J28, J29, J30, J31, J32, J33, J34, J35, J36, J37, J38, J39, J40, J41, J42, J43, J44, J45, J46, J47, J48, J49, J50, J51, J52, J53, J54, J55, J56, J57, J58, J59, aop, J60, J61, J62, evalsA, partsA, evalO, J63, J64, J65, J66, J67, J68, J69, J70, J71, updO, J72, ofArgs, J73, binV, intBin, J74, unV, J75, J76, mmV, builtinA, J77, J78, J79, J80, J81, J82, J83, J84, J85, J86, J87, J88, J89, Nat.reduceLT, Nat.reduceEqDiff, Nat.reduceAdd, Nat.reduceSub, Nat.reduceMul, reduceIte, J90, J91, J92, reduceCtorEq, J93, J94, J95, J96, J97, J98, J99, J100, t17], by simp only [und3, und4, und22, und26, und29, und45, und64, info3, info4, info22, info26, info29, info45, info64, info50, und50, aggT, J0, J1, J2, J3, J4, J5, J6, J7, J8, J9, J10, J11, J12, gv, dstAt, J13, J14, J15, J16, J17, J18, J19, J20, J21, J22, J23, J24, J25, J26, J27, J28, J29, J30, J31, J32, J33, J34, J35, J36, J37, J38, J39, J40, J41, J42, J43, J44, J45, J46, J47, J48, J49, J50, J51, J52, J53, J54, J55, J56, J57, J58, J59, aop, J60, J61, J62, evalsA, partsA, evalO, J63, J64, J65, J66, J67, J68, J69, J70, J71, updO, J72, ofArgs, J73, binV, intBin, J74, unV, J75, J76, mmV, builtinA, J77, J78, J79, J80, J81, J82, J83, J84, J85, J86, J87, J88, J89, Nat.reduceLT, Nat.reduceEqDiff, Nat.reduceAdd, Nat.reduceSub, Nat.reduceMul, reduceIte, J90, J91, J92, reduceCtorEq, J93, J94, J95, J96, J97, J98, J99, J100, t18, hwj], o5 _ _ _ ha, fun rv hrv => o6 _ (hrw rv hrv)⟩
      · have e2 : decide ((j : Int) < nn) = false := by simpa using hjn
        repeat (first | with_reducible refine W_seq ?_ | with_reducible refine W_block ?_ | with_reducible refine W_scope ?_ | ((first | with_reducible refine W_regionV hTT ?_ | with_reducible refine W_condV ?_ | with_reducible refine W_ret ?_ | with_reducible refine W_exit ?_ | with_reducible refine W_skip ?_ | with_reducible refine W_label ?_ | with_reducible refine W_drawV hTT (by kernel_rfl) ?_); try simp only [und3, und4, und22, und26, und29, und45, und64, info3, info4, info22, info26, info29, info45, info64, info50, und50, aggT, J0, J1, J2, J3, J4, J5, J6, J7, J8, J9, J10, J11, J12, gv, dstAt, J13, J14, J15, J16, J17, J18, J19, J20, J21, J22, J23, J24, J25, J26, J27, J28, J29, J30, J31, J32, J33, J34, J35, J36, J37, J38, J39, J40, J41, J42, J43, J44, J45, J46, J47, J48, J49, J50, J51, J52, J53, J54, J55, J56, J57, J58, J59, aop, J60, J61, J62, evalsA, partsA, evalO, J63, J64, J65, J66, J67, J68, J69, J70, J71, updO, J72, ofArgs, J73, binV, intBin, J74, unV, J75, J76, mmV, builtinA, J77, J78, J79, J80, J81, J82, J83, J84, J85, J86, J87, J88, J89, Nat.reduceLT, Nat.reduceEqDiff, Nat.reduceAdd, Nat.reduceSub, Nat.reduceMul, reduceIte, J90, J91, J92, reduceCtorEq, J93, J94, J95, J96, J97, J98, J99, J100, t5, t6, t7, t8, t11, t13, t15, t16, t17, t18, b1, l1, hlv, e2, hwi]))
        refine LoopQ_intro (mm - (i + 1)) (by omega) ⟨rfl, hEB, i + 1, rfl, by omega, by simp only [und3, und4, und22, und26, und29, und45, und64, info3, info4, info22, info26, info29, info45, info64, info50, und50, aggT, J0, J1, J2, J3, J4, J5, J6, J7, J8, J9, J10, J11, J12, gv, dstAt, J13, J14, J15, J16, J17, J18, J19, J20, J21, J22, J23, J24, J25, J26, J27, J28, J29, J30, J31, J32, J33, J34, J35, J36, J37, J38, J39, J40, J41, J42, J43, J44, J45, J46, J47, J48, J49, J50, J51, J52, J53, J54, J55, J56, J57, J58, J59, aop, J60, J61, J62, evalsA, partsA, evalO, J63, J64, J65, J66, J67, J68, J69, J70, J71, updO, J72, ofArgs, J73, binV, intBin, J74, unV, J75, J76, mmV, builtinA, J77, J78, J79, J80, J81, J82, J83, J84, J85, J86, J87, J88, J89, Nat.reduceLT, Nat.reduceEqDiff, Nat.reduceAdd, Nat.reduceSub, Nat.reduceMul, reduceIte, J90, J91, J92, reduceCtorEq, J93, J94, J95, J96, J97, J98, J99, J100, t5], by simp only [und3, und4, und22, und26, und29, und45, und64, info3, info4, info22, info26, info29, info45, info64, info50, und50, aggT, J0, J1, J2, J3, J4, J5, J6, J7, J8, J9, J10, J11, J12, gv, dstAt, J13, J14, J15, J16, J17, J18, J19, J20, J21, J22, J23, J24, J25, J26, J27, J28, J29, J30, J31, J32, J33, J34, J35, J36, J37, J38, J39, J40, J41, J42, J43, J44, J45, J46, J47, J48, J49, J50, J51, J52, J53, J54, J55, J56, J57, J58, J59, aop, J60, J61, J62, evalsA, partsA, evalO, J63, J64, J65, J66, J67, J68, J69, J70, J71, updO, J72, ofArgs, J73, binV, intBin, J74, unV, J75, J76, mmV, builtinA, J77, J78, J79, J80, J81, J82, J83, J84, J85, J86, J87, J88, J89, Nat.reduceLT, Nat.reduceEqDiff, Nat.reduceAdd, Nat.reduceSub, Nat.reduceMul, reduceIte, J90, J91, J92, reduceCtorEq, J93, J94, J95, J96, J97, J98, J99, J100, t6], by simp only [und3, und4, und22, und26, und29, und45, und64, info3, info4, info22, info26, info29, info45, info64, info50, und50, aggT, J0, J1, J2, J3, J4, J5, J6, J7, J8, J9, J10, J11, J12, gv, dstAt, J13, J14, J15, J16, J17, J18, J19, J20, J21, J22, J23, J24, J25, J26, J27, J28, J29, J30, J31, J32, J33, J34, J35, J36, J37, J38, J39, J40, J41, J42, J43, J44, J45, J46, J47, J48, J49, J50, J51, J52, J53, J54, J55, J56, J57, J58, J59, aop, J60, J61, J62, evalsA, partsA, evalO, J63, J64, J65, J66, J67, J68, J69, J70, J71, updO, J72, ofArgs, J73, binV, intBin, J74, unV, J75, J76, mmV, builtinA, J77, J78, J79, J80, J81, J82, J83, J84, J85, J86, J87, J88, J89, Nat.reduceLT, Nat.reduceEqDiff, Nat.reduceAdd, Nat.reduceSub, Nat.reduceMul, reduceIte, J90, J91, J92, reduceCtorEq, J93, J94, J95, J96, J97, J98, J99, J100, t7], by simp only [und3, und4, und22, und26, und29, und45, und64, info3, info4, info22, info26, info29, info45, info64, info50, und50, aggT, J0, J1, J2, J3, J4, J5, J6, J7, J8, J9, J10, J11, J12, gv, dstAt, J13, J14, J15, J16, J17, J18, J19, J20, J21, J22, J23, J24, J25, J26, J27, J28, J29, J30, J31, J32, J33, J34, J35, J36, J37, J38, J39, J40, J41, J42, J43, J44, J45, J46, J47, J48, J49, J50, J51, J52, J53, J54, J55, J56, J57, J58, J59, aop, J60, J61, J62, evalsA, partsA, evalO, J63, J64, J65, J66, J67, J68, J69, J70, J71, updO, J72, ofArgs, J73, binV, intBin, J74, unV, J75, J76, mmV, builtinA, J77, J78, J79, J80, J81, J82, J83, J84, J85, J86, J87, J88, J89, Nat.reduceLT, Nat.reduceEqDiff, Nat.reduceAdd, Nat.reduceSub, Nat.reduceMul, reduceIte, J90, J91, J92, reduceCtorEq, J93, J94, J95, J96, J97, J98, J99, J100, t8], by simp only [und3, und4, und22, und26, und29, und45, und64, info3, info4, info22, info26, info29, info45, info64, info50, und50, aggT, J0, J1, J2, J3, J4, J5, J6, J7, J8, J9, J10, J11, J12, gv, dstAt, J13, J14, J15, J16, J17, J18, J19, J20, J21, J22, J23, J24, J25, J26, J27, J28, J29, J30, J31, J32, J33, J34, J35, J36, J37, J38, J39, J40, J41, J42, J43, J44, J45, J46, J47, J48, J49, J50, J51, J52, J53, J54, J55, J56, J57, J58, J59, aop, J60, J61, J62, evalsA, partsA, evalO, J63, J64, J65, J66, J67, J68, J69, J70, J71, updO, J72, ofArgs, J73, binV, intBin, J74, unV, J75, J76, mmV, builtinA, J77, J78, J79, J80, J81, J82, J83, J84, J85, J86, J87, J88, J89, Nat.reduceLT, Nat.reduceEqDiff, Nat.reduceAdd, Nat.reduceSub, Nat.reduceMul, reduceIte, J90, J91, J92, reduceCtorEq, J93, J94, J95, J96, J97, J98, J99, J100, t11], by simp only [und3, und4, und22, und26, und29, und45, und64, info3, info4, info22, info26, info29, info45, info64, info50, und50, aggT, J0, J1, J2, J3, J4, J5, J6, J7, J8, J9, J10, J11, J12, gv, dstAt, J13, J14, J15, J16, J17, J18, J19, J20, J21, J22, J23, J24, J25, J26, J27, J28, J29, J30, J31, J32, J33, J34, J35, J36, J37, J38, J39, J40, J41, J42, J43, J44, J45, J46, J47, J48, J49, J50, J51, J52, J53, J54, J55, J56, J57, J58, J59, aop, J60, J61, J62, evalsA, partsA, evalO, J63, J64, J65, J66, J67, J68, J69, J70, J71, updO, J72, ofArgs, J73, binV, intBin, J74, unV, J75, J76, mmV, builtinA, J77, J78, J79, J80, J81, J82, J83, J84, J85, J86, J87, J88, J89, Nat.reduceLT, Nat.reduceEqDiff, Nat.reduceAdd, Nat.reduceSub, Nat.reduceMul, reduceIte, J90, J91, J92, reduceCtorEq, J93, J94, J95, J96, J97, J98, J99, J100, t13], by simp only [und3, und4, und22, und26, und29, und45, und64, info3, info4, info22, info26, info29, info45, info64, info50, und50, aggT, J0, J1, J2, J3, J4, J5, J6, J7, J8, J9, J10, J11, J12, gv, dstAt, J13, J14, J15, J16, J17, J18, J19, J20, J21, J22, J23, J24, J25, J26, J27, J28, J29, J30, J31, J32, J33, J34, J35, J36, J37, J38, J39, J40, J41, J42, J43, J44, J45, J46, J47, J48, J49, J50, J51, J52, J53, J54, J55, J56, J57, J58, J59, aop, J60, J61, J62, evalsA, partsA, evalO, J63, J64, J65, J66, J67, J68, J69, J70, J71, updO, J72, ofArgs, J73, binV, intBin, J74, unV, J75, J76, mmV, builtinA, J77, J78, J79, J80, J81, J82, J83, J84, J85, J86, J87, J88, J89, Nat.reduceLT, Nat.reduceEqDiff, Nat.reduceAdd, Nat.reduceSub, Nat.reduceMul, reduceIte, J90, J91, J92, reduceCtorEq, J93, J94, J95, J96, J97, J98, J99, J100, t15], by simp only [und3, und4, und22, und26, und29, und45, und64, info3, info4, info22, info26, info29, info45, info64, info50, und50, aggT, J0, J1, J2, J3, J4, J5, J6, J7, J8, J9, J10, J11, J12, gv, dstAt, J13, J14, J15, J16, J17, J18, J19, J20, J21, J22, J23, J24, J25, J26, J27, J28, J29, J30, J31, J32, J33, J34, J35, J36, J37, J38, J39, J40, J41, J42, J43, J44, J45, J46, J47, J48, J49, J50, J51, J52, J53, J54, J55, J56, J57, J58, J59, aop, J60, J61, J62, evalsA, partsA, evalO, J63, J64, J65, J66, J67, J68, J69, J70, J71, updO, J72, ofArgs, J73, binV, intBin, J74, unV, J75, J76, mmV, builtinA, J77, J78, J79, J80, J81, J82, J83, J84, J85, J86, J87, J88, J89, Nat.reduceLT, Nat.reduceEqDiff, Nat.reduceAdd, Nat.reduceSub, Nat.reduceMul, reduceIte, J90, J91, J92, reduceCtorEq, J93, J94, J95, J96, J97, J98, J99, J100, t16], by simp only [und3, und4, und22, und26, und29, und45, und64, info3, info4, info22, info26, info29, info45, info64, info50, und50, aggT, J0, J1, J2, J3, J4, J5, J6, J7, J8, J9, J10, J11, J12, gv, dstAt, J13, J14, J15, J16, J17, J18, J19, J20, J21, J22, J23, J24, J25, J26, J27, J28, J29, J30, J31, J32, J33, J34, J35, J36, J37, J38, J39, J40, J41, J42, J43, J44, J45, J46, J47, J48, J49, J50, J51, J52, J53, J54, J55, J56, J57, J58, J59, aop, J60, J61, J62, evalsA, partsA, evalO, J63, J64, J65, J66, J67, J68, J69, J70, J71, updO, J72, ofArgs, J73, binV, intBin, J74, unV, J75, J76, mmV, builtinA, J77, J78, J79, J80, J81, J82, J83, J84, J85, J86, J87, J88, J89, Nat.reduceLT, Nat.reduceEqDiff, Nat.reduceAdd, Nat.reduceSub, Nat.reduceMul, reduceIte, J90, J91, J92, reduceCtorEq, J93, J94, J95, J96, J97, J98, J99, J100, t17, hwi], ha, hrw⟩
    · have e1 : decide ((i : Int) < mm) = false := by simpa using hlt
      repeat (first | with_reducible refine W_seq ?_ | with_reducible refine W_block ?_ | with_reducible refine W_scope ?_ | ((first | with_reducible refine W_regionV hTT ?_ | with_reducible refine W_condV ?_ | with_reducible refine W_ret ?_ | with_reducible refine W_exit ?_ | with_reducible refine W_skip ?_ | with_reducible refine W_label ?_ | with_reducible refine W_drawV hTT (by kernel_rfl) ?_); try simp only [und3, und4, und22, und26, und29, und45, und64, info3, info4, info22, info26, info29, info45, info64, info50, und50, aggT, J0, J1, J2, J3, J4, J5, J6, J7, J8, J9, J10, J11, J12, gv, dstAt, J13, J14, J15, J16, J17, J18, J19, J20, J21, J22, J23, J24, J25, J26, J27, J28, J29, J30, J31, J32, J33, J34, J35, J36, J37, J38, J39, J40, J41, J42, J43, J44, J45, J46, J47, J48, J49, J50, J51, J52, J53, J54, J55, J56, J57, J58, J59, aop, J60, J61, J62, evalsA, partsA, evalO, J63, J64, J65, J66, J67, J68, J69, J70, J71, updO, J72, ofArgs, J73, binV, intBin, J74, unV, J75, J76, mmV, builtinA, J77, J78, J79, J80, J81, J82, J83, J84, J85, J86, J87, J88, J89, Nat.reduceLT, Nat.reduceEqDiff, Nat.reduceAdd, Nat.reduceSub, Nat.reduceMul, reduceIte, J90, J91, J92, reduceCtorEq, J93, J94, J95, J96, J97, J98, J99, J100, t5, t6, t7, t8, t11, t13, t15, t16, t17, hlm, e1]))
      refine NQ_intro ⟨rfl, hEA, by simp only [und3, und4, und22, und26, und29, und45, und64, info3, info4, info22, info26, info29, info45, info64, info50, und50, aggT, J0, J1, J2, J3, J4, J5, J6, J7, J8, J9, J10, J11, J12, gv, dstAt, J13, J14, J15, J16, J17, J18, J19, J20, J21, J22, J23, J24, J25, J26, J27, J28, J29, J30, J31, J32, J33, J34, J35, J36, J37, J38, J39, J40, J41, J42, J43, J44, J45, J46, J47, J48, J49, J50, J51, J52, J53, J54, J55, J56, J57, J58, J59, aop, J60, J61, J62, evalsA, partsA, evalO, J63, J64, J65, J66, J67, J68, J69, J70, J71, updO, J72, ofArgs, J73, binV, intBin, J74, unV, J75, J76, mmV, builtinA, J77, J78, J79, J80, J81, J82, J83, J84, J85, J86, J87, J88, J89, Nat.reduceLT, Nat.reduceEqDiff, Nat.reduceAdd, Nat.reduceSub, Nat.reduceMul, reduceIte, J90, J91, J92, reduceCtorEq, J93, J94, J95, J96, J97, J98, J99, J100, t5], by simp only [und3, und4, und22, und26, und29, und45, und64, info3, info4, info22, info26, info29, info45, info64, info50, und50, aggT, J0, J1, J2, J3, J4, J5, J6, J7, J8, J9, J10, J11, J12, gv, dstAt, J13, J14, J15, J16, J17, J18, J19, J20, J21, J22, J23, J24, J25, J26, J27, J28, J29, J30, J31, J32, J33, J34, J35, J36, J37, J38, J39, J40, J41, J42, J43, J44, J45, J46, J47, J48, J49, J50, J51, J52, J53, J54, J55, J56, J57, J58, J59, aop, J60, J61, J62, evalsA, partsA, evalO, J63, J64, J65, J66, J67, J68, J69, J70, J71, updO, J72, ofArgs, J73, binV, intBin, J74, unV, J75, J76, mmV, builtinA, J77, J78, J79, J80, J81, J82, J83, J84, J85, J86, J87, J88, J89, Nat.reduceLT, Nat.reduceEqDiff, Nat.reduceAdd, Nat.reduceSub, Nat.reduceMul, reduceIte, J90, J91, J92, reduceCtorEq, J93, J94, J95, J96, J97, J98, J99, J100, t6], by simp only [und3, und4, und22, und26, und29, und45, und64, info3, info4, info22, info26, info29, info45, info64, info50, und50, aggT, J0, J1, J2, J3, J4, J5, J6, J7, J8, J9, J10, J11, J12, gv, dstAt, J13, J14, J15, J16, J17, J18, J19, J20, J21, J22, J23, J24, J25, J26, J27, J28, J29, J30, J31, J32, J33, J34, J35, J36, J37, J38, J39, J40, J41, J42, J43, J44, J45, J46, J47, J48, J49, J50, J51, J52, J53, J54, J55, J56, J57, J58, J59, aop, J60, J61, J62, evalsA, partsA, evalO, J63, J64, J65, J66, J67, J68, J69, J70, J71, updO, J72, ofArgs, J73, binV, intBin, J74, unV, J75, J76, mmV, builtinA, J77, J78, J79, J80, J81, J82, J83, J84, J85, J86, J87, J88, J89, Nat.reduceLT, Nat.reduceEqDiff, Nat.reduceAdd, Nat.reduceSub, Nat.reduceMul, reduceIte, J90, J91, J92, reduceCtorEq, J93, J94, J95, J96, J97, J98, J99, J100, t7], by simp only [und3, und4, und22, und26, und29, und45, und64, info3, info4, info22, info26, info29, info45, info64, info50, und50, aggT, J0, J1, J2, J3, J4, J5, J6, J7, J8, J9, J10, J11, J12, gv, dstAt, J13, J14, J15, J16, J17, J18, J19, J20, J21, J22, J23, J24, J25, J26, J27, J28, J29, J30, J31, J32, J33, J34, J35, J36, J37, J38, J39, J40, J41, J42, J43, J44, J45, J46, J47, J48, J49, J50, J51, J52, J53, J54, J55, J56, J57, J58, J59, aop, J60, J61, J62, evalsA, partsA, evalO, J63, J64, J65, J66, J67, J68, J69, J70, J71, updO, J72, ofArgs, J73, binV, intBin, J74, unV, J75, J76, mmV, builtinA, J77, J78, J79, J80, J81, J82, J83, J84, J85, J86, J87, J88, J89, Nat.reduceLT, Nat.reduceEqDiff, Nat.reduceAdd, Nat.reduceSub, Nat.reduceMul, reduceIte, J90, J91, J92, reduceCtorEq, J93, J94, J95, J96, J97, J98, J99, J100, t8], by simp only [und3, und4, und22, und26, und29, und45, und64, info3, info4, info22, info26, info29, info45, info64, info50, und50, aggT, J0, J1, J2, J3, J4, J5, J6, J7, J8, J9, J10, J11, J12, gv, dstAt, J13, J14, J15, J16, J17, J18, J19, J20, J21, J22, J23, J24, J25, J26, J27, J28, J29, J30, J31, J32, J33, J34, J35, J36, J37, J38, J39, J40, J41, J42, J43, J44, J45, J46, J47, J48, J49, J50, J51, J52, J53, J54, J55, J56, J57, J58, J59, aop, J60, J61, J62, evalsA, partsA, evalO, J63, J64, J65, J66, J67, J68, J69, J70, J71, updO, J72, ofArgs, J73, binV, intBin, J74, unV, J75, J76, mmV, builtinA, J77, J78, J79, J80, J81, J82, J83, J84, J85, J86, J87, J88, J89, Nat.reduceLT, Nat.reduceEqDiff, Nat.reduceAdd, Nat.reduceSub, Nat.reduceMul, reduceIte, J90, J91, J92, reduceCtorEq, J93, J94, J95, J96, J97, J98, J99, J100, t11], by simp only [und3, und4, und22, und26, und29, und45, und64, info3, info4, info22, info26, info29, info45, info64, info50, und50, aggT, J0, J1, J2, J3, J4, J5, J6, J7, J8, J9, J10, J11, J12, gv, dstAt, J13, J14, J15, J16, J17, J18, J19, J20, J21, J22, J23, J24, J25, J26, J27, J28, J29, J30, J31, J32, J33, J34, J35, J36, J37, J38, J39, J40, J41, J42, J43, J44, J45, J46, J47, J48, J49, J50, J51, J52, J53, J54, J55, J56, J57, J58, J59, aop, J60, J61, J62, evalsA, partsA, evalO, J63, J64, J65, J66, J67, J68, J69, J70, J71, updO, J72, ofArgs, J73, binV, intBin, J74, unV, J75, J76, mmV, builtinA, J77, J78, J79, J80, J81, J82, J83, J84, J85, J86, J87, J88, J89, Nat.reduceLT, Nat.reduceEqDiff, Nat.reduceAdd, Nat.reduceSub, Nat.reduceMul, reduceIte, J90, J91, J92, reduceCtorEq, J93, J94, J95, J96, J97, J98, J99, J100, t13], by simp only [und3, und4, und22, und26, und29, und45, und64, info3, info4, info22, info26, info29, info45, info64, info50, und50, aggT, J0, J1, J2, J3, J4, J5, J6, J7, J8, J9, J10, J11, J12, gv, dstAt, J13, J14, J15, J16, J17, J18, J19, J20, J21, J22, J23, J24, J25, J26, J27, J28, J29, J30, J31, J32, J33, J34, J35, J36, J37, J38, J39, J40, J41, J42, J43, J44, J45, J46, J47, J48, J49, J50, J51, J52, J53, J54, J55, J56, J57, J58, J59, aop, J60, J61, J62, evalsA, partsA, evalO, J63, J64, J65, J66, J67, J68, J69, J70, J71, updO, J72, ofArgs, J73, binV, intBin, J74, unV, J75, J76, mmV, builtinA, J77, J78, J79, J80, J81, J82, J83, J84, J85, J86, J87, J88, J89, Nat.reduceLT, Nat.reduceEqDiff, Nat.reduceAdd, Nat.reduceSub, Nat.reduceMul, reduceIte, J90, J91, J92, reduceCtorEq, J93, J94, J95, J96, J97, J98, J99, J100, t15]⟩
  clear bs2 a1 a2 a5 hE8 hW7 hK7 hW6 hTab
  rintro τ ds S9 ⟨rfl, hE9, t5, t6, t7, t8, t11, t13, t15⟩
  have hM9 := hM4.extd hE9
  have hT9 := hT4.extd hE9
  (try simp only [und3, und4, und22, und26, und29, und45, und64, info3, info4, info22, info26, info29, info45, info64, info50, und50, aggT, J0, J1, J2, J3, J4, J5, J6, J7, J8, J9, J10, J11, J12, gv, dstAt, J13, J14, J15, J16, J17, J18, J19, J20, J21, J22, J23, J24, J25, J26, J27, J28, J29, J30, J31, J32, J33, J34, J35, J36, J37, J38, J39, J40, J41, J42, J43, J44, J45, J46, J47, J48, J49, J50, J51, J52, J53, J54, J55, J56, J57, J58, J59, aop, J60, J61, J62, evalsA, partsA, evalO, J63, J64, J65, J66, J67, J68, J69, J70, J71, updO, J72, ofArgs, J73, binV, intBin, J74, unV, J75, J76, mmV, builtinA, J77, J78, J79, J80, J81, J82, J83, J84, J85, J86, J87, J88, J89, Nat.reduceLT, Nat.reduceEqDiff, Nat.reduceAdd, Nat.reduceSub, Nat.reduceMul, reduceIte, J90, J91, J92, reduceCtorEq, J93, J94, J95, J96, J97, J98, J99, J100, t5]); repeat (first | with_reducible refine W_seq ?_ | with_reducible refine W_block ?_ | with_reducible refine W_scope ?_ | ((first | with_reducible refine W_regionV hTT ?_ | with_reducible refine W_condV ?_ | with_reducible refine W_ret ?_ | with_reducible refine W_exit ?_ | with_reducible refine W_skip ?_ | with_reducible refine W_label ?_ | with_reducible refine W_drawV hTT (by kernel_rfl) ?_); try simp only [und3, und4, und22, und26, und29, und45, und64, info3, info4, info22, info26, info29, info45, info64, info50, und50, aggT, J0, J1, J2, J3, J4, J5, J6, J7, J8, J9, J10, J11, J12, gv, dstAt, J13, J14, J15, J16, J17, J18, J19, J20, J21, J22, J23, J24, J25, J26, J27, J28, J29, J30, J31, J32, J33, J34, J35, J36, J37, J38, J39, J40, J41, J42, J43, J44, J45, J46, J47, J48, J49, J50, J51, J52, J53, J54, J55, J56, J57, J58, J59, aop, J60, J61, J62, evalsA, partsA, evalO, J63, J64, J65, J66, J67, J68, J69, J70, J71, updO, J72, ofArgs, J73, binV, intBin, J74, unV, J75, J76, mmV, builtinA, J77, J78, J79, J80, J81, J82, J83, J84, J85, J86, J87, J88, J89, Nat.reduceLT, Nat.reduceEqDiff, Nat.reduceAdd, Nat.reduceSub, Nat.reduceMul, reduceIte, J90, J91, J92, reduceCtorEq, J93, J94, J95, J96, J97, J98, J99, J100, t5]))
  refine VCall_intro (kings_call hE9.ok hM9 hpc (by omega) hC) ?_
  rintro v SD ⟨ud, rfl, hKD, hED⟩
  have hs9 := hsl4.extd hE9
  have hsD := hs9.extd hED
  have hwD : Mine SD 3 1 S3.n vw (iv ((mrows N N M).map List.sum)) ((mrows N N M).map List.sum).length := hw4.same fun b hb => by
    have := (hw4.base hb).2
    rw [hED.same b (by have := hE9.n; omega), hE9.same b this]
  have e0 : (((0 : Int) != 0) = false) := rfl
  (try simp only [und3, und4, und22, und26, und29, und45, und64, info3, info4, info22, info26, info29, info45, info64, info50, und50, aggT, J0, J1, J2, J3, J4, J5, J6, J7, J8, J9, J10, J11, J12, gv, dstAt, J13, J14, J15, J16, J17, J18, J19, J20, J21, J22, J23, J24, J25, J26, J27, J28, J29, J30, J31, J32, J33, J34, J35, J36, J37, J38, J39, J40, J41, J42, J43, J44, J45, J46, J47, J48, J49, J50, J51, J52, J53, J54, J55, J56, J57, J58, J59, aop, J60, J61, J62, evalsA, partsA, evalO, J63, J64, J65, J66, J67, J68, J69, J70, J71, updO, J72, ofArgs, J73, binV, intBin, J74, unV, J75, J76, mmV, builtinA, J77, J78, J79, J80, J81, J82, J83, J84, J85, J86, J87, J88, J89, Nat.reduceLT, Nat.reduceEqDiff, Nat.reduceAdd, Nat.reduceSub, Nat.reduceMul, reduceIte, J90, J91, J92, reduceCtorEq, J93, J94, J95, J96, J97, J98, J99, J100, extractA, t5, t6, t7, t8, t11, t13, t15, e0]); repeat (first | with_reducible refine W_seq ?_ | with_reducible refine W_block ?_ | with_reducible refine W_scope ?_ | ((first | with_reducible refine W_regionV hTT ?_ | with_reducible refine W_condV ?_ | with_reducible refine W_ret ?_ | with_reducible refine W_exit ?_ | with_reducible refine W_skip ?_ | with_reducible refine W_label ?_ | with_reducible refine W_drawV hTT (by kernel_rfl) ?_); try simp only [und3, und4, und22, und26, und29, und45, und64, info3, info4, info22, info26, info29, info45, info64, info50, und50, aggT, J0, J1, J2, J3, J4, J5, J6, J7, J8, J9, J10, J11, J12, gv, dstAt, J13, J14, J15, J16, J17, J18, J19, J20, J21, J22, J23, J24, J25, J26, J27, J28, J29, J30, J31, J32, J33, J34, J35, J36, J37, J38, J39, J40, J41, J42, J43, J44, J45, J46, J47, J48, J49, J50, J51, J52, J53, J54, J55, J56, J57, J58, J59, aop, J60, J61, J62, evalsA, partsA, evalO, J63, J64, J65, J66, J67, J68, J69, J70, J71, updO, J72, ofArgs, J73, binV, intBin, J74, unV, J75, J76, mmV, builtinA, J77, J78, J79, J80, J81, J82, J83, J84, J85, J86, J87, J88, J89, Nat.reduceLT, Nat.reduceEqDiff, Nat.reduceAdd, Nat.reduceSub, Nat.reduceMul, reduceIte, J90, J91, J92, reduceCtorEq, J93, J94, J95, J96, J97, J98, J99, J100, extractA, t5, t6, t7, t8, t11, t13, t15, e0]))
  refine VCall_intro (ints_call (xs := (mrows N N M).map List.sum) (ys := (mrows N N M).map List.sum) (by rw [hsl]; exact hsD) hwD.sl (by omega)) ?_
  rintro v SE ⟨rfl, rfl⟩
  (try simp only [und3, und4, und22, und26, und29, und45, und64, info3, info4, info22, info26, info29, info45, info64, info50, und50, aggT, J0, J1, J2, J3, J4, J5, J6, J7, J8, J9, J10, J11, J12, gv, dstAt, J13, J14, J15, J16, J17, J18, J19, J20, J21, J22, J23, J24, J25, J26, J27, J28, J29, J30, J31, J32, J33, J34, J35, J36, J37, J38, J39, J40, J41, J42, J43, J44, J45, J46, J47, J48, J49, J50, J51, J52, J53, J54, J55, J56, J57, J58, J59, aop, J60, J61, J62, evalsA, partsA, evalO, J63, J64, J65, J66, J67, J68, J69, J70, J71, updO, J72, ofArgs, J73, binV, intBin, J74, unV, J75, J76, mmV, builtinA, J77, J78, J79, J80, J81, J82, J83, J84, J85, J86, J87, J88, J89, Nat.reduceLT, Nat.reduceEqDiff, Nat.reduceAdd, Nat.reduceSub, Nat.reduceMul, reduceIte, J90, J91, J92, reduceCtorEq, J93, J94, J95, J96, J97, J98, J99, J100, t5, t6, t7, t8, t11, t13, t15, e0, decide_true]); repeat (first | with_reducible refine W_seq ?_ | with_reducible refine W_block ?_ | with_reducible refine W_scope ?_ | ((first | with_reducible refine W_regionV hTT ?_ | with_reducible refine W_condV ?_ | with_reducible refine W_ret ?_ | with_reducible refine W_exit ?_ | with_reducible refine W_skip ?_ | with_reducible refine W_label ?_ | with_reducible refine W_drawV hTT (by kernel_rfl) ?_); try simp only [und3, und4, und22, und26, und29, und45, und64, info3, info4, info22, info26, info29, info45, info64, info50, und50, aggT, J0, J1, J2, J3, J4, J5, J6, J7, J8, J9, J10, J11, J12, gv, dstAt, J13, J14, J15, J16, J17, J18, J19, J20, J21, J22, J23, J24, J25, J26, J27, J28, J29, J30, J31, J32, J33, J34, J35, J36, J37, J38, J39, J40, J41, J42, J43, J44, J45, J46, J47, J48, J49, J50, J51, J52, J53, J54, J55, J56, J57, J58, J59, aop, J60, J61, J62, evalsA, partsA, evalO, J63, J64, J65, J66, J67, J68, J69, J70, J71, updO, J72, ofArgs, J73, binV, intBin, J74, unV, J75, J76, mmV, builtinA, J77, J78, J79, J80, J81, J82, J83, J84, J85, J86, J87, J88, J89, Nat.reduceLT, Nat.reduceEqDiff, Nat.reduceAdd, Nat.reduceSub, Nat.reduceMul, reduceIte, J90, J91, J92, reduceCtorEq, J93, J94, J95, J96, J97, J98, J99, J100, t5, t6, t7, t8, t11, t13, t15, e0, decide_true]))
  have hTE := hT9.extd hED
  have hME := hM9.extd hED
  have hlc := hME.len (T := TT) und22
  have hlt' := hTE.len (T := TT) und22
  rw [mrows_len] at hlc hlt'
  refine VCall_intro (refKings_call hED.ok hTE (by omega)) ?_
  rintro vk2 SF ⟨hKF, hEF⟩
  have hKD' : Mine SF 3 1 S9.n ud (iv (kings N M)) (kings N M).length := hKD.same fun b hb => hEF.same b (hKD.base hb).2
  have hlcF := (hME.extd hEF).len (T := TT) und22
  have hltF := (hTE.extd hEF).len (T := TT) und22
  rw [mrows_len] at hlcF hltF
  have e3 : (((N : Int) != N) = false) := by simp
  (try simp only [und3, und4, und22, und26, und29, und45, und64, info3, info4, info22, info26, info29, info45, info64, info50, und50, aggT, J0, J1, J2, J3, J4, J5, J6, J7, J8, J9, J10, J11, J12, gv, dstAt, J13, J14, J15, J16, J17, J18, J19, J20, J21, J22, J23, J24, J25, J26, J27, J28, J29, J30, J31, J32, J33, J34, J35, J36, J37, J38, J39, J40, J41, J42, J43, J44, J45, J46, J47, J48, J49, J50, J51, J52, J53, J54, J55, J56, J57, J58, J59, aop, J60, J61, J62, evalsA, partsA, evalO, J63, J64, J65, J66, J67, J68, J69, J70, J71, updO, J72, ofArgs, J73, binV, intBin, J74, unV, J75, J76, mmV, builtinA, J77, J78, J79, J80, J81, J82, J83, J84, J85, J86, J87, J88, J89, Nat.reduceLT, Nat.reduceEqDiff, Nat.reduceAdd, Nat.reduceSub, Nat.reduceMul, reduceIte, J90, J91, J92, reduceCtorEq, J93, J94, J95, J96, J97, J98, J99, J100, t5, t6, t7, t8, t11, t13, t15, e0, decide_true, hlcF, hltF, e3]); repeat (first | with_reducible refine W_seq ?_ | with_reducible refine W_block ?_ | with_reducible refine W_scope ?_ | ((first | with_reducible refine W_regionV hTT ?_ | with_reducible refine W_condV ?_ | with_reducible refine W_ret ?_ | with_reducible refine W_exit ?_ | with_reducible refine W_skip ?_ | with_reducible refine W_label ?_ | with_reducible refine W_drawV hTT (by kernel_rfl) ?_); try simp only [und3, und4, und22, und26, und29, und45, und64, info3, info4, info22, info26, info29, info45, info64, info50, und50, aggT, J0, J1, J2, J3, J4, J5, J6, J7, J8, J9, J10, J11, J12, gv, dstAt, J13, J14, J15, J16, J17, J18, J19, J20, J21, J22, J23, J24, J25, J26, J27, J28, J29, J30, J31, J32, J33, J34, J35, J36, J37, J38, J39, J40, J41, J42, J43, J44, J45, J46, J47, J48, J49, J50, J51, J52, J53, J54, J55, J56, J57, J58, J59, aop, J60, J61, J62, evalsA, partsA, evalO, J63, J64, J65, J66, J67, J68, J69, J70, J71, updO, J72, ofArgs, J73, binV, intBin, J74, unV, J75, J76, mmV, builtinA, J77, J78, J79, J80, J81, J82, J83, J84, J85, J86, J87, J88, J89, Nat.reduceLT, Nat.reduceEqDiff, Nat.reduceAdd, Nat.reduceSub, Nat.reduceMul, reduceIte, J90, J91, J92, reduceCtorEq, J93, J94, J95, J96, J97, J98, J99, J100, t5, t6, t7, t8, t11, t13, t15, e0, decide_true, hlcF, hltF, e3]))
  refine VCall_intro (ints_call hKD'.sl hKF.sl (by unfold kings; omega)) ?_
  rintro v SG ⟨rfl, rfl⟩
  have hMG := hME.extd hEF
  have hTG := hTE.extd hEF
  (try simp only [und3, und4, und22, und26, und29, und45, und64, info3, info4, info22, info26, info29, info45, info64, info50, und50, aggT, J0, J1, J2, J3, J4, J5, J6, J7, J8, J9, J10, J11, J12, gv, dstAt, J13, J14, J15, J16, J17, J18, J19, J20, J21, J22, J23, J24, J25, J26, J27, J28, J29, J30, J31, J32, J33, J34, J35, J36, J37, J38, J39, J40, J41, J42, J43, J44, J45, J46, J47, J48, J49, J50, J51, J52, J53, J54, J55, J56, J57, J58, J59, aop, J60, J61, J62, evalsA, partsA, evalO, J63, J64, J65, J66, J67, J68, J69, J70, J71, updO, J72, ofArgs, J73, binV, intBin, J74, unV, J75, J76, mmV, builtinA, J77, J78, J79, J80, J81, J82, J83, J84, J85, J86, J87, J88, J89, Nat.reduceLT, Nat.reduceEqDiff, Nat.reduceAdd, Nat.reduceSub, Nat.reduceMul, reduceIte, J90, J91, J92, reduceCtorEq, J93, J94, J95, J96, J97, J98, J99, J100, t5, t6, t7, t8, t11, t13, t15, e0, decide_true, hlcF, hltF, e3]); repeat (first | with_reducible refine W_seq ?_ | with_reducible refine W_scope ?_ | ((first | with_reducible refine W_regionV hTT ?_ | with_reducible refine W_condV ?_ | with_reducible refine W_ret ?_ | with_reducible refine W_exit ?_ | with_reducible refine W_skip ?_ | with_reducible refine W_label ?_ | with_reducible refine W_drawV hTT (by kernel_rfl) ?_); try simp only [und3, und4, und22, und26, und29, und45, und64, info3, info4, info22, info26, info29, info45, info64, info50, und50, aggT, J0, J1, J2, J3, J4, J5, J6, J7, J8, J9, J10, J11, J12, gv, dstAt, J13, J14, J15, J16, J17, J18, J19, J20, J21, J22, J23, J24, J25, J26, J27, J28, J29, J30, J31, J32, J33, J34, J35, J36, J37, J38, J39, J40, J41, J42, J43, J44, J45, J46, J47, J48, J49, J50, J51, J52, J53, J54, J55, J56, J57, J58, J59, aop, J60, J61, J62, evalsA, partsA, evalO, J63, J64, J65, J66, J67, J68, J69, J70, J71, updO, J72, ofArgs, J73, binV, intBin, J74, unV, J75, J76, mmV, builtinA, J77, J78, J79, J80, J81, J82, J83, J84, J85, J86, J87, J88, J89, Nat.reduceLT, Nat.reduceEqDiff, Nat.reduceAdd, Nat.reduceSub, Nat.reduceMul, reduceIte, J90, J91, J92, reduceCtorEq, J93, J94, J95, J96, J97, J98, J99, J100, t5, t6, t7, t8, t11, t13, t15, e0, decide_true, hlcF, hltF, e3]))
  refine W_block ?_
  refine W_loopI (fun m τ ds S' => ds = [] ∧ S' = SG ∧ ∃ i : Nat, m = N - i ∧ i ≤ N ∧ τ 5 = vc ∧ τ 6 = vt ∧ τ 21 = .int .i64 i) N ?_ ?_
  · refine ⟨rfl, rfl, 0, by omega, by omega, ?_, ?_, ?_⟩ <;> first | rfl | simp only [und3, und4, und22, und26, und29, und45, und64, info3, info4, info22, info26, info29, info45, info64, info50, und50, aggT, J0, J1, J2, J3, J4, J5, J6, J7, J8, J9, J10, J11, J12, gv, dstAt, J13, J14, J15, J16, J17, J18, J19, J20, J21, J22, J23, J24, J25, J26, J27, J28, J29, J30, J31, J32, J33, J34, J35, J36, J37, J38, J39, J40, J41, J42, J43, J44, J45, J46, J47, J48, J49, J50, J51, J52, J53, J54, J55, J56, J57, J58, J59, aop, J60, J61, J62, evalsA, partsA, evalO, J63, J64, J65, J66, J67, J68, J69, J70, J71, updO, J72, ofArgs, J73, binV, intBin, J74, unV, J75, J76, mmV, builtinA, J77, J78, J79, J80, J81, J82, J83, J84, J85, J86, J87, J88, J89, Nat.reduceLT, Nat.reduceEqDiff, Nat.reduceAdd, Nat.reduceSub, Nat.reduceMul, reduceIte, J90, J91, J92, reduceCtorEq, J93, J94, J95, J96, J97, J98, J99, J100, t5, t6]
  clear t5 t6 t7 t8 t11 t13 t15
  rintro m τ ds SH ⟨rfl, rfl, i, rfl, hi, t5, t6, t21⟩
  by_cases hlt : i < N
  · have e1 : decide ((i : Int) < N) = true := by simpa using hlt
    have hwi := wrap_succ (k := i) (by omega)
    obtain ⟨p, rv, p1, p2, hr1, _⟩ := hMG.row (T := TT) (k := .i64) und22 info26 und26 rfl (i := i) (by rw [mrows_len]; exact hlt)
    obtain ⟨q, rw', q1, q2, hr2, _⟩ := hTG.row (T := TT) (k := .i64) und22 info26 und26 rfl (i := i) (by rw [mrows_len]; exact hlt)
    repeat (first | with_reducible refine W_seq ?_ | with_reducible refine W_block ?_ | with_reducible refine W_scope ?_ | ((first | with_reducible refine W_regionV hTT ?_ | with_reducible refine W_condV ?_ | with_reducible refine W_ret ?_ | with_reducible refine W_exit ?_ | with_reducible refine W_skip ?_ | with_reducible refine W_label ?_ | with_reducible refine W_drawV hTT (by kernel_rfl) ?_); try simp only [und3, und4, und22, und26, und29, und45, und64, info3, info4, info22, info26, info29, info45, info64, info50, und50, aggT, J0, J1, J2, J3, J4, J5, J6, J7, J8, J9, J10, J11, J12, gv, dstAt, J13, J14, J15, J16, J17, J18, J19, J20, J21, J22, J23, J24, J25, J26, J27, J28, J29, J30, J31, J32, J33, J34, J35, J36, J37, J38, J39, J40, J41, J42, J43, J44, J45, J46, J47, J48, J49, J50, J51, J52, J53, J54, J55, J56, J57, J58, J59, aop, J60, J61, J62, evalsA, partsA, evalO, J63, J64, J65, J66, J67, J68, J69, J70, J71, updO, J72, ofArgs, J73, binV, intBin, J74, unV, J75, J76, mmV, builtinA, J77, J78, J79, J80, J81, J82, J83, J84, J85, J86, J87, J88, J89, Nat.reduceLT, Nat.reduceEqDiff, Nat.reduceAdd, Nat.reduceSub, Nat.reduceMul, reduceIte, J90, J91, J92, reduceCtorEq, J93, J94, J95, J96, J97, J98, J99, J100, t5, t6, t21, hlcF, e1, p1, p2, q1, q2]))
    refine VCall_intro (ints_call hr1 hr2 (by rw [mrows_get, mrow_len]; omega)) ?_
    rintro v SI ⟨rfl, rfl⟩
    (try simp only [und3, und4, und22, und26, und29, und45, und64, info3, info4, info22, info26, info29, info45, info64, info50, und50, aggT, J0, J1, J2, J3, J4, J5, J6, J7, J8, J9, J10, J11, J12, gv, dstAt, J13, J14, J15, J16, J17, J18, J19, J20, J21, J22, J23, J24, J25, J26, J27, J28, J29, J30, J31, J32, J33, J34, J35, J36, J37, J38, J39, J40, J41, J42, J43, J44, J45, J46, J47, J48, J49, J50, J51, J52, J53, J54, J55, J56, J57, J58, J59, aop, J60, J61, J62, evalsA, partsA, evalO, J63, J64, J65, J66, J67, J68, J69, J70, J71, updO, J72, ofArgs, J73, binV, intBin, J74, unV, J75, J76, mmV, builtinA, J77, J78, J79, J80, J81, J82, J83, J84, J85, J86, J87, J88, J89, Nat.reduceLT, Nat.reduceEqDiff, Nat.reduceAdd, Nat.reduceSub, Nat.reduceMul, reduceIte, J90, J91, J92, reduceCtorEq, J93, J94, J95, J96, J97, J98, J99, J100, t5, t6, t21, decide_true, hwi]); repeat (first | with_reducible refine W_seq ?_ | with_reducible refine W_block ?_ | with_reducible refine W_scope ?_ | ((first | with_reducible refine W_regionV hTT ?_ | with_reducible refine W_condV ?_ | with_reducible refine W_ret ?_ | with_reducible refine W_exit ?_ | with_reducible refine W_skip ?_ | with_reducible refine W_label ?_ | with_reducible refine W_drawV hTT (by kernel_rfl) ?_); try simp only [und3, und4, und22, und26, und29, und45, und64, info3, info4, info22, info26, info29, info45, info64, info50, und50, aggT, J0, J1, J2, J3, J4, J5, J6, J7, J8, J9, J10, J11, J12, gv, dstAt, J13, J14, J15, J16, J17, J18, J19, J20, J21, J22, J23, J24, J25, J26, J27, J28, J29, J30, J31, J32, J33, J34, J35, J36, J37, J38, J39, J40, J41, J42, J43, J44, J45, J46, J47, J48, J49, J50, J51, J52, J53, J54, J55, J56, J57, J58, J59, aop, J60, J61, J62, evalsA, partsA, evalO, J63, J64, J65, J66, J67, J68, J69, J70, J71, updO, J72, ofArgs, J73, binV, intBin, J74, unV, J75, J76, mmV, builtinA, J77, J78, J79, J80, J81, J82, J83, J84, J85, J86, J87, J88, J89, Nat.reduceLT, Nat.reduceEqDiff, Nat.reduceAdd, Nat.reduceSub, Nat.reduceMul, reduceIte, J90, J91, J92, reduceCtorEq, J93, J94, J95, J96, J97, J98, J99, J100, t5, t6, t21, decide_true, hwi]))
    refine LoopQ_intro (N - (i + 1)) (by omega) ⟨rfl, rfl, i + 1, rfl, by omega, by simp only [und3, und4, und22, und26, und29, und45, und64, info3, info4, info22, info26, info29, info45, info64, info50, und50, aggT, J0, J1, J2, J3, J4, J5, J6, J7, J8, J9, J10, J11, J12, gv, dstAt, J13, J14, J15, J16, J17, J18, J19, J20, J21, J22, J23, J24, J25, J26, J27, J28, J29, J30, J31, J32, J33, J34, J35, J36, J37, J38, J39, J40, J41, J42, J43, J44, J45, J46, J47, J48, J49, J50, J51, J52, J53, J54, J55, J56, J57, J58, J59, aop, J60, J61, J62, evalsA, partsA, evalO, J63, J64, J65, J66, J67, J68, J69, J70, J71, updO, J72, ofArgs, J73, binV, intBin, J74, unV, J75, J76, mmV, builtinA, J77, J78, J79, J80, J81, J82, J83, J84, J85, J86, J87, J88, J89, Nat.reduceLT, Nat.reduceEqDiff, Nat.reduceAdd, Nat.reduceSub, Nat.reduceMul, reduceIte, J90, J91, J92, reduceCtorEq, J93, J94, J95, J96, J97, J98, J99, J100, t5], by simp only [und3, und4, und22, und26, und29, und45, und64, info3, info4, info22, info26, info29, info45, info64, info50, und50, aggT, J0, J1, J2, J3, J4, J5, J6, J7, J8, J9, J10, J11, J12, gv, dstAt, J13, J14, J15, J16, J17, J18, J19, J20, J21, J22, J23, J24, J25, J26, J27, J28, J29, J30, J31, J32, J33, J34, J35, J36, J37, J38, J39, J40, J41, J42, J43, J44, J45, J46, J47, J48, J49, J50, J51, J52, J53, J54, J55, J56, J57, J58, J59, aop, J60, J61, J62, evalsA, partsA, evalO, J63, J64, J65, J66, J67, J68, J69, J70, J71, updO, J72, ofArgs, J73, binV, intBin, J74, unV, J75, J76, mmV, builtinA, J77, J78, J79, J80, J81, J82, J83, J84, J85, J86, J87, J88, J89, Nat.reduceLT, Nat.reduceEqDiff, Nat.reduceAdd, Nat.reduceSub, Nat.reduceMul, reduceIte, J90, J91, J92, reduceCtorEq, J93, J94, J95, J96, J97, J98, J99, J100, t6], by simp only [und3, und4, und22, und26, und29, und45, und64, info3, info4, info22, info26, info29, info45, info64, info50, und50, aggT, J0, J1, J2, J3, J4, J5, J6, J7, J8, J9, J10, J11, J12, gv, dstAt, J13, J14, J15, J16, J17, J18, J19, J20, J21, J22, J23, J24, J25, J26, J27, J28, J29, J30, J31, J32, J33, J34, J35, J36, J37, J38, J39, J40, J41, J42, J43, J44, J45, J46, J47, J48, J49, J50, J51, J52, J53, J54, J55, J56, J57, J58, J59, aop, J60, J61, J62, evalsA, partsA, evalO, J63, J64, J65, J66, J67, J68, J69, J70, J71, updO, J72, ofArgs, J73, binV, intBin, J74, unV, J75, J76, mmV, builtinA, J77, J78, J79, J80, J81, J82, J83, J84, J85, J86, J87, J88, J89, Nat.reduceLT, Nat.reduceEqDiff, Nat.reduceAdd, Nat.reduceSub, Nat.reduceMul, reduceIte, J90, J91, J92, reduceCtorEq, J93, J94, J95, J96, J97, J98, J99, J100, t21, hwi]⟩
  · have e1 : decide ((i : Int) < N) = false := by simpa using hlt
    repeat (first | with_reducible refine W_seq ?_ | with_reducible refine W_block ?_ | with_reducible refine W_scope ?_ | ((first | with_reducible refine W_regionV hTT ?_ | with_reducible refine W_condV ?_ | with_reducible refine W_ret ?_ | with_reducible refine W_exit ?_ | with_reducible refine W_skip ?_ | with_reducible refine W_label ?_ | with_reducible refine W_drawV hTT (by kernel_rfl) ?_); try simp only [und3, und4, und22, und26, und29, und45, und64, info3, info4, info22, info26, info29, info45, info64, info50, und50, aggT, J0, J1, J2, J3, J4, J5, J6, J7, J8, J9, J10, J11, J12, gv, dstAt, J13, J14, J15, J16, J17, J18, J19, J20, J21, J22, J23, J24, J25, J26, J27, J28, J29, J30, J31, J32, J33, J34, J35, J36, J37, J38, J39, J40, J41, J42, J43, J44, J45, J46, J47, J48, J49, J50, J51, J52, J53, J54, J55, J56, J57, J58, J59, aop, J60, J61, J62, evalsA, partsA, evalO, J63, J64, J65, J66, J67, J68, J69, J70, J71, updO, J72, ofArgs, J73, binV, intBin, J74, unV, J75, J76, mmV, builtinA, J77, J78, J79, J80, J81, J82, J83, J84, J85, J86, J87, J88, J89, Nat.reduceLT, Nat.reduceEqDiff, Nat.reduceAdd, Nat.reduceSub, Nat.reduceMul, reduceIte, J90, J91, J92, reduceCtorEq, J93, J94, J95, J96, J97, J98, J99, J100, t5, t6, t21, hlcF, e1]))
    refine VCall_intro (awake_call _) ?_
    rintro v SJ rfl
    (try simp only [und3, und4, und22, und26, und29, und45, und64, info3, info4, info22, info26, info29, info45, info64, info50, und50, aggT, J0, J1, J2, J3, J4, J5, J6, J7, J8, J9, J10, J11, J12, gv, dstAt, J13, J14, J15, J16, J17, J18, J19, J20, J21, J22, J23, J24, J25, J26, J27, J28, J29, J30, J31, J32, J33, J34, J35, J36, J37, J38, J39, J40, J41, J42, J43, J44, J45, J46, J47, J48, J49, J50, J51, J52, J53, J54, J55, J56, J57, J58, J59, aop, J60, J61, J62, evalsA, partsA, evalO, J63, J64, J65, J66, J67, J68, J69, J70, J71, updO, J72, ofArgs, J73, binV, intBin, J74, unV, J75, J76, mmV, builtinA, J77, J78, J79, J80, J81, J82, J83, J84, J85, J86, J87, J88, J89, Nat.reduceLT, Nat.reduceEqDiff, Nat.reduceAdd, Nat.reduceSub, Nat.reduceMul, reduceIte, J90, J91, J92, reduceCtorEq, J93, J94, J95, J96, J97, J98, J99, J100]); repeat (first | with_reducible refine W_seq ?_ | with_reducible refine W_block ?_ | with_reducible refine W_scope ?_ | ((first | with_reducible refine W_regionV hTT ?_ | with_reducible refine W_condV ?_ | with_reducible refine W_ret ?_ | with_reducible refine W_exit ?_ | with_reducible refine W_skip ?_ | with_reducible refine W_label ?_ | with_reducible refine W_drawV hTT (by kernel_rfl) ?_); try simp only [und3, und4, und22, und26, und29, und45, und64, info3, info4, info22, info26, info29, info45, info64, info50, und50, aggT, J0, J1, J2, J3, J4, J5, J6, J7, J8, J9, J10, J11, J12, gv, dstAt, J13, J14, J15, J16, J17, J18, J19, J20, J21, J22, J23, J24, J25, J26, J27, J28, J29, J30, J31, J32, J33, J34, J35, J36, J37, J38, J39, J40, J41, J42, J43, J44, J45, J46, J47, J48, J49, J50, J51, J52, J53, J54, J55, J56, J57, J58, J59, aop, J60, J61, J62, evalsA, partsA, evalO, J63, J64, J65, J66, J67, J68, J69, J70, J71, updO, J72, ofArgs, J73, binV, intBin, J74, unV, J75, J76, mmV, builtinA, J77, J78, J79, J80, J81, J82, J83, J84, J85, J86, J87, J88, J89, Nat.reduceLT, Nat.reduceEqDiff, Nat.reduceAdd, Nat.reduceSub, Nat.reduceMul, reduceIte, J90, J91, J92, reduceCtorEq, J93, J94, J95, J96, J97, J98, J99, J100]))
end Go.Proofs.Sz
end
