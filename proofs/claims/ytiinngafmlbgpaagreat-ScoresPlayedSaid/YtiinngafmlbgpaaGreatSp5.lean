/- A run on an abstract store, proved right for every world, and the functions of the law walked by it: part 6 of 7. -/
import Derived.Test.YtiinngafmlbgpaaGreatSp4
import Derived.Test.YtiinngafmlbgpaaGreatSp1
import Derived.Test.YtiinngafmlbgpaaGreatProg
import Derived.KernelRfl
set_option linter.unusedSimpArgs false
set_option linter.unusedVariables false
/- part Zkf -/
section
namespace Go.Proofs.Sz
open Go Go.Ax Go.Proofs Go.RowKit
theorem fn42 : TT.fn 42 = some Tryz.f42 := by kernel_rfl
theorem rowAt {S : St} {b : Nat} {v : Value} {r : List Nat} (h : RowW S b v (nl r)) {i : Nat} (hi : i < r.length) : indexAddrA TT 26 (.int .i64 i) v = some (.pointer (some ⟨b, i, none⟩)) ∧ loadA TT S 3 (.pointer (some ⟨b, i, none⟩)) = some (.int .i64 (r.getD i 0 : Nat)) := by
  refine ⟨h.addr (by rw [nl_len]; exact hi), ?_⟩
  rw [h.load (by rw [nl_len]; exact hi)]
  congr 2
  have := nl_getD r i
  rw [List.getD_eq_getElem?_getD, List.getElem?_eq_getElem (by rw [nl_len]; exact hi)] at this
  exact this
theorem RowW.extd {S S' : St} {b : Nat} {v : Value} {xs : List Int} (h : RowW S b v xs) (hE : Ext S S') : RowW S' b v xs := by
  obtain ⟨⟨c, g, h1, h2, h3, h4⟩⟩ := h
  exact ⟨⟨c, g, h1, h2, hE.get h3, h4⟩⟩
theorem RowW.lt {S : St} {b : Nat} {v : Value} {xs : List Int} (h : RowW S b v xs) : b < S.n := by
  obtain ⟨⟨c, g, h1, h2, h3, h4⟩⟩ := h
  exact lt_of_get h3
theorem rowOf {S : St} {lo n : Nat} {v : Value} {xs : List Int} (h : Mine S 3 1 lo v (iv xs) n) (hn : 0 < n) (hl : xs.length = n) : ∃ b, lo ≤ b ∧ RowW S b v xs := by
  rcases h with ⟨_, _, h0⟩ | ⟨b, rfl, h1, h2, _⟩
  · omega
  · exact ⟨b, h1, ⟨⟨BIG, 1, by rw [hl], .inr ⟨rfl, rfl⟩, h2, .inr rfl⟩⟩⟩
theorem insL_nl (r : List Nat) (k v : Nat) : insL (nl r) k v = nl (insN r k v) := by simp [insL, nl, insN, List.map_take, List.map_drop]
/-- append of two numbers -/
theorem push_two {S : St} {lo n : Nat} {v : Value} {cs : List Value} {x y : Int} (h : Mine S 3 1 lo v cs n) (hok : S.ok) (hlo : lo ≤ S.n) (hn : n < 1000) :
    ∃ v' S', appendOpA TT (S.push (.cells [.int .i64 x, .int .i64 y] 3 0)) 26 26 v (.slice (some ⟨S.n, 0, none⟩) 2 2) = some (v', S') ∧ Mine S' 3 1 lo v' (cs ++ [.int .i64 x, .int .i64 y]) (n + 2) ∧ But v S S' := by
  have h' : Mine (S.push (.cells [.int .i64 x, .int .i64 y] 3 0)) 3 1 lo v cs n := h.same fun b hb => get_push_ne _ (by have := (h.base hb).2; omega)
  have hx : Sl (S.push (.cells [.int .i64 x, .int .i64 y] 3 0)) 1 (.slice (some ⟨S.n, 0, none⟩) 2 2) [.int .i64 x, .int .i64 y] 2 := Sl.of_cells (get_push_new _ rfl) rfl (by unfold BIG; omega) (Nat.le_refl _)
  have hg : growOk ⟨.int .i64 0, 1, 8⟩ (n + 2) = true := grow_ok (by simp only; omega) (by omega)
  obtain ⟨v', S', a1, a2, a3, a4⟩ := h'.append (T := TT) (ty := 26) (ty2 := 26) (x := .slice (some ⟨S.n, 0, none⟩) 2 2) (m := 2) (news := [.int .i64 x, .int .i64 y]) (by rw [ok_push_iff]; exact hok) (by rw [push_n]; omega) und26 und26 rfl info3 rfl (by omega) rfl hx.lenA hx.src rfl rfl hg
  have hn3 := a3.n
  rw [push_n] at hn3
  exact ⟨v', S', a1, a2, ⟨a3.ok, by omega, fun i hi hb => by rw [a3.same i (by rw [push_n]; omega) hb, get_push_ne _ (by omega)], by rw [a3.mono, push_mono]⟩⟩
theorem bs_two3 {S : St} {x y : Int} : buildSliceA TT S 26 2 [(0, .int .i64 x), (1, .int .i64 y)] = some (.slice (some ⟨S.n, 0, none⟩) 2 2, S.push (.cells [.int .i64 x, .int .i64 y] 3 0)) := by
  have h1 : zeroRow (.int .i64 0) (2 * 1) = #[.int .i64 0, .int .i64 0] := by
    apply Array.ext'
    rw [zeroRow_one rfl]
    rfl
  have h2 : Instr.fill (fun j => some (j * 1, 1)) (zeroRow (.int .i64 0) (2 * 1)) [(0, .int .i64 x), (1, .int .i64 y)] = some #[.int .i64 x, .int .i64 y] := by
    rw [h1]
    simp [Instr.fill, Value.cells]
  simp only [buildSliceA, und26, info3, h2]
  rw [if_pos ⟨by rw [zeroRow_one rfl]; rfl, by omega⟩, if_pos (by unfold BIG; omega)]
/-- clone of a row -/
theorem cloneRow_call {S : St} (hok : S.ok) {b : Nat} {v : Value} {xs : List Int} (h : RowW S b v xs) (h0 : 0 < xs.length) (hn : xs.length < 1000) :
    CallW PP 28 [v] S (fun u S' => Mine S' 3 1 S.n u (iv xs) xs.length ∧ Ext S S') := by
  have hsl := h.sl
  obtain ⟨⟨c, g, rfl, _⟩⟩ := h
  refine (clone_call hok hsl h0 hn).mono ?_
  rintro u S' ⟨⟨b', h1, rfl, h2⟩, hE⟩
  exact ⟨.inr ⟨b', rfl, h1, h2, by rw [iv_len, Nat.mul_one]⟩, hE⟩
theorem listAt {S : St} {v : Value} {L : List Nat} (h : Sl S 1 v (iv (nl L)) L.length) {i : Nat} (hi : i < L.length) : ∃ p, indexAddrA TT 26 (.int .i64 i) v = some p ∧ loadA TT S 3 p = some (.int .i64 (L.getD i 0 : Nat)) := by
  obtain ⟨p, p1, p2, _⟩ := h.at1 (T := TT) (k := .i64) und26 info3 und3 rfl rfl hi
  refine ⟨p, p1, ?_⟩
  rw [p2, iv_get, nl_get, List.getElem?_eq_getElem hi, List.getD_eq_getElem?_getD, List.getElem?_eq_getElem hi]
  rfl
theorem nl_mem {r : List Nat} {v : Nat} : ((v : Int) ∈ nl r) ↔ v ∈ r := by
  unfold nl
  rw [List.mem_map]
  constructor
  · rintro ⟨a, ha, e⟩
    have : a = v := by omega
    rwa [this] at ha
  · intro h
    exact ⟨v, h, rfl⟩
theorem nl_append (a b : List Nat) : nl (a ++ b) = nl a ++ nl b := by simp [nl]
def undL (M : Nat → Nat → Int) (r : List Nat) (k : Nat) : List Nat := (List.range k).filter fun v => decide (v ∉ r ∧ M (r.getD 0 0) v = 1)
def ovrL (M : Nat → Nat → Int) (r : List Nat) (k : Nat) : List Nat := (List.range k).filter fun v => decide (v ∉ r ∧ ¬ M (r.getD 0 0) v = 1)
theorem filt_succ (p : Nat → Bool) (k : Nat) : (List.range (k + 1)).filter p = (List.range k).filter p ++ (if p k = true then [k] else []) := by
  rw [List.range_succ, List.filter_append]
  cases h : p k <;> simp [h]
theorem filt_len (p : Nat → Bool) (k : Nat) : ((List.range k).filter p).length ≤ k := by
  have := List.length_filter_le p (List.range k)
  rwa [List.length_range] at this
set_option maxHeartbeats 8000000 in
/-- longer -/
theorem longer_call {S : St} (hok : S.ok) {vl : Value} {n : Nat} {M : Nat → Nat → Int} (hx : Mat S vl (mrows n n M)) (hn : n ≤ 30) (hC : IsC n M) {b0 : Nat} {va : Value} {r : List Nat} (hR : RowW S b0 va (nl r)) (hcy : Cyc n M r) (hrn : r.length < n) :
    CallW PP 42 [vl, va] S (fun v S' => Ext S S' ∧ ((∃ r' b', S.n ≤ b' ∧ RowW S' b' v (nl r') ∧ Cyc n M r' ∧ r.length < r'.length) ∨ (v = .slice none 0 0 ∧ ∃ A, Over n M A))) := by
  have hla := hx.len (T := TT) und22
  rw [mrows_len] at hla
  have hrl := hR.sl.len (T := TT) und26
  rw [nl_len] at hrl
  have hr0 := hcy.pos
  have hm0 := getD_mem hr0
  refine CallW_of hTT fn42 rfl (by simp [Tryz.f42]) ?_
  unfold Tryz.f42
  repeat (first | with_reducible (first | refine W_seq ?_ | refine W_scope ?_ | refine W_regionV hTT ?_ | refine W_condV ?_ | refine W_ret ?_ | refine W_exit ?_ | refine W_skip ?_ | refine W_label ?_ | refine W_drawV hTT (by kernel_rfl) ?_) | simp only [H0, J86, J87, und3, und4, und22, und26, und29, und45, und64, info3, info4, info22, info26, info29, info45, info64, info50, und50, aggT, gv, dstAt, aop, evalsA, partsA, evalO, updO, ofArgs, binV, intBin, unV, mmV, builtinA, Nat.reduceLT, Nat.reduceEqDiff, Nat.reduceAdd, Nat.reduceSub, Nat.reduceMul, ↓reduceIte, reduceCtorEq, hla])
  refine W_block ?_
  refine W_loopI (fun m τ ds S' => Ext S S' ∧ ds = [] ∧ ∃ (k : Nat) (vu vo : Value), m = n - k ∧ k ≤ n ∧ τ 0 = vl ∧ τ 1 = va ∧ τ 5 = vu ∧ τ 6 = vo ∧ τ 16 = .int .i64 n ∧ τ 17 = .int .i64 k ∧ Mine S' 3 1 S.n vu (iv (nl (undL M r k))) (undL M r k).length ∧ Mine S' 3 1 S.n vo (iv (nl (ovrL M r k))) (ovrL M r k).length ∧ (∀ b, baseOf vu = some b → baseOf vo ≠ some b) ∧
    ∀ v, v < k → v ∉ r → ∀ i, i < r.length → ¬ (M (r.getD i 0) v = 1 ∧ M v (r.getD ((i + 1) % r.length) 0) = 1)) n ?_ ?_
  · refine ⟨Ext.refl hok, rfl, 0, .slice none 0 0, .slice none 0 0, by omega, by omega, ?_, ?_, ?_, ?_, ?_, ?_, .nil _ _ _ _, .nil _ _ _ _, fun b h => (by cases h), fun v h => (by omega)⟩ <;> first | rfl | simp only [H0, J86, J87, und3, und4, und22, und26, und29, und45, und64, info3, info4, info22, info26, info29, info45, info64, info50, und50, aggT, gv, dstAt, aop, evalsA, partsA, evalO, updO, ofArgs, binV, intBin, unV, mmV, builtinA, Nat.reduceLT, Nat.reduceEqDiff, Nat.reduceAdd, Nat.reduceSub, Nat.reduceMul, ↓reduceIte, reduceCtorEq]
  rintro m τ ds S1 ⟨hE, rfl, k, vu, vo, rfl, hk, t0, t1, t5, t6, t16, t17, hU, hO, hne, hno⟩
  have hx1 := hx.extd hE
  have hR1 := hR.extd hE
  have hla1 := hx1.len (T := TT) und22
  rw [mrows_len] at hla1
  have hrl1 := hR1.sl.len (T := TT) und26
  rw [nl_len] at hrl1
  have hn1 := hE.n
  have hus := undL M r k
  have hul : (undL M r k).length ≤ k := filt_len _ _
  have hol : (ovrL M r k).length ≤ k := filt_len _ _
  by_cases hkn : k < n
  · have e1 : decide ((k : Int) < n) = true := by simpa using hkn
    have hw := wrap_succ (k := k) (by omega)
    repeat (first | with_reducible (first | refine W_seq ?_ | refine W_scope ?_ | refine W_regionV hTT ?_ | refine W_condV ?_ | refine W_ret ?_ | refine W_exit ?_ | refine W_skip ?_ | refine W_label ?_ | refine W_drawV hTT (by kernel_rfl) ?_) | simp only [H0, J86, J87, und3, und4, und22, und26, und29, und45, und64, info3, info4, info22, info26, info29, info45, info64, info50, und50, aggT, gv, dstAt, aop, evalsA, partsA, evalO, updO, ofArgs, binV, intBin, unV, mmV, builtinA, Nat.reduceLT, Nat.reduceEqDiff, Nat.reduceAdd, Nat.reduceSub, Nat.reduceMul, ↓reduceIte, reduceCtorEq, t0, t1, t5, t6, t16, t17, e1])
    refine W_block ?_
    repeat (first | with_reducible (first | refine W_seq ?_ | refine W_block ?_ | refine W_scope ?_ | refine W_regionV hTT ?_ | refine W_condV ?_ | refine W_ret ?_ | refine W_exit ?_ | refine W_skip ?_ | refine W_label ?_ | refine W_drawV hTT (by kernel_rfl) ?_) | simp only [H0, J86, J87, und3, und4, und22, und26, und29, und45, und64, info3, info4, info22, info26, info29, info45, info64, info50, und50, aggT, gv, dstAt, aop, evalsA, partsA, evalO, updO, ofArgs, binV, intBin, unV, mmV, builtinA, Nat.reduceLT, Nat.reduceEqDiff, Nat.reduceAdd, Nat.reduceSub, Nat.reduceMul, ↓reduceIte, reduceCtorEq, t0, t1, t5, t6, t16, t17])
    refine VCall_intro (contains_call hR1.sl (by rw [nl_len]; omega) k) ?_
    rintro v S2 ⟨rfl, rfl⟩
    by_cases hkr : k ∈ r
    · have e2 : decide ((k : Int) ∈ nl r) = true := decide_eq_true (nl_mem.2 hkr)
      have hu1 : undL M r (k + 1) = undL M r k := by unfold undL; rw [filt_succ, if_neg (by simp [hkr]), List.append_nil]
      have ho1 : ovrL M r (k + 1) = ovrL M r k := by unfold ovrL; rw [filt_succ, if_neg (by simp [hkr]), List.append_nil]
      repeat (first | with_reducible (first | refine W_seq ?_ | refine W_block ?_ | refine W_scope ?_ | refine W_regionV hTT ?_ | refine W_condV ?_ | refine W_ret ?_ | refine W_exit ?_ | refine W_skip ?_ | refine W_label ?_ | refine W_drawV hTT (by kernel_rfl) ?_) | simp only [H0, J86, J87, und3, und4, und22, und26, und29, und45, und64, info3, info4, info22, info26, info29, info45, info64, info50, und50, aggT, gv, dstAt, aop, evalsA, partsA, evalO, updO, ofArgs, binV, intBin, unV, mmV, builtinA, Nat.reduceLT, Nat.reduceEqDiff, Nat.reduceAdd, Nat.reduceSub, Nat.reduceMul, ↓reduceIte, reduceCtorEq, t0, t1, t5, t6, t16, t17, e2, hw])
      refine LoopQ_intro (n - (k + 1)) (by omega) ⟨hE, rfl, k + 1, vu, vo, rfl, by omega, by simp only [H0, J86, J87, und3, und4, und22, und26, und29, und45, und64, info3, info4, info22, info26, info29, info45, info64, info50, und50, aggT, gv, dstAt, aop, evalsA, partsA, evalO, updO, ofArgs, binV, intBin, unV, mmV, builtinA, Nat.reduceLT, Nat.reduceEqDiff, Nat.reduceAdd, Nat.reduceSub, Nat.reduceMul, ↓reduceIte, reduceCtorEq, t0], by simp only [H0, J86, J87, und3, und4, und22, und26, und29, und45, und64, info3, info4, info22, info26, info29, info45, info64, info50, und50, aggT, gv, dstAt, aop, evalsA, partsA, evalO, updO, ofArgs, binV, intBin, unV, mmV, builtinA, Nat.reduceLT, Nat.reduceEqDiff, Nat.reduceAdd, Nat.reduceSub, Nat.reduceMul, ↓reduceIte, reduceCtorEq, t1], by simp only [H0, J86, J87, und3, und4, und22, und26, und29, und45, und64, info3, info4, info22, info26, info29, info45, info64, info50, und50, aggT, gv, dstAt, aop, evalsA, partsA, evalO, updO, ofArgs, binV, intBin, unV, mmV, builtinA, Nat.reduceLT, Nat.reduceEqDiff, Nat.reduceAdd, Nat.reduceSub, Nat.reduceMul, ↓reduceIte, reduceCtorEq, t5], by simp only [H0, J86, J87, und3, und4, und22, und26, und29, und45, und64, info3, info4, info22, info26, info29, info45, info64, info50, und50, aggT, gv, dstAt, aop, evalsA, partsA, evalO, updO, ofArgs, binV, intBin, unV, mmV, builtinA, Nat.reduceLT, Nat.reduceEqDiff, Nat.reduceAdd, Nat.reduceSub, Nat.reduceMul, ↓reduceIte, reduceCtorEq, t6], by simp only [H0, J86, J87, und3, und4, und22, und26, und29, und45, und64, info3, info4, info22, info26, info29, info45, info64, info50, und50, aggT, gv, dstAt, aop, evalsA, partsA, evalO, updO, ofArgs, binV, intBin, unV, mmV, builtinA, Nat.reduceLT, Nat.reduceEqDiff, Nat.reduceAdd, Nat.reduceSub, Nat.reduceMul, ↓reduceIte, reduceCtorEq, t16], by simp only [H0, J86, J87, und3, und4, und22, und26, und29, und45, und64, info3, info4, info22, info26, info29, info45, info64, info50, und50, aggT, gv, dstAt, aop, evalsA, partsA, evalO, updO, ofArgs, binV, intBin, unV, mmV, builtinA, Nat.reduceLT, Nat.reduceEqDiff, Nat.reduceAdd, Nat.reduceSub, Nat.reduceMul, ↓reduceIte, reduceCtorEq, t17, hw], by rw [hu1]; exact hU, by rw [ho1]; exact hO, hne, ?_⟩
      intro v hv hvr
      by_cases e : v = k
      · subst e; exact absurd hkr hvr
      · exact hno v (by omega) hvr
    · have e2 : decide ((k : Int) ∈ nl r) = false := decide_eq_false (fun h => hkr (nl_mem.1 h))
      repeat (first | with_reducible (first | refine W_seq ?_ | refine W_scope ?_ | refine W_regionV hTT ?_ | refine W_condV ?_ | refine W_ret ?_ | refine W_exit ?_ | refine W_skip ?_ | refine W_label ?_ | refine W_drawV hTT (by kernel_rfl) ?_) | simp only [H0, J86, J87, und3, und4, und22, und26, und29, und45, und64, info3, info4, info22, info26, info29, info45, info64, info50, und50, aggT, gv, dstAt, aop, evalsA, partsA, evalO, updO, ofArgs, binV, intBin, unV, mmV, builtinA, Nat.reduceLT, Nat.reduceEqDiff, Nat.reduceAdd, Nat.reduceSub, Nat.reduceMul, ↓reduceIte, reduceCtorEq, t0, t1, t5, t6, t16, t17, e2, hrl1])
      refine W_block ?_
      refine W_loopI (fun m τ ds S' => S' = S2 ∧ ds = [] ∧ ∃ i : Nat, m = r.length - i ∧ i ≤ r.length ∧ τ 0 = vl ∧ τ 1 = va ∧ τ 5 = vu ∧ τ 6 = vo ∧ τ 16 = .int .i64 n ∧ τ 17 = .int .i64 k ∧ τ 7 = .int .i64 k ∧ τ 23 = va ∧ τ 24 = .int .i64 r.length ∧ τ 25 = .int .i64 i ∧ ∀ j, j < i → ¬ (M (r.getD j 0) k = 1 ∧ M k (r.getD ((j + 1) % r.length) 0) = 1)) r.length ?_ ?_
      · refine ⟨rfl, rfl, 0, by omega, by omega, ?_, ?_, ?_, ?_, ?_, ?_, ?_, ?_, ?_, ?_, fun j h => by omega⟩ <;> first | rfl | simp only [H0, J86, J87, und3, und4, und22, und26, und29, und45, und64, info3, info4, info22, info26, info29, info45, info64, info50, und50, aggT, gv, dstAt, aop, evalsA, partsA, evalO, updO, ofArgs, binV, intBin, unV, mmV, builtinA, Nat.reduceLT, Nat.reduceEqDiff, Nat.reduceAdd, Nat.reduceSub, Nat.reduceMul, ↓reduceIte, reduceCtorEq, t0, t1, t5, t6, t16, t17]
      clear t0 t1 t5 t6 t16 t17
      rintro m τ ds S3 ⟨rfl, rfl, i, rfl, hi, t0, t1, t5, t6, t16, t17, t7, t23, t24, t25, hno2⟩
      by_cases hir : i < r.length
      · have e3 : decide ((i : Int) < r.length) = true := by simpa using hir
        have hwi := wrap_succ (k := i) (by omega)
        obtain ⟨a1, a2⟩ := rowAt hR1 hir
        have hml : (i + 1) % r.length < r.length := Nat.mod_lt _ hr0
        obtain ⟨b1, b2⟩ := rowAt hR1 hml
        have hmod : ((i + 1 : Nat) : Int).tmod (r.length : Int) = (((i + 1) % r.length : Nat) : Int) := by rw [Int.ofNat_tmod]
        have hl0 : ((r.length : Int) = 0) = False := by rw [eq_iff_iff]; exact ⟨fun h => by omega, False.elim⟩
        have mu := hcy.lt _ (getD_mem hir)
        have mn := hcy.lt _ (getD_mem hml)
        obtain ⟨p1, r1, q1, c1, c2, c3, c4⟩ := game hx1 mu hkn
        obtain ⟨p2, r2, q2, d1, d2, d3, d4⟩ := game hx1 hkn mn
        by_cases h1 : M (r.getD i 0) k = 1
        · have f1 : (M (r.getD i 0) k == 1) = true := by simpa using h1
          by_cases h2 : M k (r.getD ((i + 1) % r.length) 0) = 1
          · have f2 : (M k (r.getD ((i + 1) % r.length) 0) == 1) = true := by simpa using h2
            repeat (first | with_reducible (first | refine W_seq ?_ | refine W_block ?_ | refine W_scope ?_ | refine W_regionV hTT ?_ | refine W_condV ?_ | refine W_ret ?_ | refine W_exit ?_ | refine W_skip ?_ | refine W_label ?_ | refine W_drawV hTT (by kernel_rfl) ?_) | simp only [H0, J86, J87, und3, und4, und22, und26, und29, und45, und64, info3, info4, info22, info26, info29, info45, info64, info50, und50, aggT, gv, dstAt, aop, evalsA, partsA, evalO, updO, ofArgs, binV, intBin, unV, mmV, builtinA, Nat.reduceLT, Nat.reduceEqDiff, Nat.reduceAdd, Nat.reduceSub, Nat.reduceMul, ↓reduceIte, reduceCtorEq, t0, t1, t5, t6, t16, t17, t7, t23, t24, t25, e3, a1, a2, hwi, hrl1, hl0, hmod, b1, b2, c1, c2, c3, c4, f1, d1, d2, d3, d4, f2])
            refine VCall_intro (cloneRow_call hE.ok hR1 (by rw [nl_len]; omega) (by rw [nl_len]; omega)) ?_
            rintro u S4 ⟨hu, hE4⟩
            have bs := bs_one (T := TT) (S := S4) (x := .int .i64 k) und26 info3 rfl rfl rfl
            have hE5 : Ext S4 (S4.push (.cells [.int .i64 k] 3 0)) := (Ext.refl hE4.ok).push _
            have hn4 := hE4.n
            have hu5 : Mine (S4.push (.cells [.int .i64 k] 3 0)) 3 1 S3.n u (iv (nl r)) (nl r).length := hu.same fun b hb => hE5.same b (hu.base hb).2
            repeat (first | with_reducible (first | refine W_seq ?_ | refine W_block ?_ | refine W_scope ?_ | refine W_regionV hTT ?_ | refine W_condV ?_ | refine W_ret ?_ | refine W_exit ?_ | refine W_skip ?_ | refine W_label ?_ | refine W_drawV hTT (by kernel_rfl) ?_) | simp only [H0, J86, J87, und3, und4, und22, und26, und29, und45, und64, info3, info4, info22, info26, info29, info45, info64, info50, und50, aggT, gv, dstAt, aop, evalsA, partsA, evalO, updO, ofArgs, binV, intBin, unV, mmV, builtinA, Nat.reduceLT, Nat.reduceEqDiff, Nat.reduceAdd, Nat.reduceSub, Nat.reduceMul, ↓reduceIte, reduceCtorEq, t0, t1, t5, t6, t16, t17, t7, t23, t24, t25, hwi, bs])
            refine VCall_intro (ins_call hE5.ok hu5 (by rw [push_n]; omega) (i := i + 1) (by rw [nl_len]; omega) (get_push_new (S := S4) (.cells [.int .i64 (k : Int)] 3 0) rfl) (by rw [nl_len]; omega)) ?_
            rintro w S6 ⟨hM6, hB6⟩
            repeat (first | with_reducible (first | refine W_seq ?_ | refine W_block ?_ | refine W_scope ?_ | refine W_regionV hTT ?_ | refine W_condV ?_ | refine W_ret ?_ | refine W_exit ?_ | refine W_skip ?_ | refine W_label ?_ | refine W_drawV hTT (by kernel_rfl) ?_) | simp only [H0, J86, J87, und3, und4, und22, und26, und29, und45, und64, info3, info4, info22, info26, info29, info45, info64, info50, und50, aggT, gv, dstAt, aop, evalsA, partsA, evalO, updO, ofArgs, binV, intBin, unV, mmV, builtinA, Nat.reduceLT, Nat.reduceEqDiff, Nat.reduceAdd, Nat.reduceSub, Nat.reduceMul, ↓reduceIte, reduceCtorEq])
            have hE6 : Ext S3 S6 := hB6.ext (hE4.trans hE5) fun b hb => (hu.base hb).1
            rw [insL_nl] at hM6
            have hlen := insN_len (v := k) (show i + 1 ≤ r.length by omega)
            obtain ⟨b', hb', hR'⟩ := rowOf hM6 (by omega) (by rw [nl_len, nl_len, hlen])
            exact ⟨hE.trans hE6, .inl ⟨_, b', by omega, hR', hcy.ins hkn hkr hir h1 h2, by rw [hlen]; omega⟩⟩
          · have f2 : (M k (r.getD ((i + 1) % r.length) 0) == 1) = false := by simpa using h2
            repeat (first | with_reducible (first | refine W_seq ?_ | refine W_block ?_ | refine W_scope ?_ | refine W_regionV hTT ?_ | refine W_condV ?_ | refine W_ret ?_ | refine W_exit ?_ | refine W_skip ?_ | refine W_label ?_ | refine W_drawV hTT (by kernel_rfl) ?_) | simp only [H0, J86, J87, und3, und4, und22, und26, und29, und45, und64, info3, info4, info22, info26, info29, info45, info64, info50, und50, aggT, gv, dstAt, aop, evalsA, partsA, evalO, updO, ofArgs, binV, intBin, unV, mmV, builtinA, Nat.reduceLT, Nat.reduceEqDiff, Nat.reduceAdd, Nat.reduceSub, Nat.reduceMul, ↓reduceIte, reduceCtorEq, t0, t1, t5, t6, t16, t17, t7, t23, t24, t25, e3, a1, a2, hwi, hrl1, hl0, hmod, b1, b2, c1, c2, c3, c4, f1, d1, d2, d3, d4, f2])
            refine LoopQ_intro (r.length - (i + 1)) (by omega) ⟨rfl, rfl, i + 1, rfl, by omega, by simp only [H0, J86, J87, und3, und4, und22, und26, und29, und45, und64, info3, info4, info22, info26, info29, info45, info64, info50, und50, aggT, gv, dstAt, aop, evalsA, partsA, evalO, updO, ofArgs, binV, intBin, unV, mmV, builtinA, Nat.reduceLT, Nat.reduceEqDiff, Nat.reduceAdd, Nat.reduceSub, Nat.reduceMul, ↓reduceIte, reduceCtorEq, t0], by simp only [H0, J86, J87, und3, und4, und22, und26, und29, und45, und64, info3, info4, info22, info26, info29, info45, info64, info50, und50, aggT, gv, dstAt, aop, evalsA, partsA, evalO, updO, ofArgs, binV, intBin, unV, mmV, builtinA, Nat.reduceLT, Nat.reduceEqDiff, Nat.reduceAdd, Nat.reduceSub, Nat.reduceMul, ↓reduceIte, reduceCtorEq, t1], by simp only [H0, J86, J87, und3, und4, und22, und26, und29, und45, und64, info3, info4, info22, info26, info29, info45, info64, info50, und50, aggT, gv, dstAt, aop, evalsA, partsA, evalO, updO, ofArgs, binV, intBin, unV, mmV, builtinA, Nat.reduceLT, Nat.reduceEqDiff, Nat.reduceAdd, Nat.reduceSub, Nat.reduceMul, ↓reduceIte, reduceCtorEq, t5], by simp only [H0, J86, J87, und3, und4, und22, und26, und29, und45, und64, info3, info4, info22, info26, info29, info45, info64, info50, und50, aggT, gv, dstAt, aop, evalsA, partsA, evalO, updO, ofArgs, binV, intBin, unV, mmV, builtinA, Nat.reduceLT, Nat.reduceEqDiff, Nat.reduceAdd, Nat.reduceSub, Nat.reduceMul, ↓reduceIte, reduceCtorEq, t6], by simp only [H0, J86, J87, und3, und4, und22, und26, und29, und45, und64, info3, info4, info22, info26, info29, info45, info64, info50, und50, aggT, gv, dstAt, aop, evalsA, partsA, evalO, updO, ofArgs, binV, intBin, unV, mmV, builtinA, Nat.reduceLT, Nat.reduceEqDiff, Nat.reduceAdd, Nat.reduceSub, Nat.reduceMul, ↓reduceIte, reduceCtorEq, t16], by simp only [H0, J86, J87, und3, und4, und22, und26, und29, und45, und64, info3, info4, info22, info26, info29, info45, info64, info50, und50, aggT, gv, dstAt, aop, evalsA, partsA, evalO, updO, ofArgs, binV, intBin, unV, mmV, builtinA, Nat.reduceLT, Nat.reduceEqDiff, Nat.reduceAdd, Nat.reduceSub, Nat.reduceMul, ↓reduceIte, reduceCtorEq, t17], by simp only [H0, J86, J87, und3, und4, und22, und26, und29, und45, und64, info3, info4, info22, info26, info29, info45, info64, info50, und50, aggT, gv, dstAt, aop, evalsA, partsA, evalO, updO, ofArgs, binV, intBin, unV, mmV, builtinA, Nat.reduceLT, Nat.reduceEqDiff, Nat.reduceAdd, Nat.reduceSub, Nat.reduceMul, ↓reduceIte, reduceCtorEq, t7], by simp only [H0, J86, J87, und3, und4, und22, und26, und29, und45, und64, info3, info4, info22, info26, info29, info45, info64, info50, und50, aggT, gv, dstAt, aop, evalsA, partsA, evalO, updO, ofArgs, binV, intBin, unV, mmV, builtinA, Nat.reduceLT, Nat.reduceEqDiff, Nat.reduceAdd, Nat.reduceSub, Nat.reduceMul, ↓reduceIte, reduceCtorEq, t23], by simp only [H0, J86, J87, und3, und4, und22, und26, und29, und45, und64, info3, info4, info22, info26, info29, info45, info64, info50, und50, aggT, gv, dstAt, aop, evalsA, partsA, evalO, updO, ofArgs, binV, intBin, unV, mmV, builtinA, Nat.reduceLT, Nat.reduceEqDiff, Nat.reduceAdd, Nat.reduceSub, Nat.reduceMul, ↓reduceIte, reduceCtorEq, t24], by simp only [H0, J86, J87, und3, und4, und22, und26, und29, und45, und64, info3, info4, info22, info26, info29, info45, info64, info50, und50, aggT, gv, dstAt, aop, evalsA, partsA, evalO, updO, ofArgs, binV, intBin, unV, mmV, builtinA, Nat.reduceLT, Nat.reduceEqDiff, Nat.reduceAdd, Nat.reduceSub, Nat.reduceMul, ↓reduceIte, reduceCtorEq, t25, hwi], ?_⟩
            intro j hj
            by_cases e : j = i
            · subst e; exact fun hh => h2 hh.2
            · exact hno2 j (by omega)
        · have f1 : (M (r.getD i 0) k == 1) = false := by simpa using h1
          repeat (first | with_reducible (first | refine W_seq ?_ | refine W_block ?_ | refine W_scope ?_ | refine W_regionV hTT ?_ | refine W_condV ?_ | refine W_ret ?_ | refine W_exit ?_ | refine W_skip ?_ | refine W_label ?_ | refine W_drawV hTT (by kernel_rfl) ?_) | simp only [H0, J86, J87, und3, und4, und22, und26, und29, und45, und64, info3, info4, info22, info26, info29, info45, info64, info50, und50, aggT, gv, dstAt, aop, evalsA, partsA, evalO, updO, ofArgs, binV, intBin, unV, mmV, builtinA, Nat.reduceLT, Nat.reduceEqDiff, Nat.reduceAdd, Nat.reduceSub, Nat.reduceMul, ↓reduceIte, reduceCtorEq, t0, t1, t5, t6, t16, t17, t7, t23, t24, t25, e3, a1, a2, hwi, hrl1, hl0, hmod, b1, b2, c1, c2, c3, c4, f1])
          refine LoopQ_intro (r.length - (i + 1)) (by omega) ⟨rfl, rfl, i + 1, rfl, by omega, by simp only [H0, J86, J87, und3, und4, und22, und26, und29, und45, und64, info3, info4, info22, info26, info29, info45, info64, info50, und50, aggT, gv, dstAt, aop, evalsA, partsA, evalO, updO, ofArgs, binV, intBin, unV, mmV, builtinA, Nat.reduceLT, Nat.reduceEqDiff, Nat.reduceAdd, Nat.reduceSub, Nat.reduceMul, ↓reduceIte, reduceCtorEq, t0], by simp only [H0, J86, J87, und3, und4, und22, und26, und29, und45, und64, info3, info4, info22, info26, info29, info45, info64, info50, und50, aggT, gv, dstAt, aop, evalsA, partsA, evalO, updO, ofArgs, binV, intBin, unV, mmV, builtinA, Nat.reduceLT, Nat.reduceEqDiff, Nat.reduceAdd, Nat.reduceSub, Nat.reduceMul, ↓reduceIte, reduceCtorEq, t1], by simp only [H0, J86, J87, und3, und4, und22, und26, und29, und45, und64, info3, info4, info22, info26, info29, info45, info64, info50, und50, aggT, gv, dstAt, aop, evalsA, partsA, evalO, updO, ofArgs, binV, intBin, unV, mmV, builtinA, Nat.reduceLT, Nat.reduceEqDiff, Nat.reduceAdd, Nat.reduceSub, Nat.reduceMul, ↓reduceIte, reduceCtorEq, t5], by simp only [H0, J86, J87, und3, und4, und22, und26, und29, und45, und64, info3, info4, info22, info26, info29, info45, info64, info50, und50, aggT, gv, dstAt, aop, evalsA, partsA, evalO, updO, ofArgs, binV, intBin, unV, mmV, builtinA, Nat.reduceLT, Nat.reduceEqDiff, Nat.reduceAdd, Nat.reduceSub, Nat.reduceMul, ↓reduceIte, reduceCtorEq, t6], by simp only [H0, J86, J87, und3, und4, und22, und26, und29, und45, und64, info3, info4, info22, info26, info29, info45, info64, info50, und50, aggT, gv, dstAt, aop, evalsA, partsA, evalO, updO, ofArgs, binV, intBin, unV, mmV, builtinA, Nat.reduceLT, Nat.reduceEqDiff, Nat.reduceAdd, Nat.reduceSub, Nat.reduceMul, ↓reduceIte, reduceCtorEq, t16], by simp only [H0, J86, J87, und3, und4, und22, und26, und29, und45, und64, info3, info4, info22, info26, info29, info45, info64, info50, und50, aggT, gv, dstAt, aop, evalsA, partsA, evalO, updO, ofArgs, binV, intBin, unV, mmV, builtinA, Nat.reduceLT, Nat.reduceEqDiff, Nat.reduceAdd, Nat.reduceSub, Nat.reduceMul, ↓reduceIte, reduceCtorEq, t17], by simp only [H0, J86, J87, und3, und4, und22, und26, und29, und45, und64, info3, info4, info22, info26, info29, info45, info64, info50, und50, aggT, gv, dstAt, aop, evalsA, partsA, evalO, updO, ofArgs, binV, intBin, unV, mmV, builtinA, Nat.reduceLT, Nat.reduceEqDiff, Nat.reduceAdd, Nat.reduceSub, Nat.reduceMul, ↓reduceIte, reduceCtorEq, t7], by simp only [H0, J86, J87, und3, und4, und22, und26, und29, und45, und64, info3, info4, info22, info26, info29, info45, info64, info50, und50, aggT, gv, dstAt, aop, evalsA, partsA, evalO, updO, ofArgs, binV, intBin, unV, mmV, builtinA, Nat.reduceLT, Nat.reduceEqDiff, Nat.reduceAdd, Nat.reduceSub, Nat.reduceMul, ↓reduceIte, reduceCtorEq, t23], by simp only [H0, J86, J87, und3, und4, und22, und26, und29, und45, und64, info3, info4, info22, info26, info29, info45, info64, info50, und50, aggT, gv, dstAt, aop, evalsA, partsA, evalO, updO, ofArgs, binV, intBin, unV, mmV, builtinA, Nat.reduceLT, Nat.reduceEqDiff, Nat.reduceAdd, Nat.reduceSub, Nat.reduceMul, ↓reduceIte, reduceCtorEq, t24], by simp only [H0, J86, J87, und3, und4, und22, und26, und29, und45, und64, info3, info4, info22, info26, info29, info45, info64, info50, und50, aggT, gv, dstAt, aop, evalsA, partsA, evalO, updO, ofArgs, binV, intBin, unV, mmV, builtinA, Nat.reduceLT, Nat.reduceEqDiff, Nat.reduceAdd, Nat.reduceSub, Nat.reduceMul, ↓reduceIte, reduceCtorEq, t25, hwi], ?_⟩
          intro j hj
          by_cases e : j = i
          · subst e; exact fun hh => h1 hh.1
          · exact hno2 j (by omega)
      · have e3 : decide ((i : Int) < r.length) = false := by simpa using hir
        obtain ⟨a1, a2⟩ := rowAt hR1 hr0
        obtain ⟨p1, r1, q1, c1, c2, c3, c4⟩ := game hx1 (hcy.lt _ hm0) hkn
        have hnok : ∀ v, v < k + 1 → v ∉ r → ∀ i, i < r.length → ¬ (M (r.getD i 0) v = 1 ∧ M v (r.getD ((i + 1) % r.length) 0) = 1) := by
          intro v hv hvr j hj
          by_cases e : v = k
          · subst e; exact hno2 j (by omega)
          · exact hno v (by omega) hvr j hj
        by_cases h1 : M (r.getD 0 0) k = 1
        · have f1 : (M (r.getD 0 0) k == 1) = true := by simpa using h1
          have hu1 : undL M r (k + 1) = undL M r k ++ [k] := by unfold undL; rw [filt_succ, if_pos (decide_eq_true ⟨hkr, h1⟩)]
          have ho1 : ovrL M r (k + 1) = ovrL M r k := by unfold ovrL; rw [filt_succ, if_neg (fun hh => (of_decide_eq_true hh).2 h1), List.append_nil]
          have bs := bs_one (T := TT) (S := S3) (x := .int .i64 k) und26 info3 rfl rfl rfl
          obtain ⟨v', S4, x1, x2, x3, x4⟩ := hU.push_one (T := TT) (x := .int .i64 k) hE.ok hn1 und26 info3 rfl rfl (by omega) (by omega)
          have hE4 := x3.ext hE fun b hb => (hU.base hb).1
          have hO4 : Mine S4 3 1 S.n vo (iv (nl (ovrL M r k))) (ovrL M r k).length := hO.same fun b hb => x3.same b (hO.base hb).2 fun e => hne b e hb
          rw [Int.ofNat_zero] at a1
          repeat (first | with_reducible (first | refine W_seq ?_ | refine W_block ?_ | refine W_scope ?_ | refine W_regionV hTT ?_ | refine W_condV ?_ | refine W_ret ?_ | refine W_exit ?_ | refine W_skip ?_ | refine W_label ?_ | refine W_drawV hTT (by kernel_rfl) ?_) | simp only [H0, J86, J87, und3, und4, und22, und26, und29, und45, und64, info3, info4, info22, info26, info29, info45, info64, info50, und50, aggT, gv, dstAt, aop, evalsA, partsA, evalO, updO, ofArgs, binV, intBin, unV, mmV, builtinA, Nat.reduceLT, Nat.reduceEqDiff, Nat.reduceAdd, Nat.reduceSub, Nat.reduceMul, ↓reduceIte, reduceCtorEq, t0, t1, t5, t6, t16, t17, t7, t23, t24, t25, e3, a1, a2, c1, c2, c3, c4, f1, bs, x1, hw])
          refine LoopQ_intro (n - (k + 1)) (by omega) ⟨hE4, rfl, k + 1, v', vo, rfl, by omega, by simp only [H0, J86, J87, und3, und4, und22, und26, und29, und45, und64, info3, info4, info22, info26, info29, info45, info64, info50, und50, aggT, gv, dstAt, aop, evalsA, partsA, evalO, updO, ofArgs, binV, intBin, unV, mmV, builtinA, Nat.reduceLT, Nat.reduceEqDiff, Nat.reduceAdd, Nat.reduceSub, Nat.reduceMul, ↓reduceIte, reduceCtorEq, t0], by simp only [H0, J86, J87, und3, und4, und22, und26, und29, und45, und64, info3, info4, info22, info26, info29, info45, info64, info50, und50, aggT, gv, dstAt, aop, evalsA, partsA, evalO, updO, ofArgs, binV, intBin, unV, mmV, builtinA, Nat.reduceLT, Nat.reduceEqDiff, Nat.reduceAdd, Nat.reduceSub, Nat.reduceMul, ↓reduceIte, reduceCtorEq, t1], by simp only [H0, J86, J87, und3, und4, und22, und26, und29, und45, und64, info3, info4, info22, info26, info29, info45, info64, info50, und50, aggT, gv, dstAt, aop, evalsA, partsA, evalO, updO, ofArgs, binV, intBin, unV, mmV, builtinA, Nat.reduceLT, Nat.reduceEqDiff, Nat.reduceAdd, Nat.reduceSub, Nat.reduceMul, ↓reduceIte, reduceCtorEq], by simp only [H0, J86, J87, und3, und4, und22, und26, und29, und45, und64, info3, info4, info22, info26, info29, info45, info64, info50, und50, aggT, gv, dstAt, aop, evalsA, partsA, evalO, updO, ofArgs, binV, intBin, unV, mmV, builtinA, Nat.reduceLT, Nat.reduceEqDiff, Nat.reduceAdd, Nat.reduceSub, Nat.reduceMul, ↓reduceIte, reduceCtorEq, t6], by simp only [H0, J86, J87, und3, und4, und22, und26, und29, und45, und64, info3, info4, info22, info26, info29, info45, info64, info50, und50, aggT, gv, dstAt, aop, evalsA, partsA, evalO, updO, ofArgs, binV, intBin, unV, mmV, builtinA, Nat.reduceLT, Nat.reduceEqDiff, Nat.reduceAdd, Nat.reduceSub, Nat.reduceMul, ↓reduceIte, reduceCtorEq, t16], by simp only [H0, J86, J87, und3, und4, und22, und26, und29, und45, und64, info3, info4, info22, info26, info29, info45, info64, info50, und50, aggT, gv, dstAt, aop, evalsA, partsA, evalO, updO, ofArgs, binV, intBin, unV, mmV, builtinA, Nat.reduceLT, Nat.reduceEqDiff, Nat.reduceAdd, Nat.reduceSub, Nat.reduceMul, ↓reduceIte, reduceCtorEq, t17, hw], ?_, by rw [ho1]; exact hO4, ?_, hnok⟩
          · rw [hu1, nl_append, ← iv_append, List.length_append]
            exact x2
          · intro b hb hb2
            rcases x4 b hb with g | g
            · exact hne b g hb2
            · have := (hO.base hb2).2; omega
        · have f1 : (M (r.getD 0 0) k == 1) = false := by simpa using h1
          have hu1 : undL M r (k + 1) = undL M r k := by unfold undL; rw [filt_succ, if_neg (fun hh => h1 (of_decide_eq_true hh).2), List.append_nil]
          have ho1 : ovrL M r (k + 1) = ovrL M r k ++ [k] := by unfold ovrL; rw [filt_succ, if_pos (decide_eq_true ⟨hkr, h1⟩)]
          have bs := bs_one (T := TT) (S := S3) (x := .int .i64 k) und26 info3 rfl rfl rfl
          obtain ⟨v', S4, x1, x2, x3, x4⟩ := hO.push_one (T := TT) (x := .int .i64 k) hE.ok hn1 und26 info3 rfl rfl (by omega) (by omega)
          have hE4 := x3.ext hE fun b hb => (hO.base hb).1
          have hU4 : Mine S4 3 1 S.n vu (iv (nl (undL M r k))) (undL M r k).length := hU.same fun b hb => x3.same b (hU.base hb).2 fun e => hne b hb e
          rw [Int.ofNat_zero] at a1
          repeat (first | with_reducible (first | refine W_seq ?_ | refine W_block ?_ | refine W_scope ?_ | refine W_regionV hTT ?_ | refine W_condV ?_ | refine W_ret ?_ | refine W_exit ?_ | refine W_skip ?_ | refine W_label ?_ | refine W_drawV hTT (by kernel_rfl) ?_) | simp only [H0, J86, J87, und3, und4, und22, und26, und29, und45, und64, info3, info4, info22, info26, info29, info45, info64, info50, und50, aggT, gv, dstAt, aop, evalsA, partsA, evalO, updO, ofArgs, binV, intBin, unV, mmV, builtinA, Nat.reduceLT, Nat.reduceEqDiff, Nat.reduceAdd, Nat.reduceSub, Nat.reduceMul, ↓reduceIte, reduceCtorEq, t0, t1, t5, t6, t16, t17, t7, t23, t24, t25, e3, a1, a2, c1, c2, c3, c4, f1, bs, x1, hw])
          refine LoopQ_intro (n - (k + 1)) (by omega) ⟨hE4, rfl, k + 1, vu, v', rfl, by omega, by simp only [H0, J86, J87, und3, und4, und22, und26, und29, und45, und64, info3, info4, info22, info26, info29, info45, info64, info50, und50, aggT, gv, dstAt, aop, evalsA, partsA, evalO, updO, ofArgs, binV, intBin, unV, mmV, builtinA, Nat.reduceLT, Nat.reduceEqDiff, Nat.reduceAdd, Nat.reduceSub, Nat.reduceMul, ↓reduceIte, reduceCtorEq, t0], by simp only [H0, J86, J87, und3, und4, und22, und26, und29, und45, und64, info3, info4, info22, info26, info29, info45, info64, info50, und50, aggT, gv, dstAt, aop, evalsA, partsA, evalO, updO, ofArgs, binV, intBin, unV, mmV, builtinA, Nat.reduceLT, Nat.reduceEqDiff, Nat.reduceAdd, Nat.reduceSub, Nat.reduceMul, ↓reduceIte, reduceCtorEq, t1], by simp only [H0, J86, J87, und3, und4, und22, und26, und29, und45, und64, info3, info4, info22, info26, info29, info45, info64, info50, und50, aggT, gv, dstAt, aop, evalsA, partsA, evalO, updO, ofArgs, binV, intBin, unV, mmV, builtinA, Nat.reduceLT, Nat.reduceEqDiff, Nat.reduceAdd, Nat.reduceSub, Nat.reduceMul, ↓reduceIte, reduceCtorEq, t5], by simp only [H0, J86, J87, und3, und4, und22, und26, und29, und45, und64, info3, info4, info22, info26, info29, info45, info64, info50, und50, aggT, gv, dstAt, aop, evalsA, partsA, evalO, updO, ofArgs, binV, intBin, unV, mmV, builtinA, Nat.reduceLT, Nat.reduceEqDiff, Nat.reduceAdd, Nat.reduceSub, Nat.reduceMul, ↓reduceIte, reduceCtorEq], by simp only [H0, J86, J87, und3, und4, und22, und26, und29, und45, und64, info3, info4, info22, info26, info29, info45, info64, info50, und50, aggT, gv, dstAt, aop, evalsA, partsA, evalO, updO, ofArgs, binV, intBin, unV, mmV, builtinA, Nat.reduceLT, Nat.reduceEqDiff, Nat.reduceAdd, Nat.reduceSub, Nat.reduceMul, ↓reduceIte, reduceCtorEq, t16], by simp only [H0, J86, J87, und3, und4, und22, und26, und29, und45, und64, info3, info4, info22, info26, info29, info45, info64, info50, und50, aggT, gv, dstAt, aop, evalsA, partsA, evalO, updO, ofArgs, binV, intBin, unV, mmV, builtinA, Nat.reduceLT, Nat.reduceEqDiff, Nat.reduceAdd, Nat.reduceSub, Nat.reduceMul, ↓reduceIte, reduceCtorEq, t17, hw], by rw [hu1]; exact hU4, ?_, ?_, hnok⟩
          · rw [ho1, nl_append, ← iv_append, List.length_append]
            exact x2
          · intro b hb hb2
            rcases x4 b hb2 with g | g
            · exact hne b hb g
            · have := (hU.base hb).2; omega
  · have e1 : decide ((k : Int) < n) = false := by simpa using hkn
    have hkk : k = n := by omega
    subst hkk
    have hUl := hU.sl.len (T := TT) und26
    have hOl := hO.sl.len (T := TT) und26
    have hUm : ∀ x, x ∈ undL M r k → x < k ∧ x ∉ r ∧ M (r.getD 0 0) x = 1 := fun x hx => ⟨List.mem_range.1 (List.mem_filter.1 hx).1, of_decide_eq_true (List.mem_filter.1 hx).2⟩
    have hOm : ∀ x, x ∈ ovrL M r k → x < k ∧ x ∉ r ∧ ¬ M (r.getD 0 0) x = 1 := fun x hx => ⟨List.mem_range.1 (List.mem_filter.1 hx).1, of_decide_eq_true (List.mem_filter.1 hx).2⟩
    repeat (first | with_reducible (first | refine W_seq ?_ | refine W_scope ?_ | refine W_regionV hTT ?_ | refine W_condV ?_ | refine W_ret ?_ | refine W_exit ?_ | refine W_skip ?_ | refine W_label ?_ | refine W_drawV hTT (by kernel_rfl) ?_) | simp only [H0, J86, J87, und3, und4, und22, und26, und29, und45, und64, info3, info4, info22, info26, info29, info45, info64, info50, und50, aggT, gv, dstAt, aop, evalsA, partsA, evalO, updO, ofArgs, binV, intBin, unV, mmV, builtinA, Nat.reduceLT, Nat.reduceEqDiff, Nat.reduceAdd, Nat.reduceSub, Nat.reduceMul, ↓reduceIte, reduceCtorEq, t0, t1, t5, t6, t16, t17, e1, hUl])
    refine W_block ?_
    refine W_loopI (fun m τ ds S' => S' = S1 ∧ ds = [] ∧ ∃ i : Nat, m = (undL M r k).length - i ∧ i ≤ (undL M r k).length ∧ τ 0 = vl ∧ τ 1 = va ∧ τ 6 = vo ∧ τ 83 = vu ∧ τ 84 = .int .i64 (undL M r k).length ∧ τ 85 = .int .i64 i ∧ ∀ a, a < i → ∀ w ∈ ovrL M r k, ¬ M ((undL M r k).getD a 0) w = 1) (undL M r k).length ?_ ?_
    · refine ⟨rfl, rfl, 0, by omega, by omega, ?_, ?_, ?_, ?_, ?_, ?_, fun a h => by omega⟩ <;> first | rfl | simp only [H0, J86, J87, und3, und4, und22, und26, und29, und45, und64, info3, info4, info22, info26, info29, info45, info64, info50, und50, aggT, gv, dstAt, aop, evalsA, partsA, evalO, updO, ofArgs, binV, intBin, unV, mmV, builtinA, Nat.reduceLT, Nat.reduceEqDiff, Nat.reduceAdd, Nat.reduceSub, Nat.reduceMul, ↓reduceIte, reduceCtorEq, t0, t1, t5, t6, t16, t17]
    clear t0 t1 t5 t6 t16 t17
    rintro m τ ds S2 ⟨rfl, rfl, i, rfl, hi, t0, t1, t6, t83, t84, t85, hnp⟩
    by_cases hiu : i < (undL M r k).length
    · have e2 : decide ((i : Int) < (undL M r k).length) = true := by simpa using hiu
      have hwi := wrap_succ (k := i) (by omega)
      obtain ⟨p, a1, a2⟩ := listAt hU.sl hiu
      obtain ⟨u1, u2, u3⟩ := hUm _ (getD_mem hiu)
      repeat (first | with_reducible (first | refine W_seq ?_ | refine W_scope ?_ | refine W_regionV hTT ?_ | refine W_condV ?_ | refine W_ret ?_ | refine W_exit ?_ | refine W_skip ?_ | refine W_label ?_ | refine W_drawV hTT (by kernel_rfl) ?_) | simp only [H0, J86, J87, und3, und4, und22, und26, und29, und45, und64, info3, info4, info22, info26, info29, info45, info64, info50, und50, aggT, gv, dstAt, aop, evalsA, partsA, evalO, updO, ofArgs, binV, intBin, unV, mmV, builtinA, Nat.reduceLT, Nat.reduceEqDiff, Nat.reduceAdd, Nat.reduceSub, Nat.reduceMul, ↓reduceIte, reduceCtorEq, t0, t1, t6, t83, t84, t85, e2])
      refine W_block ?_
      repeat (first | with_reducible (first | refine W_seq ?_ | refine W_scope ?_ | refine W_regionV hTT ?_ | refine W_condV ?_ | refine W_ret ?_ | refine W_exit ?_ | refine W_skip ?_ | refine W_label ?_ | refine W_drawV hTT (by kernel_rfl) ?_) | simp only [H0, J86, J87, und3, und4, und22, und26, und29, und45, und64, info3, info4, info22, info26, info29, info45, info64, info50, und50, aggT, gv, dstAt, aop, evalsA, partsA, evalO, updO, ofArgs, binV, intBin, unV, mmV, builtinA, Nat.reduceLT, Nat.reduceEqDiff, Nat.reduceAdd, Nat.reduceSub, Nat.reduceMul, ↓reduceIte, reduceCtorEq, t0, t1, t6, t83, t84, t85, a1, a2, hOl])
      refine W_block ?_
      refine W_loopI (fun m τ ds S' => S' = S2 ∧ ds = [] ∧ ∃ j : Nat, m = (ovrL M r k).length - j ∧ j ≤ (ovrL M r k).length ∧ τ 0 = vl ∧ τ 1 = va ∧ τ 6 = vo ∧ τ 83 = vu ∧ τ 84 = .int .i64 (undL M r k).length ∧ τ 85 = .int .i64 i ∧ τ 12 = .int .i64 ((undL M r k).getD i 0 : Nat) ∧ τ 89 = vo ∧ τ 90 = .int .i64 (ovrL M r k).length ∧ τ 91 = .int .i64 j ∧ ∀ a, a < j → ¬ M ((undL M r k).getD i 0) ((ovrL M r k).getD a 0) = 1) (ovrL M r k).length ?_ ?_
      · refine ⟨rfl, rfl, 0, by omega, by omega, ?_, ?_, ?_, ?_, ?_, ?_, ?_, ?_, ?_, ?_, fun a h => by omega⟩ <;> first | rfl | simp only [H0, J86, J87, und3, und4, und22, und26, und29, und45, und64, info3, info4, info22, info26, info29, info45, info64, info50, und50, aggT, gv, dstAt, aop, evalsA, partsA, evalO, updO, ofArgs, binV, intBin, unV, mmV, builtinA, Nat.reduceLT, Nat.reduceEqDiff, Nat.reduceAdd, Nat.reduceSub, Nat.reduceMul, ↓reduceIte, reduceCtorEq, t0, t1, t6, t83, t84, t85]
      clear t0 t1 t6 t83 t84 t85
      rintro m τ ds S3 ⟨rfl, rfl, j, rfl, hj, t0, t1, t6, t83, t84, t85, t12, t89, t90, t91, hnq⟩
      by_cases hjo : j < (ovrL M r k).length
      · have e3 : decide ((j : Int) < (ovrL M r k).length) = true := by simpa using hjo
        have hwj := wrap_succ (k := j) (by omega)
        obtain ⟨q, b1, b2⟩ := listAt hO.sl hjo
        obtain ⟨o1, o2, o3⟩ := hOm _ (getD_mem hjo)
        obtain ⟨p1, r1, q1, c1, c2, c3, c4⟩ := game hx1 u1 o1
        by_cases h1 : M ((undL M r k).getD i 0) ((ovrL M r k).getD j 0) = 1
        · have f1 : (M ((undL M r k).getD i 0) ((ovrL M r k).getD j 0) == 1) = true := by simpa using h1
          repeat (first | with_reducible (first | refine W_seq ?_ | refine W_block ?_ | refine W_scope ?_ | refine W_regionV hTT ?_ | refine W_condV ?_ | refine W_ret ?_ | refine W_exit ?_ | refine W_skip ?_ | refine W_label ?_ | refine W_drawV hTT (by kernel_rfl) ?_) | simp only [H0, J86, J87, und3, und4, und22, und26, und29, und45, und64, info3, info4, info22, info26, info29, info45, info64, info50, und50, aggT, gv, dstAt, aop, evalsA, partsA, evalO, updO, ofArgs, binV, intBin, unV, mmV, builtinA, Nat.reduceLT, Nat.reduceEqDiff, Nat.reduceAdd, Nat.reduceSub, Nat.reduceMul, ↓reduceIte, reduceCtorEq, t0, t1, t6, t83, t84, t85, t12, t89, t90, t91, e3, b1, b2, c1, c2, c3, c4, f1])
          refine VCall_intro (cloneRow_call hE.ok hR1 (by rw [nl_len]; omega) (by rw [nl_len]; omega)) ?_
          rintro u S4 ⟨hu, hE4⟩
          have bs := bs_two3 (S := S4) (x := ((undL M r k).getD i 0 : Nat)) (y := ((ovrL M r k).getD j 0 : Nat))
          obtain ⟨v', S5, x1, x2, x3⟩ := push_two (x := ((undL M r k).getD i 0 : Nat)) (y := ((ovrL M r k).getD j 0 : Nat)) hu hE4.ok hE4.n (by rw [nl_len]; omega)
          have hE5 := x3.ext hE4 fun b hb => (hu.base hb).1
          repeat (first | with_reducible (first | refine W_seq ?_ | refine W_block ?_ | refine W_scope ?_ | refine W_regionV hTT ?_ | refine W_condV ?_ | refine W_ret ?_ | refine W_exit ?_ | refine W_skip ?_ | refine W_label ?_ | refine W_drawV hTT (by kernel_rfl) ?_) | simp only [H0, J86, J87, und3, und4, und22, und26, und29, und45, und64, info3, info4, info22, info26, info29, info45, info64, info50, und50, aggT, gv, dstAt, aop, evalsA, partsA, evalO, updO, ofArgs, binV, intBin, unV, mmV, builtinA, Nat.reduceLT, Nat.reduceEqDiff, Nat.reduceAdd, Nat.reduceSub, Nat.reduceMul, ↓reduceIte, reduceCtorEq, t0, t1, t6, t83, t84, t85, t12, t89, t90, t91, bs, x1])
          have hnew : iv (nl r) ++ [.int .i64 ((undL M r k).getD i 0 : Nat), .int .i64 ((ovrL M r k).getD j 0 : Nat)] = iv (nl (r ++ [(undL M r k).getD i 0, (ovrL M r k).getD j 0])) := by simp [iv, nl]
          rw [hnew] at x2
          obtain ⟨b', hb', hR'⟩ := rowOf x2 (by omega) (by rw [nl_len, nl_len]; simp)
          refine ⟨hE.trans hE5, .inl ⟨_, b', by omega, hR', hcy.app u1 o1 u2 o2 (fun e => o3 (by rw [← e]; exact u3)) (ring_lost hC hcy u1 u2 (hno _ u1 u2) u3 _ (by omega)) h1 (ring_won hC hcy o1 o2 (hno _ o1 o2) o3 0 hr0), by simp⟩⟩
        · have f1 : (M ((undL M r k).getD i 0) ((ovrL M r k).getD j 0) == 1) = false := by simpa using h1
          repeat (first | with_reducible (first | refine W_seq ?_ | refine W_block ?_ | refine W_scope ?_ | refine W_regionV hTT ?_ | refine W_condV ?_ | refine W_ret ?_ | refine W_exit ?_ | refine W_skip ?_ | refine W_label ?_ | refine W_drawV hTT (by kernel_rfl) ?_) | simp only [H0, J86, J87, und3, und4, und22, und26, und29, und45, und64, info3, info4, info22, info26, info29, info45, info64, info50, und50, aggT, gv, dstAt, aop, evalsA, partsA, evalO, updO, ofArgs, binV, intBin, unV, mmV, builtinA, Nat.reduceLT, Nat.reduceEqDiff, Nat.reduceAdd, Nat.reduceSub, Nat.reduceMul, ↓reduceIte, reduceCtorEq, t0, t1, t6, t83, t84, t85, t12, t89, t90, t91, e3, b1, b2, c1, c2, c3, c4, f1])
          refine LoopQ_intro ((ovrL M r k).length - (j + 1)) (by omega) ⟨rfl, rfl, j + 1, rfl, by omega, by simp only [H0, J86, J87, und3, und4, und22, und26, und29, und45, und64, info3, info4, info22, info26, info29, info45, info64, info50, und50, aggT, gv, dstAt, aop, evalsA, partsA, evalO, updO, ofArgs, binV, intBin, unV, mmV, builtinA, Nat.reduceLT, Nat.reduceEqDiff, Nat.reduceAdd, Nat.reduceSub, Nat.reduceMul, ↓reduceIte, reduceCtorEq, t0], by simp only [H0, J86, J87, und3, und4, und22, und26, und29, und45, und64, info3, info4, info22, info26, info29, info45, info64, info50, und50, aggT, gv, dstAt, aop, evalsA, partsA, evalO, updO, ofArgs, binV, intBin, unV, mmV, builtinA, Nat.reduceLT, Nat.reduceEqDiff, Nat.reduceAdd, Nat.reduceSub, Nat.reduceMul, ↓reduceIte, reduceCtorEq, t1], by simp only [H0, J86, J87, und3, und4, und22, und26, und29, und45, und64, info3, info4, info22, info26, info29, info45, info64, info50, und50, aggT, gv, dstAt, aop, evalsA, partsA, evalO, updO, ofArgs, binV, intBin, unV, mmV, builtinA, Nat.reduceLT, Nat.reduceEqDiff, Nat.reduceAdd, Nat.reduceSub, Nat.reduceMul, ↓reduceIte, reduceCtorEq, t6], by simp only [H0, J86, J87, und3, und4, und22, und26, und29, und45, und64, info3, info4, info22, info26, info29, info45, info64, info50, und50, aggT, gv, dstAt, aop, evalsA, partsA, evalO, updO, ofArgs, binV, intBin, unV, mmV, builtinA, Nat.reduceLT, Nat.reduceEqDiff, Nat.reduceAdd, Nat.reduceSub, Nat.reduceMul, ↓reduceIte, reduceCtorEq, t83], by simp only [H0, J86, J87, und3, und4, und22, und26, und29, und45, und64, info3, info4, info22, info26, info29, info45, info64, info50, und50, aggT, gv, dstAt, aop, evalsA, partsA, evalO, updO, ofArgs, binV, intBin, unV, mmV, builtinA, Nat.reduceLT, Nat.reduceEqDiff, Nat.reduceAdd, Nat.reduceSub, Nat.reduceMul, ↓reduceIte, reduceCtorEq, t84], by simp only [H0, J86, J87, und3, und4, und22, und26, und29, und45, und64, info3, info4, info22, info26, info29, info45, info64, info50, und50, aggT, gv, dstAt, aop, evalsA, partsA, evalO, updO, ofArgs, binV, intBin, unV, mmV, builtinA, Nat.reduceLT, Nat.reduceEqDiff, Nat.reduceAdd, Nat.reduceSub, Nat.reduceMul, ↓reduceIte, reduceCtorEq, t85], by simp only [H0, J86, J87, und3, und4, und22, und26, und29, und45, und64, info3, info4, info22, info26, info29, info45, info64, info50, und50, aggT, gv, dstAt, aop, evalsA, partsA, evalO, updO, ofArgs, binV, intBin, unV, mmV, builtinA, Nat.reduceLT, Nat.reduceEqDiff, Nat.reduceAdd, Nat.reduceSub, Nat.reduceMul, ↓reduceIte, reduceCtorEq, t12], by simp only [H0, J86, J87, und3, und4, und22, und26, und29, und45, und64, info3, info4, info22, info26, info29, info45, info64, info50, und50, aggT, gv, dstAt, aop, evalsA, partsA, evalO, updO, ofArgs, binV, intBin, unV, mmV, builtinA, Nat.reduceLT, Nat.reduceEqDiff, Nat.reduceAdd, Nat.reduceSub, Nat.reduceMul, ↓reduceIte, reduceCtorEq, t89], by simp only [H0, J86, J87, und3, und4, und22, und26, und29, und45, und64, info3, info4, info22, info26, info29, info45, info64, info50, und50, aggT, gv, dstAt, aop, evalsA, partsA, evalO, updO, ofArgs, binV, intBin, unV, mmV, builtinA, Nat.reduceLT, Nat.reduceEqDiff, Nat.reduceAdd, Nat.reduceSub, Nat.reduceMul, ↓reduceIte, reduceCtorEq, t90], by simp only [H0, J86, J87, und3, und4, und22, und26, und29, und45, und64, info3, info4, info22, info26, info29, info45, info64, info50, und50, aggT, gv, dstAt, aop, evalsA, partsA, evalO, updO, ofArgs, binV, intBin, unV, mmV, builtinA, Nat.reduceLT, Nat.reduceEqDiff, Nat.reduceAdd, Nat.reduceSub, Nat.reduceMul, ↓reduceIte, reduceCtorEq, t91, hwj], ?_⟩
          intro a ha
          by_cases e : a = j
          · subst e; exact h1
          · exact hnq a (by omega)
      · have e3 : decide ((j : Int) < (ovrL M r k).length) = false := by simpa using hjo
        repeat (first | with_reducible (first | refine W_seq ?_ | refine W_block ?_ | refine W_scope ?_ | refine W_regionV hTT ?_ | refine W_condV ?_ | refine W_ret ?_ | refine W_exit ?_ | refine W_skip ?_ | refine W_label ?_ | refine W_drawV hTT (by kernel_rfl) ?_) | simp only [H0, J86, J87, und3, und4, und22, und26, und29, und45, und64, info3, info4, info22, info26, info29, info45, info64, info50, und50, aggT, gv, dstAt, aop, evalsA, partsA, evalO, updO, ofArgs, binV, intBin, unV, mmV, builtinA, Nat.reduceLT, Nat.reduceEqDiff, Nat.reduceAdd, Nat.reduceSub, Nat.reduceMul, ↓reduceIte, reduceCtorEq, t0, t1, t6, t83, t84, t85, t12, t89, t90, t91, e3, hwi])
        refine LoopQ_intro ((undL M r k).length - (i + 1)) (by omega) ⟨rfl, rfl, i + 1, rfl, by omega, by simp only [H0, J86, J87, und3, und4, und22, und26, und29, und45, und64, info3, info4, info22, info26, info29, info45, info64, info50, und50, aggT, gv, dstAt, aop, evalsA, partsA, evalO, updO, ofArgs, binV, intBin, unV, mmV, builtinA, Nat.reduceLT, Nat.reduceEqDiff, Nat.reduceAdd, Nat.reduceSub, Nat.reduceMul, ↓reduceIte, reduceCtorEq, t0], by simp only [H0, J86, J87, und3, und4, und22, und26, und29, und45, und64, info3, info4, info22, info26, info29, info45, info64, info50, und50, aggT, gv, dstAt, aop, evalsA, partsA, evalO, updO, ofArgs, binV, intBin, unV, mmV, builtinA, Nat.reduceLT, Nat.reduceEqDiff, Nat.reduceAdd, Nat.reduceSub, Nat.reduceMul, ↓reduceIte, reduceCtorEq, t1], by simp only [H0, J86, J87, und3, und4, und22, und26, und29, und45, und64, info3, info4, info22, info26, info29, info45, info64, info50, und50, aggT, gv, dstAt, aop, evalsA, partsA, evalO, updO, ofArgs, binV, intBin, unV, mmV, builtinA, Nat.reduceLT, Nat.reduceEqDiff, Nat.reduceAdd, Nat.reduceSub, Nat.reduceMul, ↓reduceIte, reduceCtorEq, t6], by simp only [H0, J86, J87, und3, und4, und22, und26, und29, und45, und64, info3, info4, info22, info26, info29, info45, info64, info50, und50, aggT, gv, dstAt, aop, evalsA, partsA, evalO, updO, ofArgs, binV, intBin, unV, mmV, builtinA, Nat.reduceLT, Nat.reduceEqDiff, Nat.reduceAdd, Nat.reduceSub, Nat.reduceMul, ↓reduceIte, reduceCtorEq, t83], by simp only [H0, J86, J87, und3, und4, und22, und26, und29, und45, und64, info3, info4, info22, info26, info29, info45, info64, info50, und50, aggT, gv, dstAt, aop, evalsA, partsA, evalO, updO, ofArgs, binV, intBin, unV, mmV, builtinA, Nat.reduceLT, Nat.reduceEqDiff, Nat.reduceAdd, Nat.reduceSub, Nat.reduceMul, ↓reduceIte, reduceCtorEq, t84], by simp only [H0, J86, J87, und3, und4, und22, und26, und29, und45, und64, info3, info4, info22, info26, info29, info45, info64, info50, und50, aggT, gv, dstAt, aop, evalsA, partsA, evalO, updO, ofArgs, binV, intBin, unV, mmV, builtinA, Nat.reduceLT, Nat.reduceEqDiff, Nat.reduceAdd, Nat.reduceSub, Nat.reduceMul, ↓reduceIte, reduceCtorEq, t85, hwi], ?_⟩
        intro a ha w hw9
        by_cases e : a = i
        · subst e
          obtain ⟨c, hc, rfl⟩ := getD_of_mem hw9
          exact hnq c (by omega)
        · exact hnp a (by omega) w hw9
    · have e2 : decide ((i : Int) < (undL M r k).length) = false := by simpa using hiu
      repeat (first | with_reducible (first | refine W_seq ?_ | refine W_block ?_ | refine W_scope ?_ | refine W_regionV hTT ?_ | refine W_condV ?_ | refine W_ret ?_ | refine W_exit ?_ | refine W_skip ?_ | refine W_label ?_ | refine W_drawV hTT (by kernel_rfl) ?_) | simp only [H0, J86, J87, und3, und4, und22, und26, und29, und45, und64, info3, info4, info22, info26, info29, info45, info64, info50, und50, aggT, gv, dstAt, aop, evalsA, partsA, evalO, updO, ofArgs, binV, intBin, unV, mmV, builtinA, Nat.reduceLT, Nat.reduceEqDiff, Nat.reduceAdd, Nat.reduceSub, Nat.reduceMul, ↓reduceIte, reduceCtorEq, t0, t1, t6, t83, t84, t85, e2])
      refine ⟨hE, .inr (stuck_over hC hcy hrn hno ?_)⟩
      intro v w hv hw9 hvr hwr h1 h2
      have hvU : v ∈ undL M r k := List.mem_filter.2 ⟨List.mem_range.2 hv, decide_eq_true ⟨hvr, h1⟩⟩
      have hwO : w ∈ ovrL M r k := List.mem_filter.2 ⟨List.mem_range.2 hw9, decide_eq_true ⟨hwr, h2⟩⟩
      obtain ⟨c, hc, rfl⟩ := getD_of_mem hvU
      exact hnp c (by omega) w hwO
end Go.Proofs.Sz
end
/- part Zkg -/
section
namespace Go.Proofs.Sz
open Go Go.Ax Go.Proofs Go.RowKit
theorem neqNil : binP PP .neq 26 (.slice none 0 0) (.slice none 0 0) = some (.bool false) := by kernel_rfl
theorem neqB (a b : Bool) : binP PP .neq 4 (.bool a) (.bool b) = some (.bool (a != b)) := by cases a <;> cases b <;> kernel_rfl
theorem binAx_nils {n : Nat} {τ : Nat → Value} {d : Option Tmp} {x y : Operand} {u t0 : TypeId} {p0 : String} {af : Array Edge} {gd : Option (Nat × Bool)} (hx : evalA (tl n τ) x = some (.slice none 0 0)) (hy : evalA (tl n τ) y = some (.slice none 0 0)) : binAx PP TT n τ { dst := d, op := .binOp .neq 26 x y u, type := t0, pos := p0, after := af, guard := gd } .neq 26 x y = some (.bool false) := by
  unfold binAx
  rw [binP_eq rfl hx hy (by simp [nilEqA, und26]) (fun _ _ _ _ => rfl)]
  exact neqNil
theorem fn17 : TT.fn 17 = some Tryz.f17 := by kernel_rfl
theorem Cyc.le {n : Nat} {M : Nat → Nat → Int} {r : List Nat} (h : Cyc n M r) : r.length ≤ n := by
  have := sub_len h.nodup (List.nodup_range (n := n)) fun x hx => List.mem_range.2 (h.lt x hx)
  rwa [List.length_range] at this
theorem cyc_three {n : Nat} {M : Nat → Nat → Int} (hC : IsC n M) {i j k : Nat} (hi : i < n) (hj : j < n) (hk : k < n) (h : M i j + M j k + M k i = 3) : Cyc n M [i, j, k] := by
  have b1 := hC.bit hi hj
  have b2 := hC.bit hj hk
  have b3 := hC.bit hk hi
  have e1 : M i j = 1 := by omega
  have e2 : M j k = 1 := by omega
  have e3 : M k i = 1 := by omega
  have n1 : i ≠ j := fun e => by subst e; rw [hC.self hi] at e1; omega
  have n2 : j ≠ k := fun e => by subst e; rw [hC.self hj] at e2; omega
  have n3 : k ≠ i := fun e => by subst e; rw [hC.self hk] at e3; omega
  refine ⟨by simp [n1, n2, Ne.symm n3], ?_, by simp, ?_⟩
  · intro x hx
    simp only [List.mem_cons, List.not_mem_nil, or_false] at hx
    rcases hx with rfl | rfl | rfl <;> assumption
  · intro a ha
    simp only [List.length_cons, List.length_nil] at ha ⊢
    have : a = 0 ∨ a = 1 ∨ a = 2 := by omega
    rcases this with rfl | rfl | rfl
    · exact e1
    · exact e2
    · exact e3
/-- nobody above: no set beats all others -/
theorem no_over {n : Nat} {M : Nat → Nat → Int} (hC : IsC n M) {at' : List Nat} (hp : at'.Perm (List.range n)) (hs : at'.Pairwise (fun (x y : Nat) => sc n M y ≤ sc n M x)) (hno : ∀ k, 0 < k → k < n → ¬ ls (at'.take k) (sc n M) = tri k + k * ((n : Int) - k)) : ¬ ∃ A, Over n M A := by
  rintro ⟨A, hA⟩
  exact hno A.length hA.2.2.1 hA.2.2.2.1 (over_take hC hA hp hs)
theorem two_over {M : Nat → Nat → Int} (hC : IsC 2 M) : ∃ A, Over 2 M A := by
  rcases hC.two (i := 0) (j := 1) (by omega) (by omega) (by omega) with ⟨h1, h2⟩ | ⟨h1, h2⟩
  · refine ⟨[1], by simp, by simp, by simp, by simp, ?_⟩
    intro i hi j hj hji
    simp only [List.mem_singleton] at hi hji
    have : j = 0 := by omega
    subst hi this
    exact h2
  · refine ⟨[0], by simp, by simp, by simp, by simp, ?_⟩
    intro i hi j hj hji
    simp only [List.mem_singleton] at hi hji
    have : j = 1 := by omega
    subst hi this
    exact h1
set_option maxHeartbeats 4000000 in
/-- Round -/
theorem round_call {S : St} (hok : S.ok) {vl : Value} {n : Nat} {M : Nat → Nat → Int} (hx : Mat S vl (mrows n n M)) (hpl : Plain vl n) (hn : n ≤ 20) (hC : IsC n M) :
    CallW PP 17 [vl] S (fun v S' => Ext S S' ∧ ((∃ (l : Value) (k : Nat) (at' : List Nat), v = .tuple #[.slice none 0 0, l, .int .i64 0] ∧ 0 < k ∧ k < n ∧ at'.Perm (List.range n) ∧ ls (at'.take k) (sc n M) = tri k + k * ((n : Int) - k) ∧ Mine S' 3 1 S.n l (iv (msort (nl (at'.take k)))) k) ∨
      (n < 2 ∧ v = .tuple #[.slice none 0 0, .slice none 0 0, .int .i64 0]) ∨ (3 ≤ n ∧ ∃ (u : Value) (b : Nat) (r : List Nat), v = .tuple #[u, .slice none 0 0, .int .i64 0] ∧ S.n ≤ b ∧ RowW S' b u (nl r) ∧ Cyc n M r ∧ r.length = n ∧ ¬ ∃ A, Over n M A))) := by
  have hla := hx.len (T := TT) und22
  rw [mrows_len] at hla
  refine CallW_of hTT fn17 rfl (by simp [Tryz.f17]) ?_
  unfold Tryz.f17
  repeat (first | with_reducible (first | refine W_seq ?_ | refine W_block ?_ | refine W_scope ?_ | refine W_regionV hTT ?_ | refine W_condV ?_ | refine W_ret ?_ | refine W_exit ?_ | refine W_skip ?_ | refine W_label ?_ | refine W_drawV hTT (by kernel_rfl) ?_) | simp only [H0, J86, J87, und3, und4, und22, und26, und29, und45, und64, info3, info4, info22, info26, info29, info45, info64, info50, und50, aggT, gv, dstAt, aop, evalsA, partsA, evalO, updO, ofArgs, binV, intBin, unV, mmV, builtinA, Nat.reduceLT, Nat.reduceEqDiff, Nat.reduceAdd, Nat.reduceSub, Nat.reduceMul, ↓reduceIte, reduceCtorEq])
  refine VCall_intro (isContest_yes hx (by omega) hC) ?_
  rintro v S1 ⟨rfl, rfl⟩
  repeat (first | with_reducible (first | refine W_seq ?_ | refine W_block ?_ | refine W_scope ?_ | refine W_regionV hTT ?_ | refine W_condV ?_ | refine W_ret ?_ | refine W_exit ?_ | refine W_skip ?_ | refine W_label ?_ | refine W_drawV hTT (by kernel_rfl) ?_) | simp only [H0, J86, J87, und3, und4, und22, und26, und29, und45, und64, info3, info4, info22, info26, info29, info45, info64, info50, und50, aggT, gv, dstAt, aop, evalsA, partsA, evalO, updO, ofArgs, binV, intBin, unV, mmV, builtinA, Nat.reduceLT, Nat.reduceEqDiff, Nat.reduceAdd, Nat.reduceSub, Nat.reduceMul, ↓reduceIte, reduceCtorEq])
  refine VCall_intro (above_call hok hx hpl hn hC) ?_
  rintro l S2 ⟨hE2, at', hp, hs, ⟨k, hk0, hkn, hsum, hM⟩ | ⟨rfl, hno⟩⟩
  · rcases hM with ⟨_, _, h0⟩ | ⟨b, rfl, hb1, hb2, hb3⟩
    · omega
    · repeat (first | with_reducible (first | refine W_seq ?_ | refine W_block ?_ | refine W_scope ?_ | refine W_regionV hTT ?_ | refine W_condV ?_ | refine W_ret ?_ | refine W_exit ?_ | refine W_skip ?_ | refine W_label ?_ | refine W_drawV hTT (by kernel_rfl) ?_) | simp only [H0, J86, J87, und3, und4, und22, und26, und29, und45, und64, info3, info4, info22, info26, info29, info45, info64, info50, und50, aggT, gv, dstAt, aop, evalsA, partsA, evalO, updO, ofArgs, binV, intBin, unV, mmV, builtinA, Nat.reduceLT, Nat.reduceEqDiff, Nat.reduceAdd, Nat.reduceSub, Nat.reduceMul, ↓reduceIte, reduceCtorEq, binAx, binA, nilEqA])
      exact ⟨hE2, .inl ⟨_, k, at', rfl, hk0, hkn, hp, hsum, .inr ⟨b, rfl, hb1, hb2, hb3⟩⟩⟩
  · have hx2 := hx.extd hE2
    have hla2 := hx2.len (T := TT) und22
    rw [mrows_len] at hla2
    have hnov := no_over hC hp hs hno
    by_cases h3 : n < 3
    · have e1 : decide ((n : Int) < 3) = true := decide_eq_true (by omega)
      repeat (first | with_reducible (first | refine W_seq ?_ | refine W_block ?_ | refine W_scope ?_ | refine W_regionV hTT ?_ | refine W_condV ?_ | refine W_ret ?_ | refine W_exit ?_ | refine W_skip ?_ | refine W_label ?_ | refine W_drawV hTT (by kernel_rfl) ?_) | simp only [H0, J86, J87, und3, und4, und22, und26, und29, und45, und64, info3, info4, info22, info26, info29, info45, info64, info50, und50, aggT, gv, dstAt, aop, evalsA, partsA, evalO, updO, ofArgs, binV, intBin, unV, mmV, builtinA, Nat.reduceLT, Nat.reduceEqDiff, Nat.reduceAdd, Nat.reduceSub, Nat.reduceMul, ↓reduceIte, reduceCtorEq, binAx_nils, hla2, e1])
      refine ⟨hE2, .inr (.inl ?_)⟩
      rcases Nat.lt_or_ge n 2 with h | h
      · exact h
      · exfalso
        have : n = 2 := by omega
        subst this
        exact hnov (two_over hC)
    · have e1 : decide ((n : Int) < 3) = false := decide_eq_false (by omega)
      repeat (first | with_reducible (first | refine W_seq ?_ | refine W_block ?_ | refine W_scope ?_ | refine W_regionV hTT ?_ | refine W_condV ?_ | refine W_ret ?_ | refine W_exit ?_ | refine W_skip ?_ | refine W_label ?_ | refine W_drawV hTT (by kernel_rfl) ?_) | simp only [H0, J86, J87, und3, und4, und22, und26, und29, und45, und64, info3, info4, info22, info26, info29, info45, info64, info50, und50, aggT, gv, dstAt, aop, evalsA, partsA, evalO, updO, ofArgs, binV, intBin, unV, mmV, builtinA, Nat.reduceLT, Nat.reduceEqDiff, Nat.reduceAdd, Nat.reduceSub, Nat.reduceMul, ↓reduceIte, reduceCtorEq, binAx_nils, hla2, e1])
      refine VCall_intro (three_call hE2.ok hx2 (by omega) hC) ?_
      rintro u S3 ⟨hE3, ⟨i, j, k, b, hi, hj, hk, hsum, hb, hR⟩ | ⟨rfl, hno3⟩⟩
      · have hn2 := hE2.n
        repeat (first | with_reducible (first | refine W_seq ?_ | refine W_scope ?_ | refine W_regionV hTT ?_ | refine W_condV ?_ | refine W_ret ?_ | refine W_exit ?_ | refine W_skip ?_ | refine W_label ?_ | refine W_drawV hTT (by kernel_rfl) ?_) | simp only [H0, J86, J87, und3, und4, und22, und26, und29, und45, und64, info3, info4, info22, info26, info29, info45, info64, info50, und50, aggT, gv, dstAt, aop, evalsA, partsA, evalO, updO, ofArgs, binV, intBin, unV, mmV, builtinA, Nat.reduceLT, Nat.reduceEqDiff, Nat.reduceAdd, Nat.reduceSub, Nat.reduceMul, ↓reduceIte, reduceCtorEq])
        refine W_block ?_
        refine W_loopI (fun m τ ds S' => ds = [] ∧ Ext S1 S' ∧ ∃ (r : List Nat) (b : Nat) (u : Value), m = n - r.length ∧ S1.n ≤ b ∧ RowW S' b u (nl r) ∧ Cyc n M r ∧ τ 0 = vl ∧ τ 6 = u) (n - 3) ?_ ?_
        · refine ⟨rfl, hE2.trans hE3, [i, j, k], b, u, rfl, by omega, hR, cyc_three hC hi hj hk hsum, ?_, ?_⟩ <;> first | rfl | simp only [H0, J86, J87, und3, und4, und22, und26, und29, und45, und64, info3, info4, info22, info26, info29, info45, info64, info50, und50, aggT, gv, dstAt, aop, evalsA, partsA, evalO, updO, ofArgs, binV, intBin, unV, mmV, builtinA, Nat.reduceLT, Nat.reduceEqDiff, Nat.reduceAdd, Nat.reduceSub, Nat.reduceMul, ↓reduceIte, reduceCtorEq]
        · rintro m τ ds S4 ⟨rfl, hE4, r, b, u, rfl, hb, hR, hcy, t0, t6⟩
          have hx4 := hx.extd hE4
          have hla4 := hx4.len (T := TT) und22
          rw [mrows_len] at hla4
          have hrl := hR.sl.len (T := TT) und26
          rw [nl_len] at hrl
          have hle := hcy.le
          by_cases hlt : r.length < n
          · have e2 : decide ((r.length : Int) < n) = true := by simpa using hlt
            repeat (first | with_reducible (first | refine W_seq ?_ | refine W_block ?_ | refine W_scope ?_ | refine W_regionV hTT ?_ | refine W_condV ?_ | refine W_ret ?_ | refine W_exit ?_ | refine W_skip ?_ | refine W_label ?_ | refine W_drawV hTT (by kernel_rfl) ?_) | simp only [H0, J86, J87, und3, und4, und22, und26, und29, und45, und64, info3, info4, info22, info26, info29, info45, info64, info50, und50, aggT, gv, dstAt, aop, evalsA, partsA, evalO, updO, ofArgs, binV, intBin, unV, mmV, builtinA, Nat.reduceLT, Nat.reduceEqDiff, Nat.reduceAdd, Nat.reduceSub, Nat.reduceMul, ↓reduceIte, reduceCtorEq, t0, t6, hla4, hrl, e2])
            refine VCall_intro (longer_call hE4.ok hx4 (by omega) hC hR hcy hlt) ?_
            rintro w S5 ⟨hE5, ⟨r', b', hb', hR', hcy', hlen⟩ | ⟨rfl, hA⟩⟩
            · repeat (first | with_reducible (first | refine W_seq ?_ | refine W_block ?_ | refine W_scope ?_ | refine W_regionV hTT ?_ | refine W_condV ?_ | refine W_ret ?_ | refine W_exit ?_ | refine W_skip ?_ | refine W_label ?_ | refine W_drawV hTT (by kernel_rfl) ?_) | simp only [H0, J86, J87, und3, und4, und22, und26, und29, und45, und64, info3, info4, info22, info26, info29, info45, info64, info50, und50, aggT, gv, dstAt, aop, evalsA, partsA, evalO, updO, ofArgs, binV, intBin, unV, mmV, builtinA, Nat.reduceLT, Nat.reduceEqDiff, Nat.reduceAdd, Nat.reduceSub, Nat.reduceMul, ↓reduceIte, reduceCtorEq, t0, t6])
              have hle' := hcy'.le
              have hn4 := hE4.n
              refine LoopQ_intro (n - r'.length) (by omega) ⟨rfl, hE4.trans hE5, r', b', w, rfl, by omega, hR', hcy', by simp only [H0, J86, J87, und3, und4, und22, und26, und29, und45, und64, info3, info4, info22, info26, info29, info45, info64, info50, und50, aggT, gv, dstAt, aop, evalsA, partsA, evalO, updO, ofArgs, binV, intBin, unV, mmV, builtinA, Nat.reduceLT, Nat.reduceEqDiff, Nat.reduceAdd, Nat.reduceSub, Nat.reduceMul, ↓reduceIte, reduceCtorEq, t0], by simp only [H0, J86, J87, und3, und4, und22, und26, und29, und45, und64, info3, info4, info22, info26, info29, info45, info64, info50, und50, aggT, gv, dstAt, aop, evalsA, partsA, evalO, updO, ofArgs, binV, intBin, unV, mmV, builtinA, Nat.reduceLT, Nat.reduceEqDiff, Nat.reduceAdd, Nat.reduceSub, Nat.reduceMul, ↓reduceIte, reduceCtorEq]⟩
            · exact absurd hA hnov
          · have e2 : decide ((r.length : Int) < n) = false := by simpa using hlt
            repeat (first | with_reducible (first | refine W_seq ?_ | refine W_block ?_ | refine W_scope ?_ | refine W_regionV hTT ?_ | refine W_condV ?_ | refine W_ret ?_ | refine W_exit ?_ | refine W_skip ?_ | refine W_label ?_ | refine W_drawV hTT (by kernel_rfl) ?_) | simp only [H0, J86, J87, und3, und4, und22, und26, und29, und45, und64, info3, info4, info22, info26, info29, info45, info64, info50, und50, aggT, gv, dstAt, aop, evalsA, partsA, evalO, updO, ofArgs, binV, intBin, unV, mmV, builtinA, Nat.reduceLT, Nat.reduceEqDiff, Nat.reduceAdd, Nat.reduceSub, Nat.reduceMul, ↓reduceIte, reduceCtorEq, t0, t6, hla4, hrl, e2])
            exact ⟨hE4, .inr (.inr ⟨by omega, u, b, r, rfl, hb, hR, hcy, by omega, hnov⟩)⟩
      · exact absurd (no_three hC (by omega) hno3) hnov
end Go.Proofs.Sz
end
/- part Zkh -/
section
namespace Go.Proofs.Sz
open Go Go.Ax Go.Proofs Go.RowKit
theorem tri_wraps {k : Nat} (hk0 : 0 < k) (hk : k ≤ 30) : IntKind.i64.wrap ((k : Int) - 1) = ((k - 1 : Nat) : Int) ∧ IntKind.i64.wrap ((k : Int) * ((k - 1 : Nat) : Int)) = 2 * tri k ∧ IntKind.i64.wrap ((2 * tri k).tdiv 2) = tri k := by
  have h1 := tri_le (k := k) (by omega)
  have h2 := tri_nonneg k
  have h3 := tri_two k
  have h4 : ((k - 1 : Nat) : Int) = (k : Int) - 1 := by omega
  refine ⟨by rw [wrap_id (by omega) (by omega)]; omega, by rw [h4, ← h3]; exact wrap_id (by omega) (by omega), ?_⟩
  rw [h3, tri_tdiv]
  exact wrap_id (by omega) (by omega)
theorem perm_map_inv {f : Nat → Int} {l' ys : List Int} (h : l'.Perm ys) : ∀ l : List Nat, l' = l.map f → ∃ p : List Nat, p.Perm l ∧ ys = p.map f := by
  induction h with
  | nil =>
    intro l hl
    exact ⟨l, .refl _, hl⟩
  | cons a h ih =>
    intro l hl
    cases l with
    | nil => cases hl
    | cons b l =>
      simp only [List.map_cons, List.cons.injEq] at hl
      obtain ⟨p, hp, rfl⟩ := ih l hl.2
      exact ⟨b :: p, hp.cons b, by rw [List.map_cons, hl.1]⟩
  | swap a b l0 =>
    intro l hl
    match l, hl with
    | x :: y :: l, hl =>
      simp only [List.map_cons, List.cons.injEq] at hl
      exact ⟨y :: x :: l, .swap x y l, by simp [hl.1, hl.2.1, hl.2.2]⟩
  | trans _ _ ih1 ih2 =>
    intro l hl
    obtain ⟨p, hp, h2⟩ := ih1 l hl
    obtain ⟨q, hq, h3⟩ := ih2 p h2
    exact ⟨q, hq.trans hp, h3⟩
section
variable {xs : List Int} {M : Nat → Nat → Int}
theorem scores_get (hxs : xs = (List.range xs.length).map (sc xs.length M)) {i : Nat} (hi : i < xs.length) : xs.getD i 0 = sc xs.length M i := by
  have : xs[i]? = some (sc xs.length M i) := by
    conv => lhs; rw [hxs]
    rw [List.getElem?_map, List.getElem?_range hi]
    rfl
  rw [List.getD_eq_getElem?_getD, this]
  rfl
theorem scores_bnd (hC : IsC xs.length M) (hxs : xs = (List.range xs.length).map (sc xs.length M)) (hn : xs.length ≤ 30) : ∀ x ∈ xs, 0 ≤ x ∧ x ≤ 30 := by
  intro x hx
  rw [hxs, List.mem_map] at hx
  obtain ⟨i, hi, rfl⟩ := hx
  have := sc_bnd hC (List.mem_range.1 hi)
  omega
theorem scores_sum (hC : IsC xs.length M) (hxs : xs = (List.range xs.length).map (sc xs.length M)) : xs.sum = tri xs.length := by
  have := all_scores hC
  unfold ls at this
  rwa [← hxs] at this
theorem lack_le (hC : IsC xs.length M) (hxs : xs = (List.range xs.length).map (sc xs.length M)) {k : Nat} (hk : k ≤ xs.length) : tri k ≤ ((msort xs).take k).sum := by
  obtain ⟨p, hp, hm⟩ := perm_map_inv (msort_perm xs).symm (List.range xs.length) hxs
  rw [hm, ← List.map_take]
  have hl : (p.take k).length = k := by
    rw [List.length_take, hp.length_eq, List.length_range]
    omega
  have := landau_le hC (A := p.take k) ((hp.nodup_iff.2 List.nodup_range).sublist (List.take_sublist _ _)) fun x hx => List.mem_range.1 (hp.mem_iff.1 (List.mem_of_mem_take hx))
  rw [hl] at this
  exact this
end
/-- lack -/
theorem lackX_call {S : St} (hok : S.ok) {va : Value} {xs : List Int} (hcp : va.cells = #[va]) (hx : Sl S 1 va (iv xs) xs.length) (hn : xs.length ≤ 20) (hb : ∀ x ∈ xs, 0 ≤ x ∧ x < 1000) {k : Nat} (hk0 : 0 < k) (hk : k ≤ xs.length) (hn0 : 0 < xs.length) :
    CallW PP 27 [va, .int .i64 k] S (fun v S' => v = .int .i64 (tri k - ((msort xs).take k).sum) ∧ Ext S S') := by
  refine CallW_of hTT fn27 rfl (by simp [Tryz.f27]) ?_
  unfold Tryz.f27
  have e2 : ((2 : Int) = 0) = False := by simp
  obtain ⟨w1, w2, w3⟩ := tri_wraps hk0 (by omega)
  repeat (first | with_reducible (first | refine W_seq ?_ | refine W_block ?_ | refine W_scope ?_ | refine W_regionV hTT ?_ | refine W_condV ?_ | refine W_ret ?_ | refine W_exit ?_ | refine W_skip ?_ | refine W_label ?_ | refine W_drawV hTT (by kernel_rfl) ?_) | simp only [H0, J86, J87, und3, und4, und22, und26, und29, und45, und64, info3, info4, info22, info26, info29, info45, info64, info50, und50, aggT, gv, dstAt, aop, evalsA, partsA, evalO, updO, ofArgs, binV, intBin, unV, mmV, builtinA, Nat.reduceLT, Nat.reduceEqDiff, Nat.reduceAdd, Nat.reduceSub, Nat.reduceMul, ↓reduceIte, reduceCtorEq])
  refine VCall_intro (valuesC_call hcp) ?_
  rintro v S1 ⟨rfl, rfl⟩
  repeat (first | with_reducible (first | refine W_seq ?_ | refine W_block ?_ | refine W_scope ?_ | refine W_regionV hTT ?_ | refine W_condV ?_ | refine W_ret ?_ | refine W_exit ?_ | refine W_skip ?_ | refine W_label ?_ | refine W_drawV hTT (by kernel_rfl) ?_) | simp only [H0, J86, J87, und3, und4, und22, und26, und29, und45, und64, info3, info4, info22, info26, info29, info45, info64, info50, und50, aggT, gv, dstAt, aop, evalsA, partsA, evalO, updO, ofArgs, binV, intBin, unV, mmV, builtinA, Nat.reduceLT, Nat.reduceEqDiff, Nat.reduceAdd, Nat.reduceSub, Nat.reduceMul, ↓reduceIte, reduceCtorEq])
  have hE1 : Ext S (S.push (.cells [va] 26 0)) := (Ext.refl hok).push _
  refine VCall_intro (sortedOfX_call hE1.ok (get_push_new _ rfl) (hx.extd hE1) (by omega) hn0) ?_
  rintro v S2 ⟨hM, hE2⟩
  have hyl := msort_len xs
  obtain ⟨u, u1, u2, _⟩ := hM.sl.cut (T := TT) (ty := 26) (lo := 0) (hi := k) (l := none) (r := some (.int .i64 k)) und26 info3 rfl (by omega) (.inl ⟨rfl, rfl⟩) (.inr ⟨.i64, rfl⟩) (by omega) hk hM.plain
  have hu : ((iv (msort xs)).take (k * 1)).drop (0 * 1) = iv ((msort xs).take k) := by simp [iv, List.map_take]
  have hkl : ((msort xs).take k).length = k := by rw [List.length_take]; omega
  rw [hu, Nat.sub_zero] at u2
  have u3 : Sl S2 1 u (iv ((msort xs).take k)) ((msort xs).take k).length := by rw [hkl]; exact u2
  have hb' : ∀ x ∈ msort xs, 0 ≤ x ∧ x < 1000 := fun x hx => hb x ((msort_perm xs).mem_iff.1 hx)
  have hbs := take_sum_bnd hb' k (by omega)
  have hbt := tri_le (k := k) (by omega)
  have hbt0 := tri_nonneg k
  have w4 : IntKind.i64.wrap (tri k - ((msort xs).take k).sum) = tri k - ((msort xs).take k).sum := wrap_id (by omega) (by omega)
  repeat (first | with_reducible (first | refine W_seq ?_ | refine W_block ?_ | refine W_scope ?_ | refine W_regionV hTT ?_ | refine W_condV ?_ | refine W_ret ?_ | refine W_exit ?_ | refine W_skip ?_ | refine W_label ?_ | refine W_drawV hTT (by kernel_rfl) ?_) | simp only [H0, J86, J87, und3, und4, und22, und26, und29, und45, und64, info3, info4, info22, info26, info29, info45, info64, info50, und50, aggT, gv, dstAt, aop, evalsA, partsA, evalO, updO, ofArgs, binV, intBin, unV, mmV, builtinA, Nat.reduceLT, Nat.reduceEqDiff, Nat.reduceAdd, Nat.reduceSub, Nat.reduceMul, ↓reduceIte, reduceCtorEq, e2, u1, w1, w2, w3])
  refine VCall_intro (sumX_call u3 (by omega) fun x hx => hb' x (List.mem_of_mem_take hx)) ?_
  rintro v3 S3 ⟨rfl, rfl⟩
  repeat (first | with_reducible (first | refine W_seq ?_ | refine W_block ?_ | refine W_scope ?_ | refine W_regionV hTT ?_ | refine W_condV ?_ | refine W_ret ?_ | refine W_exit ?_ | refine W_skip ?_ | refine W_label ?_ | refine W_drawV hTT (by kernel_rfl) ?_) | simp only [H0, J86, J87, und3, und4, und22, und26, und29, und45, und64, info3, info4, info22, info26, info29, info45, info64, info50, und50, aggT, gv, dstAt, aop, evalsA, partsA, evalO, updO, ofArgs, binV, intBin, unV, mmV, builtinA, Nat.reduceLT, Nat.reduceEqDiff, Nat.reduceAdd, Nat.reduceSub, Nat.reduceMul, ↓reduceIte, reduceCtorEq, e2, u1, w1, w2, w3, w4])
  exact hE1.trans hE2
set_option maxHeartbeats 8000000 in
/-- Contest, of a contest's scores: a contest with these scores -/
theorem buildX_call {S : St} (hok : S.ok) {b0 c0 : Nat} {xs : List Int} {M : Nat → Nat → Int} (hC : IsC xs.length M) (hxs : xs = (List.range xs.length).map (sc xs.length M)) (hx : Sl S 1 (.slice (some ⟨b0, 0, none⟩) xs.length c0) (iv xs) xs.length) (hn : xs.length ≤ 20) (hn0 : 0 < xs.length) :
    CallW PP 11 [.slice (some ⟨b0, 0, none⟩) xs.length c0] S (fun v S' => ∃ a D, v = .tuple #[a, .int .i64 0, .int .i64 0] ∧ Mat S' a (mrows xs.length xs.length D) ∧ Plain a xs.length ∧ IsC xs.length D ∧ (∀ i, i < xs.length → sc xs.length D i = sc xs.length M i) ∧ Ext S S') := by
  have hb : ∀ x ∈ xs, 0 ≤ x ∧ x ≤ 30 := scores_bnd hC hxs (by omega)
  have hb2 : ∀ x ∈ xs, 0 ≤ x ∧ x < 1000 := fun x hx => by have := hb x hx; omega
  have hsum : xs.sum = tri xs.length := scores_sum hC hxs
  obtain ⟨w1, w2, w3⟩ := tri_wraps (k := xs.length) (by omega) (by omega)
  have eN : (tri xs.length != tri xs.length) = false := by simp
  have hpl : Plain (.slice (some ⟨b0, 0, none⟩) xs.length c0) xs.length := .mk
  generalize hva : Value.slice (some ⟨b0, 0, none⟩) xs.length c0 = va at hpl
  have hla := hx.len (T := TT) und26
  rw [hva] at hla
  refine CallW_of hTT fn11 rfl (by simp [Tryz.f11]) ?_
  unfold Tryz.f11
  have e2 : ((2 : Int) = 0) = False := by simp
  repeat (first | with_reducible (first | refine W_seq ?_ | refine W_block ?_ | refine W_scope ?_ | refine W_regionV hTT ?_ | refine W_condV ?_ | refine W_ret ?_ | refine W_exit ?_ | refine W_skip ?_ | refine W_label ?_ | refine W_drawV hTT (by kernel_rfl) ?_) | simp only [H0, J86, J87, und3, und4, und22, und26, und29, und45, und64, info3, info4, info22, info26, info29, info45, info64, info50, und50, aggT, gv, dstAt, aop, evalsA, partsA, evalO, updO, ofArgs, binV, intBin, unV, mmV, builtinA, Nat.reduceLT, Nat.reduceEqDiff, Nat.reduceAdd, Nat.reduceSub, Nat.reduceMul, ↓reduceIte, reduceCtorEq])
  refine VCall_intro (areNumbers_yes (by rw [hva] at hx; exact hx) (by omega) hb) ?_
  rintro v S1 ⟨rfl, rfl⟩
  repeat (first | with_reducible (first | refine W_seq ?_ | refine W_block ?_ | refine W_scope ?_ | refine W_regionV hTT ?_ | refine W_condV ?_ | refine W_ret ?_ | refine W_exit ?_ | refine W_skip ?_ | refine W_label ?_ | refine W_drawV hTT (by kernel_rfl) ?_) | simp only [H0, J86, J87, und3, und4, und22, und26, und29, und45, und64, info3, info4, info22, info26, info29, info45, info64, info50, und50, aggT, gv, dstAt, aop, evalsA, partsA, evalO, updO, ofArgs, binV, intBin, unV, mmV, builtinA, Nat.reduceLT, Nat.reduceEqDiff, Nat.reduceAdd, Nat.reduceSub, Nat.reduceMul, ↓reduceIte, reduceCtorEq, hla])
  refine VCall_intro (sumX_call (by rw [hva] at hx; exact hx) (by omega) hb2) ?_
  rintro v S2 ⟨rfl, rfl⟩
  repeat (first | with_reducible (first | refine W_seq ?_ | refine W_scope ?_ | refine W_regionV hTT ?_ | refine W_condV ?_ | refine W_ret ?_ | refine W_exit ?_ | refine W_skip ?_ | refine W_label ?_ | refine W_drawV hTT (by kernel_rfl) ?_) | simp only [H0, J86, J87, und3, und4, und22, und26, und29, und45, und64, info3, info4, info22, info26, info29, info45, info64, info50, und50, aggT, gv, dstAt, aop, evalsA, partsA, evalO, updO, ofArgs, binV, intBin, unV, mmV, builtinA, Nat.reduceLT, Nat.reduceEqDiff, Nat.reduceAdd, Nat.reduceSub, Nat.reduceMul, ↓reduceIte, reduceCtorEq, hla, e2, hsum, w1, w2, w3, eN])
  refine W_block ?_
  refine W_loopI (fun m τ ds S' => Ext S2 S' ∧ ds = [] ∧ ∃ k : Nat, m = xs.length + 1 - k ∧ 1 ≤ k ∧ k ≤ xs.length + 1 ∧ τ 0 = va ∧ τ 5 = .int .i64 xs.length ∧ τ 6 = .int .i64 k) xs.length ?_ ?_
  · refine ⟨Ext.refl hok, rfl, 1, by omega, by omega, by omega, ?_, ?_, ?_⟩ <;> first | rfl | simp only [H0, J86, J87, und3, und4, und22, und26, und29, und45, und64, info3, info4, info22, info26, info29, info45, info64, info50, und50, aggT, gv, dstAt, aop, evalsA, partsA, evalO, updO, ofArgs, binV, intBin, unV, mmV, builtinA, Nat.reduceLT, Nat.reduceEqDiff, Nat.reduceAdd, Nat.reduceSub, Nat.reduceMul, ↓reduceIte, reduceCtorEq]
  rintro m τ ds S1 ⟨hE1, rfl, k, rfl, hk0, hk, t0, t5, t6⟩
  have hw := wrap_succ (k := k) (by omega)
  by_cases hlt : k ≤ xs.length
  · have e1 : decide ((k : Int) ≤ xs.length) = true := by simpa using hlt
    repeat (first | with_reducible (first | refine W_seq ?_ | refine W_block ?_ | refine W_scope ?_ | refine W_regionV hTT ?_ | refine W_condV ?_ | refine W_ret ?_ | refine W_exit ?_ | refine W_skip ?_ | refine W_label ?_ | refine W_drawV hTT (by kernel_rfl) ?_) | simp only [H0, J86, J87, und3, und4, und22, und26, und29, und45, und64, info3, info4, info22, info26, info29, info45, info64, info50, und50, aggT, gv, dstAt, aop, evalsA, partsA, evalO, updO, ofArgs, binV, intBin, unV, mmV, builtinA, Nat.reduceLT, Nat.reduceEqDiff, Nat.reduceAdd, Nat.reduceSub, Nat.reduceMul, ↓reduceIte, reduceCtorEq, t0, t5, t6, e1])
    refine VCall_intro (lackX_call hE1.ok (by rw [hva] at hx; exact slCells hx) (by rw [hva] at hx; exact hx.extd hE1) hn hb2 hk0 hlt hn0) ?_
    rintro v S3 ⟨rfl, hE3⟩
    have eL : decide (tri k - ((msort xs).take k).sum > 0) = false := decide_eq_false (by have := lack_le hC hxs hlt; omega)
    repeat (first | with_reducible (first | refine W_seq ?_ | refine W_block ?_ | refine W_scope ?_ | refine W_regionV hTT ?_ | refine W_condV ?_ | refine W_ret ?_ | refine W_exit ?_ | refine W_skip ?_ | refine W_label ?_ | refine W_drawV hTT (by kernel_rfl) ?_) | simp only [H0, J86, J87, und3, und4, und22, und26, und29, und45, und64, info3, info4, info22, info26, info29, info45, info64, info50, und50, aggT, gv, dstAt, aop, evalsA, partsA, evalO, updO, ofArgs, binV, intBin, unV, mmV, builtinA, Nat.reduceLT, Nat.reduceEqDiff, Nat.reduceAdd, Nat.reduceSub, Nat.reduceMul, ↓reduceIte, reduceCtorEq, t0, t5, t6, eL, hw])
    refine LoopQ_intro (xs.length + 1 - (k + 1)) (by omega) ⟨hE1.trans hE3, rfl, k + 1, rfl, by omega, by omega, by simp only [H0, J86, J87, und3, und4, und22, und26, und29, und45, und64, info3, info4, info22, info26, info29, info45, info64, info50, und50, aggT, gv, dstAt, aop, evalsA, partsA, evalO, updO, ofArgs, binV, intBin, unV, mmV, builtinA, Nat.reduceLT, Nat.reduceEqDiff, Nat.reduceAdd, Nat.reduceSub, Nat.reduceMul, ↓reduceIte, reduceCtorEq, t0], by simp only [H0, J86, J87, und3, und4, und22, und26, und29, und45, und64, info3, info4, info22, info26, info29, info45, info64, info50, und50, aggT, gv, dstAt, aop, evalsA, partsA, evalO, updO, ofArgs, binV, intBin, unV, mmV, builtinA, Nat.reduceLT, Nat.reduceEqDiff, Nat.reduceAdd, Nat.reduceSub, Nat.reduceMul, ↓reduceIte, reduceCtorEq, t5], by simp only [H0, J86, J87, und3, und4, und22, und26, und29, und45, und64, info3, info4, info22, info26, info29, info45, info64, info50, und50, aggT, gv, dstAt, aop, evalsA, partsA, evalO, updO, ofArgs, binV, intBin, unV, mmV, builtinA, Nat.reduceLT, Nat.reduceEqDiff, Nat.reduceAdd, Nat.reduceSub, Nat.reduceMul, ↓reduceIte, reduceCtorEq, t6, hw]⟩
  have e1 : decide ((k : Int) ≤ xs.length) = false := by simpa using hlt
  -- the table's rows
  have hmk := make_one (T := TT) (S := S1) (m := xs.length) (k := .i64) (k' := .i64) und22 info26 rfl rfl (by omega) (by omega)
  have hbn : lenOpA TT (S1.push (.cells (List.replicate xs.length (Value.slice none 0 0)) 26 0)) 22 (.slice (some ⟨S1.n, 0, none⟩) xs.length xs.length) = some (.int .i64 xs.length) := by simp [lenOpA, und22]
  repeat (first | with_reducible (first | refine W_seq ?_ | refine W_scope ?_ | refine W_regionV hTT ?_ | refine W_condV ?_ | refine W_ret ?_ | refine W_exit ?_ | refine W_skip ?_ | refine W_label ?_ | refine W_drawV hTT (by kernel_rfl) ?_) | simp only [H0, J86, J87, und3, und4, und22, und26, und29, und45, und64, info3, info4, info22, info26, info29, info45, info64, info50, und50, aggT, gv, dstAt, aop, evalsA, partsA, evalO, updO, ofArgs, binV, intBin, unV, mmV, builtinA, Nat.reduceLT, Nat.reduceEqDiff, Nat.reduceAdd, Nat.reduceSub, Nat.reduceMul, ↓reduceIte, reduceCtorEq, t0, t5, t6, e1, hmk, hbn])
  refine W_block ?_
  have hokA : (S1.push (.cells (List.replicate xs.length (Value.slice none 0 0)) 26 0)).ok := by rw [ok_push_iff]; exact hE1.ok
  have hn1 := hE1.n
  refine W_loopI (fun m τ ds S' => Ext S2 S' ∧ ds = [] ∧ ∃ (i : Nat) (bs : List Nat), m = xs.length - i ∧ i ≤ xs.length ∧ bs.length = i ∧ τ 0 = va ∧ τ 5 = .int .i64 xs.length ∧ τ 7 = .slice (some ⟨S1.n, 0, none⟩) xs.length xs.length ∧ τ 39 = .int .i64 xs.length ∧ τ 40 = .int .i64 i ∧
    S'.get S1.n = some (.cells (bs.map (rowv xs.length) ++ List.replicate (xs.length - i) (Value.slice none 0 0)) 26 0) ∧ OwnR S' S2.n xs.length 3 bs (fun _ _ => 0)) xs.length ?_ ?_
  · refine ⟨hE1.push _, rfl, 0, [], by omega, by omega, rfl, ?_, ?_, ?_, ?_, ?_, get_push_new _ rfl, ⟨by simp, by simp, by simp⟩⟩ <;> first | rfl | simp only [H0, J86, J87, und3, und4, und22, und26, und29, und45, und64, info3, info4, info22, info26, info29, info45, info64, info50, und50, aggT, gv, dstAt, aop, evalsA, partsA, evalO, updO, ofArgs, binV, intBin, unV, mmV, builtinA, Nat.reduceLT, Nat.reduceEqDiff, Nat.reduceAdd, Nat.reduceSub, Nat.reduceMul, ↓reduceIte, reduceCtorEq, t0, t5, t6]
  clear e1 hw t0 t5 t6 hbn
  rintro m τ ds S3 ⟨hE3, rfl, i, bs, rfl, hi, hbs, t0, t5, t7, t39, t40, htab, hR⟩
  have hw := wrap_succ (k := i) (by omega)
  by_cases hlt2 : i < xs.length
  · have e1 : decide ((i : Int) < xs.length) = true := by simpa using hlt2
    have hmk := make_one (T := TT) (S := S3) (m := xs.length) (k := .i64) (k' := .i64) und26 info3 rfl rfl (by omega) (by omega)
    rw [mrow_zero] at hmk
    have a1 := arr_index (T := TT) (b := S1.n) (c := xs.length) (k := .i64) und22 info26 rfl hlt2
    have hlt3 := lt_of_get htab
    have htab' : (S3.push (.cells (iv (mrow xs.length fun _ => 0)) 3 0)).get S1.n = some (.cells (bs.map (rowv xs.length) ++ List.replicate (xs.length - i) (Value.slice none 0 0)) 26 0) := by
      rw [get_push_ne _ (by omega)]; exact htab
    have s1 := store_one (T := TT) (v := rowv xs.length S3.n) (o := i) info26 htab' rfl rfl (by simp [hbs]; omega)
    have hset : (bs.map (rowv xs.length) ++ List.replicate (xs.length - i) (Value.slice none 0 0)).set i (rowv xs.length S3.n) = (bs ++ [S3.n]).map (rowv xs.length) ++ List.replicate (xs.length - (i + 1)) (Value.slice none 0 0) := by
      rw [List.set_append_right _ _ (by simp [hbs])]
      have : xs.length - i = (xs.length - (i + 1)) + 1 := by omega
      rw [this, List.replicate_succ]
      simp [hbs]
    rw [hset] at s1
    change storeA TT _ 26 (.slice (some ⟨S3.n, 0, none⟩) xs.length xs.length) _ = _ at s1
    have hokP : (S3.push (.cells (iv (mrow xs.length fun _ => 0)) 3 0)).ok := by rw [ok_push_iff]; exact hE3.ok
    repeat (first | with_reducible (first | refine W_seq ?_ | refine W_block ?_ | refine W_scope ?_ | refine W_regionV hTT ?_ | refine W_condV ?_ | refine W_ret ?_ | refine W_exit ?_ | refine W_skip ?_ | refine W_label ?_ | refine W_drawV hTT (by kernel_rfl) ?_) | simp only [H0, J86, J87, und3, und4, und22, und26, und29, und45, und64, info3, info4, info22, info26, info29, info45, info64, info50, und50, aggT, gv, dstAt, aop, evalsA, partsA, evalO, updO, ofArgs, binV, intBin, unV, mmV, builtinA, Nat.reduceLT, Nat.reduceEqDiff, Nat.reduceAdd, Nat.reduceSub, Nat.reduceMul, ↓reduceIte, reduceCtorEq, t0, t5, t7, t39, t40, e1, hmk, a1, s1, hw])
    refine LoopQ_intro (xs.length - (i + 1)) (by omega) ⟨(hE3.push _).set _ (by omega) (by rw [push_n]; omega), rfl, i + 1, bs ++ [S3.n], rfl, by omega, by simp [hbs], by simp only [H0, J86, J87, und3, und4, und22, und26, und29, und45, und64, info3, info4, info22, info26, info29, info45, info64, info50, und50, aggT, gv, dstAt, aop, evalsA, partsA, evalO, updO, ofArgs, binV, intBin, unV, mmV, builtinA, Nat.reduceLT, Nat.reduceEqDiff, Nat.reduceAdd, Nat.reduceSub, Nat.reduceMul, ↓reduceIte, reduceCtorEq, t0], by simp only [H0, J86, J87, und3, und4, und22, und26, und29, und45, und64, info3, info4, info22, info26, info29, info45, info64, info50, und50, aggT, gv, dstAt, aop, evalsA, partsA, evalO, updO, ofArgs, binV, intBin, unV, mmV, builtinA, Nat.reduceLT, Nat.reduceEqDiff, Nat.reduceAdd, Nat.reduceSub, Nat.reduceMul, ↓reduceIte, reduceCtorEq, t5], by simp only [H0, J86, J87, und3, und4, und22, und26, und29, und45, und64, info3, info4, info22, info26, info29, info45, info64, info50, und50, aggT, gv, dstAt, aop, evalsA, partsA, evalO, updO, ofArgs, binV, intBin, unV, mmV, builtinA, Nat.reduceLT, Nat.reduceEqDiff, Nat.reduceAdd, Nat.reduceSub, Nat.reduceMul, ↓reduceIte, reduceCtorEq, t7], by simp only [H0, J86, J87, und3, und4, und22, und26, und29, und45, und64, info3, info4, info22, info26, info29, info45, info64, info50, und50, aggT, gv, dstAt, aop, evalsA, partsA, evalO, updO, ofArgs, binV, intBin, unV, mmV, builtinA, Nat.reduceLT, Nat.reduceEqDiff, Nat.reduceAdd, Nat.reduceSub, Nat.reduceMul, ↓reduceIte, reduceCtorEq, t39], by simp only [H0, J86, J87, und3, und4, und22, und26, und29, und45, und64, info3, info4, info22, info26, info29, info45, info64, info50, und50, aggT, gv, dstAt, aop, evalsA, partsA, evalO, updO, ofArgs, binV, intBin, unV, mmV, builtinA, Nat.reduceLT, Nat.reduceEqDiff, Nat.reduceAdd, Nat.reduceSub, Nat.reduceMul, ↓reduceIte, reduceCtorEq, t40, hw], ?_, ?_⟩
    · exact get_set_same _ hokP (by rw [push_n]; omega) rfl
    · refine hR.more (fun _ => rfl) (fun j hj => ?_) (b := S3.n) ?_ hE3.n (fun j hj => ?_)
      · have hg := hR.get j hj
        have hl := lt_of_get hg
        rw [get_set_ne _ (by rw [push_n]; omega) (fun e => by rw [e, htab] at hg; simp at hg), get_push_ne _ (by omega)]
      · rw [get_set_ne _ (by rw [push_n]; omega) (by omega)]
        exact get_push_new _ rfl
      · have := lt_of_get (hR.get j hj)
        omega
  have e1 : decide ((i : Int) < xs.length) = false := by simpa using hlt2
  have hii : i = xs.length := by omega
  subst hii
  repeat (first | with_reducible (first | refine W_seq ?_ | refine W_block ?_ | refine W_scope ?_ | refine W_regionV hTT ?_ | refine W_condV ?_ | refine W_ret ?_ | refine W_exit ?_ | refine W_skip ?_ | refine W_label ?_ | refine W_drawV hTT (by kernel_rfl) ?_) | simp only [H0, J86, J87, und3, und4, und22, und26, und29, und45, und64, info3, info4, info22, info26, info29, info45, info64, info50, und50, aggT, gv, dstAt, aop, evalsA, partsA, evalO, updO, ofArgs, binV, intBin, unV, mmV, builtinA, Nat.reduceLT, Nat.reduceEqDiff, Nat.reduceAdd, Nat.reduceSub, Nat.reduceMul, ↓reduceIte, reduceCtorEq, t0, t5, t7, t39, t40, e1])
  rw [← hva]
  refine VCall_intro (clone_call hE3.ok (hx.extd hE3) hn0 (by omega)) ?_
  rintro v S4 ⟨⟨bd, hbd, rfl, hleft⟩, hE4⟩
  have hn3 := hE3.n
  have hn4 := hE4.n
  have s1 := store_one (T := TT) (S := S4.push (.cells [.slice none 0 0] 26 0)) (b := S4.n) (o := 0) (v := .slice (some ⟨bd, 0, none⟩) xs.length BIG) info26 (get_push_new _ rfl) rfl rfl (by simp)
  simp only [List.set_cons_zero] at s1
  have hbdlt := lt_of_get hleft
  generalize hS5 : (S4.push (.cells [.slice none 0 0] 26 0)).set S4.n (.cells [.slice (some ⟨bd, 0, none⟩) xs.length BIG] 26 0) = S5 at s1
  have hokP : (S4.push (.cells [.slice none 0 0] 26 0)).ok := by rw [ok_push_iff]; exact hE4.ok
  have hE5 : Ext S4 S5 := by
    rw [← hS5]
    exact ((Ext.refl hE4.ok).push _).set _ (Nat.le_refl _) (by rw [push_n]; omega)
  have hE35 := hE4.trans hE5
  have htab2 := hE35.get htab
  rw [Nat.sub_self, List.replicate_zero, List.append_nil] at htab2
  have hC9 : CSt S2 S5 xs.length S1.n S4.n bd bs (fun _ _ => 0) xs := ⟨hE3.trans hE35, ⟨by omega, by omega, by omega⟩, htab2, hbs, hR.keep fun i hi => hE35.same _ (lt_of_get (hR.get i hi)), by rw [← hS5]; exact get_set_same _ hokP (by rw [push_n]; omega) rfl, hE5.get hleft, rfl⟩
  have hwn : IntKind.i64.wrap ((xs.length : Int) - 1) = xs.length - 1 := wrap_id (by omega) (by omega)
  repeat (first | with_reducible (first | refine W_seq ?_ | refine W_scope ?_ | refine W_regionV hTT ?_ | refine W_condV ?_ | refine W_ret ?_ | refine W_exit ?_ | refine W_skip ?_ | refine W_label ?_ | refine W_drawV hTT (by kernel_rfl) ?_) | simp only [H0, J86, J87, und3, und4, und22, und26, und29, und45, und64, info3, info4, info22, info26, info29, info45, info64, info50, und50, aggT, gv, dstAt, aop, evalsA, partsA, evalO, updO, ofArgs, binV, intBin, unV, mmV, builtinA, Nat.reduceLT, Nat.reduceEqDiff, Nat.reduceAdd, Nat.reduceSub, Nat.reduceMul, ↓reduceIte, reduceCtorEq, t0, t5, t7, al26, s1, hwn])
  clear t0 t39 t40 hmk hw e1 s1 hS5 htab hleft hR hE5 hE35 htab2
  refine W_block ?_
  have hst0 : Stage xs.length xs.length (sc xs.length M) (fun _ _ => 0) (fun i => xs.getD i 0) := by
    have h1 := Stage.init hC
    refine ⟨h1.le, ⟨M, hC, fun i hi => ?_⟩, h1.free, h1.self, h1.done, fun i hi => ?_⟩
    · exact scores_get hxs hi
    · have := h1.sum i hi
      rw [if_pos hi] at this ⊢
      rw [scores_get hxs hi]
      exact this
  refine W_loopI (fun m τ ds S' => ds = [] ∧ τ 7 = .slice (some ⟨S1.n, 0, none⟩) xs.length xs.length ∧ τ 9 = .pointer (some ⟨S4.n, 0, none⟩) ∧ τ 10 = .int .i64 ((m : Int) - 1) ∧ m ≤ xs.length ∧ ∃ D ys, CSt S2 S' xs.length S1.n S4.n bd bs D ys ∧ Stage xs.length m (sc xs.length M) D (fun i => ys.getD i 0)) xs.length ?_ ?_
  · refine ⟨rfl, ?_, ?_, ?_, Nat.le_refl _, _, _, hC9, hst0⟩ <;> first | rfl | simp only [H0, J86, J87, und3, und4, und22, und26, und29, und45, und64, info3, info4, info22, info26, info29, info45, info64, info50, und50, aggT, gv, dstAt, aop, evalsA, partsA, evalO, updO, ofArgs, binV, intBin, unV, mmV, builtinA, Nat.reduceLT, Nat.reduceEqDiff, Nat.reduceAdd, Nat.reduceSub, Nat.reduceMul, ↓reduceIte, reduceCtorEq, t7, hwn]
  clear t5 t7 hC9 hwn hst0
  rintro m τ ds S6 ⟨rfl, t7, t9, t10, hm, D, ys, hC9, hst⟩
  cases m with
  | zero =>
    have e1 : decide ((((0 : Nat) : Int) - 1) ≥ 0) = false := rfl
    have hfin := hst.fin
    repeat (first | with_reducible (first | refine W_seq ?_ | refine W_block ?_ | refine W_scope ?_ | refine W_regionV hTT ?_ | refine W_condV ?_ | refine W_ret ?_ | refine W_exit ?_ | refine W_skip ?_ | refine W_label ?_ | refine W_drawV hTT (by kernel_rfl) ?_) | simp only [H0, J86, J87, und3, und4, und22, und26, und29, und45, und64, info3, info4, info22, info26, info29, info45, info64, info50, und50, aggT, gv, dstAt, aop, evalsA, partsA, evalO, updO, ofArgs, binV, intBin, unV, mmV, builtinA, Nat.reduceLT, Nat.reduceEqDiff, Nat.reduceAdd, Nat.reduceSub, Nat.reduceMul, ↓reduceIte, reduceCtorEq, t7, t9, t10, e1])
    refine ⟨_, D, rfl, hC9.rows.mat (Sl.of_cells (c := xs.length) hC9.tab (by rw [List.length_map, hC9.len, Nat.mul_one]) (by unfold BIG; omega) (Nat.le_refl _)) hC9.len (by omega), .mk, hfin.1, hfin.2, hC9.ext⟩
  | succ p =>
    have hp1 : (((p + 1 : Nat) : Int) - 1) = p := by omega
    rw [hp1] at t10
    have e1 : decide ((p : Int) ≥ 0) = true := by simp
    have hwp : IntKind.i64.wrap ((p : Int) - 1) = p - 1 := wrap_id (by omega) (by omega)
    have hbn := hst.bnd (i := p) (by omega)
    obtain ⟨d, hd⟩ : ∃ d : Nat, ys.getD p 0 = d := ⟨(ys.getD p 0).toNat, by omega⟩
    repeat (first | with_reducible (first | refine W_seq ?_ | refine W_scope ?_ | refine W_regionV hTT ?_ | refine W_condV ?_ | refine W_ret ?_ | refine W_exit ?_ | refine W_skip ?_ | refine W_label ?_ | refine W_drawV hTT (by kernel_rfl) ?_) | simp only [H0, J86, J87, und3, und4, und22, und26, und29, und45, und64, info3, info4, info22, info26, info29, info45, info64, info50, und50, aggT, gv, dstAt, aop, evalsA, partsA, evalO, updO, ofArgs, binV, intBin, unV, mmV, builtinA, Nat.reduceLT, Nat.reduceEqDiff, Nat.reduceAdd, Nat.reduceSub, Nat.reduceMul, ↓reduceIte, reduceCtorEq, t7, t9, t10, e1])
    refine W_cut (fun τ ds S' => ds = [] ∧ τ 7 = .slice (some ⟨S1.n, 0, none⟩) xs.length xs.length ∧ τ 9 = .pointer (some ⟨S4.n, 0, none⟩) ∧ τ 10 = .int .i64 p ∧ ∃ D ys, CSt S2 S' xs.length S1.n S4.n bd bs D ys ∧ Stage xs.length p (sc xs.length M) D (fun i => ys.getD i 0)) ?_ ?_
    · refine W_block ?_
      repeat (first | with_reducible (first | refine W_seq ?_ | refine W_block ?_ | refine W_scope ?_ | refine W_regionV hTT ?_ | refine W_condV ?_ | refine W_ret ?_ | refine W_exit ?_ | refine W_skip ?_ | refine W_label ?_ | refine W_drawV hTT (by kernel_rfl) ?_) | simp only [H0, J86, J87, und3, und4, und22, und26, und29, und45, und64, info3, info4, info22, info26, info29, info45, info64, info50, und50, aggT, gv, dstAt, aop, evalsA, partsA, evalO, updO, ofArgs, binV, intBin, unV, mmV, builtinA, Nat.reduceLT, Nat.reduceEqDiff, Nat.reduceAdd, Nat.reduceSub, Nat.reduceMul, ↓reduceIte, reduceCtorEq, t7, t9, t10, fnOk_func])
      refine VCall_intro (sortedKey_call hC9.ext.ok (n := p) (by omega) (g := 30) (cs := [.pointer (some ⟨S4.n, 0, none⟩)]) (by decide) (K := fun x => ys.getD x.toNat 0) ?_) ?_
      · intro S' hE' i hi
        have hC' := hC9.more hE'
        exact left_call hC'.box hC'.left hC'.llen (i := i) (by omega)
      rintro v S7 ⟨⟨at', hat, hso, hM7⟩, hE7⟩
      have hC7 := hC9.more hE7
      have hfr : ∀ i (h : i < bs.length), bs[i] < S6.n := fun i h => lt_of_get (hC9.rows.get i h)
      have hfd := lt_of_get hC9.left
      have hal : at'.length = p := by rw [hat.length_eq, List.length_range]
      have hnd : at'.Nodup := hat.nodup_iff.2 List.nodup_range
      have hlv := hM7.sl.len (T := TT) und26
      have hyl := hC9.llen
      have hgl : ∀ q, q ≤ p → ∀ i, (gL ys d at' q).getD i 0 = ys.getD i 0 - if i ∈ (at'.take q).drop d then 1 else 0 := fun q hq i => gL_eq hnd (fun x hx => by have := List.mem_range.1 (hat.mem_iff.1 hx); omega) q (by omega) i
      repeat (first | with_reducible (first | refine W_seq ?_ | refine W_scope ?_ | refine W_regionV hTT ?_ | refine W_condV ?_ | refine W_ret ?_ | refine W_exit ?_ | refine W_skip ?_ | refine W_label ?_ | refine W_drawV hTT (by kernel_rfl) ?_) | simp only [H0, J86, J87, und3, und4, und22, und26, und29, und45, und64, info3, info4, info22, info26, info29, info45, info64, info50, und50, aggT, gv, dstAt, aop, evalsA, partsA, evalO, updO, ofArgs, binV, intBin, unV, mmV, builtinA, Nat.reduceLT, Nat.reduceEqDiff, Nat.reduceAdd, Nat.reduceSub, Nat.reduceMul, ↓reduceIte, reduceCtorEq, t7, t9, t10, hlv])
      refine W_block ?_
      refine W_loopI (fun m τ ds S' => ds = [] ∧ ∃ (q : Nat), m = p - q ∧ q ≤ p ∧ τ 7 = .slice (some ⟨S1.n, 0, none⟩) xs.length xs.length ∧ τ 9 = .pointer (some ⟨S4.n, 0, none⟩) ∧ τ 10 = .int .i64 p ∧ τ 59 = v ∧ τ 60 = .int .i64 p ∧ τ 61 = .int .i64 q ∧ CSt S2 S' xs.length S1.n S4.n bd bs (gM D p d at' q) (gL ys d at' q) ∧ Mine S' 3 1 S6.n v (iv (nl at')) p) p ?_ ?_
      · refine ⟨rfl, 0, by omega, by omega, ?_, ?_, ?_, ?_, ?_, ?_, hC7, hM7⟩ <;> first | rfl | simp only [H0, J86, J87, und3, und4, und22, und26, und29, und45, und64, info3, info4, info22, info26, info29, info45, info64, info50, und50, aggT, gv, dstAt, aop, evalsA, partsA, evalO, updO, ofArgs, binV, intBin, unV, mmV, builtinA, Nat.reduceLT, Nat.reduceEqDiff, Nat.reduceAdd, Nat.reduceSub, Nat.reduceMul, ↓reduceIte, reduceCtorEq, t7, t9, t10]
      clear t7 t9 t10 hC7 hM7 hlv
      rintro m τ ds S8 ⟨rfl, q, rfl, hq, t7, t9, t10, t59, t60, t61, hC8, hM8⟩
      by_cases hqp : q < p
      · have e3 : decide ((q : Int) < p) = true := by simpa using hqp
        have hwq := wrap_succ (k := q) (by omega)
        have hqa : q < at'.length := by omega
        obtain ⟨p1, a1, a2⟩ := listAt (L := at') (by rw [hal]; exact hM8.sl) hqa
        have hxp : at'.getD q 0 < p := List.mem_range.1 (hat.mem_iff.1 (getD_mem hqa))
        generalize hxe : at'.getD q 0 = x at a2 hxp
        have r1 := load_one (o := 0) und26 info26 rfl hC8.box
        simp only [List.getElem?_cons_zero] at r1
        have b1 := arr_index (T := TT) (b := bd) (c := BIG) (n := xs.length) (k := .i64) (i := p) und26 info3 rfl (by omega)
        have r2 := load_one (o := p) und3 info3 rfl hC8.left
        have hgp : (gL ys d at' q).getD p 0 = d := by
          rw [hgl q (by omega) p, hd, if_neg (fun hh => by have := List.mem_range.1 (hat.mem_iff.1 (List.mem_of_mem_take (List.mem_of_mem_drop hh))); omega)]
          omega
        have hgl8 := hC8.llen
        have hgp' : (gL ys d at' q)[p]'(by omega) = d := by
          have h9 := hgp
          rw [List.getD_eq_getElem?_getD, List.getElem?_eq_getElem (by omega)] at h9
          exact h9
        rw [iv_get, List.getElem?_eq_getElem (by omega)] at r2
        simp only [Option.map_some] at r2
        rw [hgp'] at r2
        have hpb : p < bs.length := by have := hC8.len; omega
        have hxb : x < bs.length := by omega
        have c1 := arr_index (T := TT) (b := S1.n) (c := xs.length) (n := xs.length) (k := .i64) (i := p) und22 info26 rfl (by omega)
        have c2 := arr_index (T := TT) (b := S1.n) (c := xs.length) (n := xs.length) (k := .i64) (i := x) und22 info26 rfl (by omega)
        have l1 := load_one (o := p) und26 info26 rfl hC8.tab
        have l2 := load_one (o := x) und26 info26 rfl hC8.tab
        rw [List.getElem?_map, List.getElem?_eq_getElem hpb] at l1
        rw [List.getElem?_map, List.getElem?_eq_getElem hxb] at l2
        simp only [Option.map_some] at l1 l2
        have d1 : indexAddrA TT 26 (.int .i64 x) (rowv xs.length bs[p]) = some (.pointer (some ⟨bs[p], x, none⟩)) := arr_index und26 info3 rfl (by omega)
        have d2 : indexAddrA TT 26 (.int .i64 p) (rowv xs.length bs[x]) = some (.pointer (some ⟨bs[x], p, none⟩)) := arr_index und26 info3 rfl (by omega)
        by_cases hqd : q < d
        · have e4 : decide ((q : Int) < (d : Int)) = true := decide_eq_true (by omega)
          obtain ⟨S9, s1, hC9', hf9⟩ := hC8.setM hpb (j := x) (by omega) 1
          have hM1 : gM D p d at' (q + 1) = setM (gM D p d at' q) p x 1 := by
            conv => lhs; unfold gM
            rw [if_pos (by omega), hxe]
          have hL1 : gL ys d at' (q + 1) = gL ys d at' q := by
            conv => lhs; unfold gL
            rw [if_pos (by omega)]
          repeat (first | with_reducible (first | refine W_seq ?_ | refine W_block ?_ | refine W_scope ?_ | refine W_regionV hTT ?_ | refine W_condV ?_ | refine W_ret ?_ | refine W_exit ?_ | refine W_skip ?_ | refine W_label ?_ | refine W_drawV hTT (by kernel_rfl) ?_) | simp only [H0, J86, J87, und3, und4, und22, und26, und29, und45, und64, info3, info4, info22, info26, info29, info45, info64, info50, und50, aggT, gv, dstAt, aop, evalsA, partsA, evalO, updO, ofArgs, binV, intBin, unV, mmV, builtinA, Nat.reduceLT, Nat.reduceEqDiff, Nat.reduceAdd, Nat.reduceSub, Nat.reduceMul, ↓reduceIte, reduceCtorEq, t7, t9, t10, t59, t60, t61, e3, a1, a2, r1, b1, r2, e4, c1, l1, d1, s1, hwq])
          refine LoopQ_intro (p - (q + 1)) (by omega) ⟨rfl, q + 1, rfl, by omega, by simp only [H0, J86, J87, und3, und4, und22, und26, und29, und45, und64, info3, info4, info22, info26, info29, info45, info64, info50, und50, aggT, gv, dstAt, aop, evalsA, partsA, evalO, updO, ofArgs, binV, intBin, unV, mmV, builtinA, Nat.reduceLT, Nat.reduceEqDiff, Nat.reduceAdd, Nat.reduceSub, Nat.reduceMul, ↓reduceIte, reduceCtorEq, t7], by simp only [H0, J86, J87, und3, und4, und22, und26, und29, und45, und64, info3, info4, info22, info26, info29, info45, info64, info50, und50, aggT, gv, dstAt, aop, evalsA, partsA, evalO, updO, ofArgs, binV, intBin, unV, mmV, builtinA, Nat.reduceLT, Nat.reduceEqDiff, Nat.reduceAdd, Nat.reduceSub, Nat.reduceMul, ↓reduceIte, reduceCtorEq, t9], by simp only [H0, J86, J87, und3, und4, und22, und26, und29, und45, und64, info3, info4, info22, info26, info29, info45, info64, info50, und50, aggT, gv, dstAt, aop, evalsA, partsA, evalO, updO, ofArgs, binV, intBin, unV, mmV, builtinA, Nat.reduceLT, Nat.reduceEqDiff, Nat.reduceAdd, Nat.reduceSub, Nat.reduceMul, ↓reduceIte, reduceCtorEq, t10], by simp only [H0, J86, J87, und3, und4, und22, und26, und29, und45, und64, info3, info4, info22, info26, info29, info45, info64, info50, und50, aggT, gv, dstAt, aop, evalsA, partsA, evalO, updO, ofArgs, binV, intBin, unV, mmV, builtinA, Nat.reduceLT, Nat.reduceEqDiff, Nat.reduceAdd, Nat.reduceSub, Nat.reduceMul, ↓reduceIte, reduceCtorEq, t59], by simp only [H0, J86, J87, und3, und4, und22, und26, und29, und45, und64, info3, info4, info22, info26, info29, info45, info64, info50, und50, aggT, gv, dstAt, aop, evalsA, partsA, evalO, updO, ofArgs, binV, intBin, unV, mmV, builtinA, Nat.reduceLT, Nat.reduceEqDiff, Nat.reduceAdd, Nat.reduceSub, Nat.reduceMul, ↓reduceIte, reduceCtorEq, t60], by simp only [H0, J86, J87, und3, und4, und22, und26, und29, und45, und64, info3, info4, info22, info26, info29, info45, info64, info50, und50, aggT, gv, dstAt, aop, evalsA, partsA, evalO, updO, ofArgs, binV, intBin, unV, mmV, builtinA, Nat.reduceLT, Nat.reduceEqDiff, Nat.reduceAdd, Nat.reduceSub, Nat.reduceMul, ↓reduceIte, reduceCtorEq, t61, hwq], by rw [hM1, hL1]; exact hC9', hM8.same fun b hb => hf9 b (fun i h e => ?_) (fun e => ?_)⟩
          · have := (hM8.base hb).1
            have := hfr i h
            omega
          · have := (hM8.base hb).1
            omega
        · have e4 : decide ((q : Int) < (d : Int)) = false := decide_eq_false (by omega)
          obtain ⟨S9, s1, hC9', hf9⟩ := hC8.setM hxb (j := p) (by omega) 1
          have r3 := load_one (o := 0) und26 info26 rfl hC9'.box
          simp only [List.getElem?_cons_zero] at r3
          have b2 := arr_index (T := TT) (b := bd) (c := BIG) (n := xs.length) (k := .i64) (i := x) und26 info3 rfl (by omega)
          have r4 := load_one (o := x) und3 info3 rfl hC9'.left
          have hgx : (gL ys d at' q)[x]'(by omega) = (gL ys d at' q).getD x 0 := by rw [List.getD_eq_getElem?_getD, List.getElem?_eq_getElem (by omega)]; rfl
          rw [iv_get, List.getElem?_eq_getElem (by omega)] at r4
          simp only [Option.map_some] at r4
          rw [hgx] at r4
          have hbx := hst.bnd (i := x) (by omega)
          have hwx : IntKind.i64.wrap ((gL ys d at' q).getD x 0 - 1) = (gL ys d at' q).getD x 0 - 1 := by
            have := hgl q (by omega) x
            refine wrap_id ?_ ?_ <;> (split at this <;> omega)
          obtain ⟨SA, s2, hCA, hfA⟩ := hC9'.setL (i := x) (by omega) ((gL ys d at' q).getD x 0 - 1)
          have hM1 : gM D p d at' (q + 1) = setM (gM D p d at' q) x p 1 := by
            conv => lhs; unfold gM
            rw [if_neg (by omega), hxe]
          have hL1 : gL ys d at' (q + 1) = (gL ys d at' q).set x ((gL ys d at' q).getD x 0 - 1) := by
            conv => lhs; unfold gL
            rw [if_neg (by omega), hxe]
          repeat (first | with_reducible (first | refine W_seq ?_ | refine W_block ?_ | refine W_scope ?_ | refine W_regionV hTT ?_ | refine W_condV ?_ | refine W_ret ?_ | refine W_exit ?_ | refine W_skip ?_ | refine W_label ?_ | refine W_drawV hTT (by kernel_rfl) ?_) | simp only [H0, J86, J87, und3, und4, und22, und26, und29, und45, und64, info3, info4, info22, info26, info29, info45, info64, info50, und50, aggT, gv, dstAt, aop, evalsA, partsA, evalO, updO, ofArgs, binV, intBin, unV, mmV, builtinA, Nat.reduceLT, Nat.reduceEqDiff, Nat.reduceAdd, Nat.reduceSub, Nat.reduceMul, ↓reduceIte, reduceCtorEq, t7, t9, t10, t59, t60, t61, e3, a1, a2, r1, b1, r2, e4, c2, l2, d2, s1, r3, b2, r4, hwx, s2, hwq])
          refine LoopQ_intro (p - (q + 1)) (by omega) ⟨rfl, q + 1, rfl, by omega, by simp only [H0, J86, J87, und3, und4, und22, und26, und29, und45, und64, info3, info4, info22, info26, info29, info45, info64, info50, und50, aggT, gv, dstAt, aop, evalsA, partsA, evalO, updO, ofArgs, binV, intBin, unV, mmV, builtinA, Nat.reduceLT, Nat.reduceEqDiff, Nat.reduceAdd, Nat.reduceSub, Nat.reduceMul, ↓reduceIte, reduceCtorEq, t7], by simp only [H0, J86, J87, und3, und4, und22, und26, und29, und45, und64, info3, info4, info22, info26, info29, info45, info64, info50, und50, aggT, gv, dstAt, aop, evalsA, partsA, evalO, updO, ofArgs, binV, intBin, unV, mmV, builtinA, Nat.reduceLT, Nat.reduceEqDiff, Nat.reduceAdd, Nat.reduceSub, Nat.reduceMul, ↓reduceIte, reduceCtorEq, t9], by simp only [H0, J86, J87, und3, und4, und22, und26, und29, und45, und64, info3, info4, info22, info26, info29, info45, info64, info50, und50, aggT, gv, dstAt, aop, evalsA, partsA, evalO, updO, ofArgs, binV, intBin, unV, mmV, builtinA, Nat.reduceLT, Nat.reduceEqDiff, Nat.reduceAdd, Nat.reduceSub, Nat.reduceMul, ↓reduceIte, reduceCtorEq, t10], by simp only [H0, J86, J87, und3, und4, und22, und26, und29, und45, und64, info3, info4, info22, info26, info29, info45, info64, info50, und50, aggT, gv, dstAt, aop, evalsA, partsA, evalO, updO, ofArgs, binV, intBin, unV, mmV, builtinA, Nat.reduceLT, Nat.reduceEqDiff, Nat.reduceAdd, Nat.reduceSub, Nat.reduceMul, ↓reduceIte, reduceCtorEq, t59], by simp only [H0, J86, J87, und3, und4, und22, und26, und29, und45, und64, info3, info4, info22, info26, info29, info45, info64, info50, und50, aggT, gv, dstAt, aop, evalsA, partsA, evalO, updO, ofArgs, binV, intBin, unV, mmV, builtinA, Nat.reduceLT, Nat.reduceEqDiff, Nat.reduceAdd, Nat.reduceSub, Nat.reduceMul, ↓reduceIte, reduceCtorEq, t60], by simp only [H0, J86, J87, und3, und4, und22, und26, und29, und45, und64, info3, info4, info22, info26, info29, info45, info64, info50, und50, aggT, gv, dstAt, aop, evalsA, partsA, evalO, updO, ofArgs, binV, intBin, unV, mmV, builtinA, Nat.reduceLT, Nat.reduceEqDiff, Nat.reduceAdd, Nat.reduceSub, Nat.reduceMul, ↓reduceIte, reduceCtorEq, t61, hwq], by rw [hM1, hL1]; exact hCA, hM8.same fun b hb => ?_⟩
          have hbb := (hM8.base hb).1
          have n1 : ∀ i (h : i < bs.length), bs[i] ≠ b := fun i h e => by have := hfr i h; omega
          have n2 : b ≠ bd := by omega
          rw [hfA b n1 n2, hf9 b n1 n2]
      · have e3 : decide ((q : Int) < p) = false := by simpa using hqp
        have hqq : q = p := by omega
        rw [hqq] at hC8
        repeat (first | with_reducible (first | refine W_seq ?_ | refine W_block ?_ | refine W_scope ?_ | refine W_regionV hTT ?_ | refine W_condV ?_ | refine W_ret ?_ | refine W_exit ?_ | refine W_skip ?_ | refine W_label ?_ | refine W_drawV hTT (by kernel_rfl) ?_) | simp only [H0, J86, J87, und3, und4, und22, und26, und29, und45, und64, info3, info4, info22, info26, info29, info45, info64, info50, und50, aggT, gv, dstAt, aop, evalsA, partsA, evalO, updO, ofArgs, binV, intBin, unV, mmV, builtinA, Nat.reduceLT, Nat.reduceEqDiff, Nat.reduceAdd, Nat.reduceSub, Nat.reduceMul, ↓reduceIte, reduceCtorEq, t7, t9, t10, t59, t60, t61, e3])
        refine NQ_intro ⟨rfl, by simp only [H0, J86, J87, und3, und4, und22, und26, und29, und45, und64, info3, info4, info22, info26, info29, info45, info64, info50, und50, aggT, gv, dstAt, aop, evalsA, partsA, evalO, updO, ofArgs, binV, intBin, unV, mmV, builtinA, Nat.reduceLT, Nat.reduceEqDiff, Nat.reduceAdd, Nat.reduceSub, Nat.reduceMul, ↓reduceIte, reduceCtorEq, t7], by simp only [H0, J86, J87, und3, und4, und22, und26, und29, und45, und64, info3, info4, info22, info26, info29, info45, info64, info50, und50, aggT, gv, dstAt, aop, evalsA, partsA, evalO, updO, ofArgs, binV, intBin, unV, mmV, builtinA, Nat.reduceLT, Nat.reduceEqDiff, Nat.reduceAdd, Nat.reduceSub, Nat.reduceMul, ↓reduceIte, reduceCtorEq, t9], by simp only [H0, J86, J87, und3, und4, und22, und26, und29, und45, und64, info3, info4, info22, info26, info29, info45, info64, info50, und50, aggT, gv, dstAt, aop, evalsA, partsA, evalO, updO, ofArgs, binV, intBin, unV, mmV, builtinA, Nat.reduceLT, Nat.reduceEqDiff, Nat.reduceAdd, Nat.reduceSub, Nat.reduceMul, ↓reduceIte, reduceCtorEq, t10], _, _, hC8, hst.step hyl hat (hso.imp fun h => by simpa using h) hd⟩
    · rintro τ ds S7 ⟨rfl, t7, t9, t10, M7, ys7, hC7, hst7⟩
      repeat (first | with_reducible (first | refine W_seq ?_ | refine W_block ?_ | refine W_scope ?_ | refine W_regionV hTT ?_ | refine W_condV ?_ | refine W_ret ?_ | refine W_exit ?_ | refine W_skip ?_ | refine W_label ?_ | refine W_drawV hTT (by kernel_rfl) ?_) | simp only [H0, J86, J87, und3, und4, und22, und26, und29, und45, und64, info3, info4, info22, info26, info29, info45, info64, info50, und50, aggT, gv, dstAt, aop, evalsA, partsA, evalO, updO, ofArgs, binV, intBin, unV, mmV, builtinA, Nat.reduceLT, Nat.reduceEqDiff, Nat.reduceAdd, Nat.reduceSub, Nat.reduceMul, ↓reduceIte, reduceCtorEq, t7, t9, t10, hwp])
      refine LoopQ_intro p (by omega) ⟨rfl, by simp only [H0, J86, J87, und3, und4, und22, und26, und29, und45, und64, info3, info4, info22, info26, info29, info45, info64, info50, und50, aggT, gv, dstAt, aop, evalsA, partsA, evalO, updO, ofArgs, binV, intBin, unV, mmV, builtinA, Nat.reduceLT, Nat.reduceEqDiff, Nat.reduceAdd, Nat.reduceSub, Nat.reduceMul, ↓reduceIte, reduceCtorEq, t7], by simp only [H0, J86, J87, und3, und4, und22, und26, und29, und45, und64, info3, info4, info22, info26, info29, info45, info64, info50, und50, aggT, gv, dstAt, aop, evalsA, partsA, evalO, updO, ofArgs, binV, intBin, unV, mmV, builtinA, Nat.reduceLT, Nat.reduceEqDiff, Nat.reduceAdd, Nat.reduceSub, Nat.reduceMul, ↓reduceIte, reduceCtorEq, t9], by simp only [H0, J86, J87, und3, und4, und22, und26, und29, und45, und64, info3, info4, info22, info26, info29, info45, info64, info50, und50, aggT, gv, dstAt, aop, evalsA, partsA, evalO, updO, ofArgs, binV, intBin, unV, mmV, builtinA, Nat.reduceLT, Nat.reduceEqDiff, Nat.reduceAdd, Nat.reduceSub, Nat.reduceMul, ↓reduceIte, reduceCtorEq, t10, hwp], by omega, M7, ys7, hC7, hst7⟩
end Go.Proofs.Sz
end
/- part Zki -/
section
namespace Go.Proofs.Sz
open Go Go.Ax Go.Proofs Go.RowKit
theorem fn18 : TT.fn 18 = some Tryz.f18 := by kernel_rfl
theorem fn43 : TT.fn 43 = some Tryz.f43 := by kernel_rfl
theorem fn19 : TT.fn 19 = some Tryz.f19 := by kernel_rfl
theorem fn44 : TT.fn 44 = some Tryz.f44 := by kernel_rfl
theorem fn22 : TT.fn 22 = some Tryz.f22 := by kernel_rfl
theorem fn23 : TT.fn 23 = some Tryz.f23 := by kernel_rfl
/-- where the operations lay what they yield, told apart from the operations -/
theorem VL_gen {C : CS} {P : Program} {T : Tab} {n : Nat} {ops : Array Oper} {l : List Oper} {τ : Nat → Value} {S : St} {K : (Nat → Value) → St → Prop} (dl : List (Option Tmp)) (hd : ops.toList.map (·.dst) = dl)
    (h : ∀ O : Array Oper, (∀ j, dstAt O j = (dl[j]?).bind id) → VL C P T n O l τ S K) : VL C P T n ops l τ S K := by
  refine h ops fun j => ?_
  rw [← hd, List.getElem?_map]
  unfold dstAt
  rw [← Array.getElem?_toList]
  cases ops.toList[j]? <;> rfl
theorem VL_app {C : CS} {P : Program} {T : Tab} {n : Nat} {O : Array Oper} {K : (Nat → Value) → St → Prop} (hC : ∀ c a S (Q Q' : Value → St → Prop), C c a S Q → (∀ v S', Q v S' → Q' v S') → C c a S Q') : ∀ (l1 l2 : List Oper) (τ : Nat → Value) (S : St), VL C P T n O l1 τ S (fun τ' S' => VL C P T n O l2 τ' S' K) → VL C P T n O (l1 ++ l2) τ S K := by
  intro l1
  induction l1 with
  | nil => intro l2 τ S h; exact h
  | cons o l1 ih =>
    intro l2 τ S h
    rw [List.cons_append]
    unfold VL at h ⊢
    split at h
    · rename_i hw
      rw [if_pos hw]
      split at h
      · rename_i g vs hc
        exact hC _ _ _ _ _ h fun v S' hv => ih _ _ _ hv
      · rename_i hc
        split at h
        · rename_i v S' ha
          exact ih _ _ _ h
        · exact h.elim
    · rename_i hw
      rw [if_neg hw]
      exact ih _ _ _ h
theorem VL_mono {C : CS} {P : Program} {T : Tab} {n : Nat} {O : Array Oper} {K K' : (Nat → Value) → St → Prop} (hC : ∀ c a S (Q Q' : Value → St → Prop), C c a S Q → (∀ v S', Q v S' → Q' v S') → C c a S Q') (hk : ∀ τ S, K τ S → K' τ S) : ∀ (l : List Oper) (τ : Nat → Value) (S : St), VL C P T n O l τ S K → VL C P T n O l τ S K' := by
  intro l
  induction l with
  | nil => intro τ S h; exact hk _ _ h
  | cons o l ih =>
    intro τ S h
    unfold VL at h ⊢
    split at h
    · rename_i hw
      rw [if_pos hw]
      split at h
      · rename_i g vs hc
        exact hC _ _ _ _ _ h fun v S' hv => ih _ _ hv
      · rename_i hc
        split at h
        · rename_i v S' ha
          exact ih _ _ h
        · exact h.elim
    · rename_i hw
      rw [if_neg hw]
      exact ih _ _ h
theorem CallC_mono' {P : Program} (c : Cal) (a : List Value) (S : St) (Q Q' : Value → St → Prop) (h : CallC P c a S Q) (hq : ∀ v S', Q v S' → Q' v S') : CallC P c a S Q' := h.mono hq
theorem VL_to {P : Program} {T : Tab} {n : Nat} {O : Array Oper} {l : List Oper} {τ : Nat → Value} {S : St} {K : (Nat → Value) → St → Prop} (R : (Nat → Value) → St → Prop) (h : VL (CallC P) P T n O l τ S R) (hk : ∀ τ S, R τ S → K τ S) : VL (CallC P) P T n O l τ S K := VL_mono CallC_mono' hk _ _ _ h
/-- the first k operations come to what R says -/
theorem VL_part {P : Program} {T : Tab} {n : Nat} {O : Array Oper} {l : List Oper} {τ : Nat → Value} {S : St} {K : (Nat → Value) → St → Prop} (k : Nat) (R : (Nat → Value) → St → Prop) (h : VL (CallC P) P T n O (l.take k) τ S R) (hk : ∀ τ S, R τ S → VL (CallC P) P T n O (l.drop k) τ S K) : VL (CallC P) P T n O l τ S K := by
  rw [← List.take_append_drop k l]
  exact VL_app CallC_mono' _ _ _ _ (VL_mono CallC_mono' hk _ _ _ h)
set_option maxHeartbeats 4000000 in
set_option maxRecDepth 20000 in
/-- the reference's Contest, of a contest -/
theorem refContest_yes {S : St} {vl : Value} {n : Nat} {M : Nat → Nat → Int} (hx : Mat S vl (mrows n n M)) (hn : n ≤ 30) (hC : IsC n M) :
    CallW PP 18 [vl] S (fun v S' => v = .bool true ∧ S' = S) := by
  have hla := hx.len (T := TT) und22
  rw [mrows_len] at hla
  have e0 : decide ((n : Int) > 30) = false := decide_eq_false (by omega)
  refine CallW_of hTT fn18 rfl (by simp [Tryz.f18]) ?_
  unfold Tryz.f18
  repeat (first | with_reducible (first | refine W_seq ?_ | refine W_scope ?_ | refine W_regionV hTT ?_ | refine W_condV ?_ | refine W_ret ?_ | refine W_exit ?_ | refine W_skip ?_ | refine W_label ?_ | refine W_drawV hTT (by kernel_rfl) ?_) | simp only [H0, J86, J87, und3, und4, und22, und26, und29, und45, und64, info3, info4, info22, info26, info29, info45, info64, info50, und50, aggT, gv, dstAt, aop, evalsA, partsA, evalO, updO, ofArgs, binV, intBin, unV, mmV, builtinA, Nat.reduceLT, Nat.reduceEqDiff, Nat.reduceAdd, Nat.reduceSub, Nat.reduceMul, ↓reduceIte, reduceCtorEq, hla, e0])
  refine W_block ?_
  refine W_loopI (fun m τ ds S' => S' = S ∧ ds = [] ∧ ∃ i : Nat, m = n - i ∧ i ≤ n ∧ τ 0 = vl ∧ τ 3 = .int .i64 n ∧ τ 4 = .int .i64 i) n ?_ ?_
  · refine ⟨rfl, rfl, 0, by omega, by omega, ?_, ?_, ?_⟩ <;> first | rfl | simp only [H0, J86, J87, und3, und4, und22, und26, und29, und45, und64, info3, info4, info22, info26, info29, info45, info64, info50, und50, aggT, gv, dstAt, aop, evalsA, partsA, evalO, updO, ofArgs, binV, intBin, unV, mmV, builtinA, Nat.reduceLT, Nat.reduceEqDiff, Nat.reduceAdd, Nat.reduceSub, Nat.reduceMul, ↓reduceIte, reduceCtorEq]
  rintro m τ ds S1 ⟨rfl, rfl, i, rfl, hi, t0, t3, t4⟩
  by_cases hin : i < n
  · have e1 : decide ((i : Int) < n) = true := by simpa using hin
    have hw := wrap_succ (k := i) (by omega)
    obtain ⟨p, rv, p1, p2, hrow, _⟩ := hx.row (T := TT) (k := .i64) und22 info26 und26 rfl (i := i) (by rw [mrows_len]; exact hin)
    have hlr := hrow.len (T := TT) und26
    rw [mrows_get, mrow_len] at hlr
    have e2 : ((n : Int) != n) = false := by simp
    repeat (first | with_reducible (first | refine W_seq ?_ | refine W_block ?_ | refine W_scope ?_ | refine W_regionV hTT ?_ | refine W_condV ?_ | refine W_ret ?_ | refine W_exit ?_ | refine W_skip ?_ | refine W_label ?_ | refine W_drawV hTT (by kernel_rfl) ?_) | simp only [H0, J86, J87, und3, und4, und22, und26, und29, und45, und64, info3, info4, info22, info26, info29, info45, info64, info50, und50, aggT, gv, dstAt, aop, evalsA, partsA, evalO, updO, ofArgs, binV, intBin, unV, mmV, builtinA, Nat.reduceLT, Nat.reduceEqDiff, Nat.reduceAdd, Nat.reduceSub, Nat.reduceMul, ↓reduceIte, reduceCtorEq, t0, t3, t4, e1, p1, p2, hlr, e2, hw])
    refine LoopQ_intro (n - (i + 1)) (by omega) ⟨rfl, rfl, i + 1, rfl, by omega, by simp only [H0, J86, J87, und3, und4, und22, und26, und29, und45, und64, info3, info4, info22, info26, info29, info45, info64, info50, und50, aggT, gv, dstAt, aop, evalsA, partsA, evalO, updO, ofArgs, binV, intBin, unV, mmV, builtinA, Nat.reduceLT, Nat.reduceEqDiff, Nat.reduceAdd, Nat.reduceSub, Nat.reduceMul, ↓reduceIte, reduceCtorEq, t0], by simp only [H0, J86, J87, und3, und4, und22, und26, und29, und45, und64, info3, info4, info22, info26, info29, info45, info64, info50, und50, aggT, gv, dstAt, aop, evalsA, partsA, evalO, updO, ofArgs, binV, intBin, unV, mmV, builtinA, Nat.reduceLT, Nat.reduceEqDiff, Nat.reduceAdd, Nat.reduceSub, Nat.reduceMul, ↓reduceIte, reduceCtorEq, t3], by simp only [H0, J86, J87, und3, und4, und22, und26, und29, und45, und64, info3, info4, info22, info26, info29, info45, info64, info50, und50, aggT, gv, dstAt, aop, evalsA, partsA, evalO, updO, ofArgs, binV, intBin, unV, mmV, builtinA, Nat.reduceLT, Nat.reduceEqDiff, Nat.reduceAdd, Nat.reduceSub, Nat.reduceMul, ↓reduceIte, reduceCtorEq, t4, hw]⟩
  have e1 : decide ((i : Int) < n) = false := by simpa using hin
  repeat (first | with_reducible (first | refine W_seq ?_ | refine W_scope ?_ | refine W_regionV hTT ?_ | refine W_condV ?_ | refine W_ret ?_ | refine W_exit ?_ | refine W_skip ?_ | refine W_label ?_ | refine W_drawV hTT (by kernel_rfl) ?_) | simp only [H0, J86, J87, und3, und4, und22, und26, und29, und45, und64, info3, info4, info22, info26, info29, info45, info64, info50, und50, aggT, gv, dstAt, aop, evalsA, partsA, evalO, updO, ofArgs, binV, intBin, unV, mmV, builtinA, Nat.reduceLT, Nat.reduceEqDiff, Nat.reduceAdd, Nat.reduceSub, Nat.reduceMul, ↓reduceIte, reduceCtorEq, t0, t3, t4, e1])
  refine W_block ?_
  refine W_loopI (fun m τ ds S' => S' = S1 ∧ ds = [] ∧ ∃ i : Nat, m = n - i ∧ i ≤ n ∧ τ 0 = vl ∧ τ 3 = .int .i64 n ∧ τ 5 = .int .i64 i) n ?_ ?_
  · refine ⟨rfl, rfl, 0, by omega, by omega, ?_, ?_, ?_⟩ <;> first | rfl | simp only [H0, J86, J87, und3, und4, und22, und26, und29, und45, und64, info3, info4, info22, info26, info29, info45, info64, info50, und50, aggT, gv, dstAt, aop, evalsA, partsA, evalO, updO, ofArgs, binV, intBin, unV, mmV, builtinA, Nat.reduceLT, Nat.reduceEqDiff, Nat.reduceAdd, Nat.reduceSub, Nat.reduceMul, ↓reduceIte, reduceCtorEq, t0, t3]
  clear e1 t0 t3 t4 hin hi
  rintro m τ ds S2 ⟨rfl, rfl, i, rfl, hi, t0, t3, t5⟩
  by_cases hin : i < n
  · have e1 : decide ((i : Int) < n) = true := by simpa using hin
    have hw := wrap_succ (k := i) (by omega)
    repeat (first | with_reducible (first | refine W_seq ?_ | refine W_scope ?_ | refine W_regionV hTT ?_ | refine W_condV ?_ | refine W_ret ?_ | refine W_exit ?_ | refine W_skip ?_ | refine W_label ?_ | refine W_drawV hTT (by kernel_rfl) ?_) | simp only [H0, J86, J87, und3, und4, und22, und26, und29, und45, und64, info3, info4, info22, info26, info29, info45, info64, info50, und50, aggT, gv, dstAt, aop, evalsA, partsA, evalO, updO, ofArgs, binV, intBin, unV, mmV, builtinA, Nat.reduceLT, Nat.reduceEqDiff, Nat.reduceAdd, Nat.reduceSub, Nat.reduceMul, ↓reduceIte, reduceCtorEq, t0, t3, t5, e1])
    refine W_block ?_
    repeat (first | with_reducible (first | refine W_seq ?_ | refine W_scope ?_ | refine W_regionV hTT ?_ | refine W_condV ?_ | refine W_ret ?_ | refine W_exit ?_ | refine W_skip ?_ | refine W_label ?_ | refine W_drawV hTT (by kernel_rfl) ?_) | simp only [H0, J86, J87, und3, und4, und22, und26, und29, und45, und64, info3, info4, info22, info26, info29, info45, info64, info50, und50, aggT, gv, dstAt, aop, evalsA, partsA, evalO, updO, ofArgs, binV, intBin, unV, mmV, builtinA, Nat.reduceLT, Nat.reduceEqDiff, Nat.reduceAdd, Nat.reduceSub, Nat.reduceMul, ↓reduceIte, reduceCtorEq, t0, t3, t5])
    refine W_block ?_
    refine W_loopI (fun m τ ds S' => S' = S2 ∧ ds = [] ∧ ∃ j : Nat, m = n - j ∧ j ≤ n ∧ τ 0 = vl ∧ τ 3 = .int .i64 n ∧ τ 5 = .int .i64 i ∧ τ 6 = .int .i64 j) n ?_ ?_
    · refine ⟨rfl, rfl, 0, by omega, by omega, ?_, ?_, ?_, ?_⟩ <;> first | rfl | simp only [H0, J86, J87, und3, und4, und22, und26, und29, und45, und64, info3, info4, info22, info26, info29, info45, info64, info50, und50, aggT, gv, dstAt, aop, evalsA, partsA, evalO, updO, ofArgs, binV, intBin, unV, mmV, builtinA, Nat.reduceLT, Nat.reduceEqDiff, Nat.reduceAdd, Nat.reduceSub, Nat.reduceMul, ↓reduceIte, reduceCtorEq, t0, t3, t5]
    clear t0 t3 t5
    rintro m τ ds S3 ⟨rfl, rfl, j, rfl, hj, t0, t3, t5, t6⟩
    by_cases hjn : j < n
    · have e2 : decide ((j : Int) < n) = true := by simpa using hjn
      have hwj := wrap_succ (k := j) (by omega)
      obtain ⟨p1, r1, q1, a1, a2, a3, a4⟩ := game hx hin hjn
      obtain ⟨p2, r2, q2, b1, b2, b3, b4⟩ := game hx hjn hin
      have hb := hC.bit hin hjn
      have c1 : decide (M i j < 0) = false := decide_eq_false (by omega)
      have c2 : decide (M i j > 1) = false := decide_eq_false (by omega)
      by_cases e : i = j
      · have c3 : ((i : Int) == j) = true := by simp [e]
        have c4 : ((i : Int) != j) = false := by simp [e]
        have c5 : (M i j != 0) = false := by rw [e, hC.self hjn]; rfl
        repeat (first | with_reducible (first | refine W_seq ?_ | refine W_scope ?_ | refine W_regionV hTT ?_ | refine W_condV ?_ | refine W_ret ?_ | refine W_exit ?_ | refine W_skip ?_ | refine W_label ?_ | refine W_drawV hTT (by kernel_rfl) ?_) | simp only [H0, J86, J87, und3, und4, und22, und26, und29, und45, und64, info3, info4, info22, info26, info29, info45, info64, info50, und50, aggT, gv, dstAt, aop, evalsA, partsA, evalO, updO, ofArgs, binV, intBin, unV, mmV, builtinA, Nat.reduceLT, Nat.reduceEqDiff, Nat.reduceAdd, Nat.reduceSub, Nat.reduceMul, ↓reduceIte, reduceCtorEq, t0, t3, t5, t6, e2])
        refine W_block ?_
        with_reducible refine W_seq ?_
        with_reducible refine W_drawV hTT (by kernel_rfl) ?_
        refine VL_gen ((List.range 56).map fun i => some (33 + i)) (by kernel_rfl) ?_
        intro O hO
        have g8 : (O[8]?).bind (·.dst) = some 41 := hO 8
        have g18 : (O[18]?).bind (·.dst) = some 51 := hO 18
        have g22 : (O[22]?).bind (·.dst) = some 55 := hO 22
        have g33 : (O[33]?).bind (·.dst) = some 66 := hO 33
        have g37 : (O[37]?).bind (·.dst) = some 70 := hO 37
        clear hO
        simp only [List.toList_toArray]
        refine VL_part 18 (fun τ' S' => S' = S3 ∧ τ' 0 = vl ∧ τ' 3 = .int .i64 n ∧ τ' 5 = .int .i64 i ∧ τ' 6 = .int .i64 j ∧ τ' 50 = .bool false) ?_ ?_
        · simp only [List.take_succ_cons, List.take_zero]
          simp only [H0, J86, J87, und3, und4, und22, und26, und29, und45, und64, info3, info4, info22, info26, info29, info45, info64, info50, und50, aggT, gv, dstAt, aop, evalsA, partsA, evalO, updO, ofArgs, binV, intBin, unV, mmV, builtinA, Nat.reduceLT, Nat.reduceEqDiff, Nat.reduceAdd, Nat.reduceSub, Nat.reduceMul, ↓reduceIte, reduceCtorEq, g8, t0, t3, t5, t6, a1, a2, a3, a4, c1, c2]
        clear t0 t3 t5 t6
        rintro τ S3 ⟨rfl, t0, t3, t5, t6, t50⟩
        simp only [List.drop_succ_cons, List.drop_zero]
        refine VL_part 15 (fun τ' S' => S' = S3 ∧ τ' 0 = vl ∧ τ' 3 = .int .i64 n ∧ τ' 5 = .int .i64 i ∧ τ' 6 = .int .i64 j ∧ τ' 65 = .bool false) ?_ ?_
        · simp only [List.take_succ_cons, List.take_zero]
          simp only [H0, J86, J87, und3, und4, und22, und26, und29, und45, und64, info3, info4, info22, info26, info29, info45, info64, info50, und50, aggT, gv, dstAt, aop, evalsA, partsA, evalO, updO, ofArgs, binV, intBin, unV, mmV, builtinA, Nat.reduceLT, Nat.reduceEqDiff, Nat.reduceAdd, Nat.reduceSub, Nat.reduceMul, ↓reduceIte, reduceCtorEq, g18, g22, t0, t3, t5, t6, t50, a1, a2, a3, a4, c3, c4, c5, hwj]
        clear t0 t3 t5 t6 t50
        rintro τ S3 ⟨rfl, t0, t3, t5, t6, t65⟩
        simp only [List.drop_succ_cons, List.drop_zero]
        refine VL_part 5 (fun τ' S' => S' = S3 ∧ τ' 0 = vl ∧ τ' 3 = .int .i64 n ∧ τ' 5 = .int .i64 i ∧ τ' 6 = .int .i64 j ∧ τ' 66 = .bool false ∧ τ' 70 = .bool false) ?_ ?_
        · simp only [List.take_succ_cons, List.take_zero]
          simp only [H0, J86, J87, und3, und4, und22, und26, und29, und45, und64, info3, info4, info22, info26, info29, info45, info64, info50, und50, aggT, gv, dstAt, aop, evalsA, partsA, evalO, updO, ofArgs, binV, intBin, unV, mmV, builtinA, Nat.reduceLT, Nat.reduceEqDiff, Nat.reduceAdd, Nat.reduceSub, Nat.reduceMul, ↓reduceIte, reduceCtorEq, g33, t0, t3, t5, t6, t65, c3, c4, c5, hwj]
        clear t0 t3 t5 t6 t65
        rintro τ S3 ⟨rfl, t0, t3, t5, t6, t66, t70⟩
        simp only [List.drop_succ_cons, List.drop_zero]
        refine VL_part 16 (fun τ' S' => S' = S3 ∧ τ' 0 = vl ∧ τ' 3 = .int .i64 n ∧ τ' 5 = .int .i64 i ∧ τ' 6 = .int .i64 j ∧ τ' 66 = .bool false ∧ τ' 70 = .bool false) ?_ ?_
        · simp only [List.take_succ_cons, List.take_zero]
          simp only [H0, J86, J87, und3, und4, und22, und26, und29, und45, und64, info3, info4, info22, info26, info29, info45, info64, info50, und50, aggT, gv, dstAt, aop, evalsA, partsA, evalO, updO, ofArgs, binV, intBin, unV, mmV, builtinA, Nat.reduceLT, Nat.reduceEqDiff, Nat.reduceAdd, Nat.reduceSub, Nat.reduceMul, ↓reduceIte, reduceCtorEq, g37, t0, t3, t5, t6, t66, t70, a1, a2, a3, a4, b1, b2, b3, b4, c3, c4, c5, hwj]
        clear t0 t3 t5 t6 t66 t70
        rintro τ S3 ⟨rfl, t0, t3, t5, t6, t66, t70⟩
        simp only [List.drop_succ_cons, List.drop_zero]
        refine VL_to (fun τ' S' => S' = S3 ∧ τ' 0 = vl ∧ τ' 3 = .int .i64 n ∧ τ' 5 = .int .i64 i ∧ τ' 6 = .int .i64 j ∧ τ' 88 = .bool false) ?_ ?_
        · simp only [H0, J86, J87, und3, und4, und22, und26, und29, und45, und64, info3, info4, info22, info26, info29, info45, info64, info50, und50, aggT, gv, dstAt, aop, evalsA, partsA, evalO, updO, ofArgs, binV, intBin, unV, mmV, builtinA, Nat.reduceLT, Nat.reduceEqDiff, Nat.reduceAdd, Nat.reduceSub, Nat.reduceMul, ↓reduceIte, reduceCtorEq, g33, t0, t3, t5, t6, t66, t70]
        clear t0 t3 t5 t6 t66 t70
        rintro τ S3 ⟨rfl, t0, t3, t5, t6, t88⟩
        repeat (first | with_reducible (first | refine W_seq ?_ | refine W_block ?_ | refine W_scope ?_ | refine W_regionV hTT ?_ | refine W_condV ?_ | refine W_ret ?_ | refine W_exit ?_ | refine W_skip ?_ | refine W_label ?_ | refine W_drawV hTT (by kernel_rfl) ?_) | simp only [H0, J86, J87, und3, und4, und22, und26, und29, und45, und64, info3, info4, info22, info26, info29, info45, info64, info50, und50, aggT, gv, dstAt, aop, evalsA, partsA, evalO, updO, ofArgs, binV, intBin, unV, mmV, builtinA, Nat.reduceLT, Nat.reduceEqDiff, Nat.reduceAdd, Nat.reduceSub, Nat.reduceMul, ↓reduceIte, reduceCtorEq, t0, t3, t5, t6, t88, hwj])
        refine LoopQ_intro (n - (j + 1)) (by omega) ⟨rfl, rfl, j + 1, rfl, by omega, by simp only [H0, J86, J87, und3, und4, und22, und26, und29, und45, und64, info3, info4, info22, info26, info29, info45, info64, info50, und50, aggT, gv, dstAt, aop, evalsA, partsA, evalO, updO, ofArgs, binV, intBin, unV, mmV, builtinA, Nat.reduceLT, Nat.reduceEqDiff, Nat.reduceAdd, Nat.reduceSub, Nat.reduceMul, ↓reduceIte, reduceCtorEq, t0], by simp only [H0, J86, J87, und3, und4, und22, und26, und29, und45, und64, info3, info4, info22, info26, info29, info45, info64, info50, und50, aggT, gv, dstAt, aop, evalsA, partsA, evalO, updO, ofArgs, binV, intBin, unV, mmV, builtinA, Nat.reduceLT, Nat.reduceEqDiff, Nat.reduceAdd, Nat.reduceSub, Nat.reduceMul, ↓reduceIte, reduceCtorEq, t3], by simp only [H0, J86, J87, und3, und4, und22, und26, und29, und45, und64, info3, info4, info22, info26, info29, info45, info64, info50, und50, aggT, gv, dstAt, aop, evalsA, partsA, evalO, updO, ofArgs, binV, intBin, unV, mmV, builtinA, Nat.reduceLT, Nat.reduceEqDiff, Nat.reduceAdd, Nat.reduceSub, Nat.reduceMul, ↓reduceIte, reduceCtorEq, t5], by simp only [H0, J86, J87, und3, und4, und22, und26, und29, und45, und64, info3, info4, info22, info26, info29, info45, info64, info50, und50, aggT, gv, dstAt, aop, evalsA, partsA, evalO, updO, ofArgs, binV, intBin, unV, mmV, builtinA, Nat.reduceLT, Nat.reduceEqDiff, Nat.reduceAdd, Nat.reduceSub, Nat.reduceMul, ↓reduceIte, reduceCtorEq, t6, hwj]⟩
      · have c3 : ((i : Int) == j) = false := by simpa using fun h : (i : Int) = j => e (by omega)
        have c4 : ((i : Int) != j) = true := by simpa using fun h : (i : Int) = j => e (by omega)
        have h1 := ((hC i j hin hjn).2 e).2
        have c5 : IntKind.i64.wrap (M i j + M j i) = 1 := by rw [h1]; rfl
        have c6 : ((1 : Int) != 1) = false := rfl
        repeat (first | with_reducible (first | refine W_seq ?_ | refine W_scope ?_ | refine W_regionV hTT ?_ | refine W_condV ?_ | refine W_ret ?_ | refine W_exit ?_ | refine W_skip ?_ | refine W_label ?_ | refine W_drawV hTT (by kernel_rfl) ?_) | simp only [H0, J86, J87, und3, und4, und22, und26, und29, und45, und64, info3, info4, info22, info26, info29, info45, info64, info50, und50, aggT, gv, dstAt, aop, evalsA, partsA, evalO, updO, ofArgs, binV, intBin, unV, mmV, builtinA, Nat.reduceLT, Nat.reduceEqDiff, Nat.reduceAdd, Nat.reduceSub, Nat.reduceMul, ↓reduceIte, reduceCtorEq, t0, t3, t5, t6, e2])
        refine W_block ?_
        with_reducible refine W_seq ?_
        with_reducible refine W_drawV hTT (by kernel_rfl) ?_
        refine VL_gen ((List.range 56).map fun i => some (33 + i)) (by kernel_rfl) ?_
        intro O hO
        have g8 : (O[8]?).bind (·.dst) = some 41 := hO 8
        have g18 : (O[18]?).bind (·.dst) = some 51 := hO 18
        have g22 : (O[22]?).bind (·.dst) = some 55 := hO 22
        have g33 : (O[33]?).bind (·.dst) = some 66 := hO 33
        have g37 : (O[37]?).bind (·.dst) = some 70 := hO 37
        clear hO
        simp only [List.toList_toArray]
        refine VL_part 18 (fun τ' S' => S' = S3 ∧ τ' 0 = vl ∧ τ' 3 = .int .i64 n ∧ τ' 5 = .int .i64 i ∧ τ' 6 = .int .i64 j ∧ τ' 50 = .bool false) ?_ ?_
        · simp only [List.take_succ_cons, List.take_zero]
          simp only [H0, J86, J87, und3, und4, und22, und26, und29, und45, und64, info3, info4, info22, info26, info29, info45, info64, info50, und50, aggT, gv, dstAt, aop, evalsA, partsA, evalO, updO, ofArgs, binV, intBin, unV, mmV, builtinA, Nat.reduceLT, Nat.reduceEqDiff, Nat.reduceAdd, Nat.reduceSub, Nat.reduceMul, ↓reduceIte, reduceCtorEq, g8, t0, t3, t5, t6, a1, a2, a3, a4, c1, c2]
        clear t0 t3 t5 t6
        rintro τ S3 ⟨rfl, t0, t3, t5, t6, t50⟩
        simp only [List.drop_succ_cons, List.drop_zero]
        refine VL_part 15 (fun τ' S' => S' = S3 ∧ τ' 0 = vl ∧ τ' 3 = .int .i64 n ∧ τ' 5 = .int .i64 i ∧ τ' 6 = .int .i64 j ∧ τ' 65 = .bool false) ?_ ?_
        · simp only [List.take_succ_cons, List.take_zero]
          simp only [H0, J86, J87, und3, und4, und22, und26, und29, und45, und64, info3, info4, info22, info26, info29, info45, info64, info50, und50, aggT, gv, dstAt, aop, evalsA, partsA, evalO, updO, ofArgs, binV, intBin, unV, mmV, builtinA, Nat.reduceLT, Nat.reduceEqDiff, Nat.reduceAdd, Nat.reduceSub, Nat.reduceMul, ↓reduceIte, reduceCtorEq, g18, g22, t0, t3, t5, t6, t50, a1, a2, a3, a4, c3, c4, c5, c6, hwj]
        clear t0 t3 t5 t6 t50
        rintro τ S3 ⟨rfl, t0, t3, t5, t6, t65⟩
        simp only [List.drop_succ_cons, List.drop_zero]
        refine VL_part 5 (fun τ' S' => S' = S3 ∧ τ' 0 = vl ∧ τ' 3 = .int .i64 n ∧ τ' 5 = .int .i64 i ∧ τ' 6 = .int .i64 j ∧ τ' 66 = .bool false ∧ τ' 70 = .bool true) ?_ ?_
        · simp only [List.take_succ_cons, List.take_zero]
          simp only [H0, J86, J87, und3, und4, und22, und26, und29, und45, und64, info3, info4, info22, info26, info29, info45, info64, info50, und50, aggT, gv, dstAt, aop, evalsA, partsA, evalO, updO, ofArgs, binV, intBin, unV, mmV, builtinA, Nat.reduceLT, Nat.reduceEqDiff, Nat.reduceAdd, Nat.reduceSub, Nat.reduceMul, ↓reduceIte, reduceCtorEq, g33, t0, t3, t5, t6, t65, c3, c4, c5, c6, hwj]
        clear t0 t3 t5 t6 t65
        rintro τ S3 ⟨rfl, t0, t3, t5, t6, t66, t70⟩
        simp only [List.drop_succ_cons, List.drop_zero]
        refine VL_part 16 (fun τ' S' => S' = S3 ∧ τ' 0 = vl ∧ τ' 3 = .int .i64 n ∧ τ' 5 = .int .i64 i ∧ τ' 6 = .int .i64 j ∧ τ' 66 = .bool false ∧ τ' 70 = .bool true ∧ τ' 86 = .bool false) ?_ ?_
        · simp only [List.take_succ_cons, List.take_zero]
          simp only [H0, J86, J87, und3, und4, und22, und26, und29, und45, und64, info3, info4, info22, info26, info29, info45, info64, info50, und50, aggT, gv, dstAt, aop, evalsA, partsA, evalO, updO, ofArgs, binV, intBin, unV, mmV, builtinA, Nat.reduceLT, Nat.reduceEqDiff, Nat.reduceAdd, Nat.reduceSub, Nat.reduceMul, ↓reduceIte, reduceCtorEq, g37, t0, t3, t5, t6, t66, t70, a1, a2, a3, a4, b1, b2, b3, b4, c3, c4, c5, c6, hwj]
        clear t0 t3 t5 t6 t66 t70
        rintro τ S3 ⟨rfl, t0, t3, t5, t6, t66, t70, t86⟩
        simp only [List.drop_succ_cons, List.drop_zero]
        refine VL_to (fun τ' S' => S' = S3 ∧ τ' 0 = vl ∧ τ' 3 = .int .i64 n ∧ τ' 5 = .int .i64 i ∧ τ' 6 = .int .i64 j ∧ τ' 88 = .bool false) ?_ ?_
        · simp only [H0, J86, J87, und3, und4, und22, und26, und29, und45, und64, info3, info4, info22, info26, info29, info45, info64, info50, und50, aggT, gv, dstAt, aop, evalsA, partsA, evalO, updO, ofArgs, binV, intBin, unV, mmV, builtinA, Nat.reduceLT, Nat.reduceEqDiff, Nat.reduceAdd, Nat.reduceSub, Nat.reduceMul, ↓reduceIte, reduceCtorEq, g33, t0, t3, t5, t6, t66, t70, t86]
        clear t0 t3 t5 t6 t66 t70 t86
        rintro τ S3 ⟨rfl, t0, t3, t5, t6, t88⟩
        repeat (first | with_reducible (first | refine W_seq ?_ | refine W_block ?_ | refine W_scope ?_ | refine W_regionV hTT ?_ | refine W_condV ?_ | refine W_ret ?_ | refine W_exit ?_ | refine W_skip ?_ | refine W_label ?_ | refine W_drawV hTT (by kernel_rfl) ?_) | simp only [H0, J86, J87, und3, und4, und22, und26, und29, und45, und64, info3, info4, info22, info26, info29, info45, info64, info50, und50, aggT, gv, dstAt, aop, evalsA, partsA, evalO, updO, ofArgs, binV, intBin, unV, mmV, builtinA, Nat.reduceLT, Nat.reduceEqDiff, Nat.reduceAdd, Nat.reduceSub, Nat.reduceMul, ↓reduceIte, reduceCtorEq, t0, t3, t5, t6, t88, hwj])
        refine LoopQ_intro (n - (j + 1)) (by omega) ⟨rfl, rfl, j + 1, rfl, by omega, by simp only [H0, J86, J87, und3, und4, und22, und26, und29, und45, und64, info3, info4, info22, info26, info29, info45, info64, info50, und50, aggT, gv, dstAt, aop, evalsA, partsA, evalO, updO, ofArgs, binV, intBin, unV, mmV, builtinA, Nat.reduceLT, Nat.reduceEqDiff, Nat.reduceAdd, Nat.reduceSub, Nat.reduceMul, ↓reduceIte, reduceCtorEq, t0], by simp only [H0, J86, J87, und3, und4, und22, und26, und29, und45, und64, info3, info4, info22, info26, info29, info45, info64, info50, und50, aggT, gv, dstAt, aop, evalsA, partsA, evalO, updO, ofArgs, binV, intBin, unV, mmV, builtinA, Nat.reduceLT, Nat.reduceEqDiff, Nat.reduceAdd, Nat.reduceSub, Nat.reduceMul, ↓reduceIte, reduceCtorEq, t3], by simp only [H0, J86, J87, und3, und4, und22, und26, und29, und45, und64, info3, info4, info22, info26, info29, info45, info64, info50, und50, aggT, gv, dstAt, aop, evalsA, partsA, evalO, updO, ofArgs, binV, intBin, unV, mmV, builtinA, Nat.reduceLT, Nat.reduceEqDiff, Nat.reduceAdd, Nat.reduceSub, Nat.reduceMul, ↓reduceIte, reduceCtorEq, t5], by simp only [H0, J86, J87, und3, und4, und22, und26, und29, und45, und64, info3, info4, info22, info26, info29, info45, info64, info50, und50, aggT, gv, dstAt, aop, evalsA, partsA, evalO, updO, ofArgs, binV, intBin, unV, mmV, builtinA, Nat.reduceLT, Nat.reduceEqDiff, Nat.reduceAdd, Nat.reduceSub, Nat.reduceMul, ↓reduceIte, reduceCtorEq, t6, hwj]⟩
    · have e2 : decide ((j : Int) < n) = false := by simpa using hjn
      repeat (first | with_reducible (first | refine W_seq ?_ | refine W_block ?_ | refine W_scope ?_ | refine W_regionV hTT ?_ | refine W_condV ?_ | refine W_ret ?_ | refine W_exit ?_ | refine W_skip ?_ | refine W_label ?_ | refine W_drawV hTT (by kernel_rfl) ?_) | simp only [H0, J86, J87, und3, und4, und22, und26, und29, und45, und64, info3, info4, info22, info26, info29, info45, info64, info50, und50, aggT, gv, dstAt, aop, evalsA, partsA, evalO, updO, ofArgs, binV, intBin, unV, mmV, builtinA, Nat.reduceLT, Nat.reduceEqDiff, Nat.reduceAdd, Nat.reduceSub, Nat.reduceMul, ↓reduceIte, reduceCtorEq, t0, t3, t5, t6, e2, hw])
      refine LoopQ_intro (n - (i + 1)) (by omega) ⟨rfl, rfl, i + 1, rfl, by omega, by simp only [H0, J86, J87, und3, und4, und22, und26, und29, und45, und64, info3, info4, info22, info26, info29, info45, info64, info50, und50, aggT, gv, dstAt, aop, evalsA, partsA, evalO, updO, ofArgs, binV, intBin, unV, mmV, builtinA, Nat.reduceLT, Nat.reduceEqDiff, Nat.reduceAdd, Nat.reduceSub, Nat.reduceMul, ↓reduceIte, reduceCtorEq, t0], by simp only [H0, J86, J87, und3, und4, und22, und26, und29, und45, und64, info3, info4, info22, info26, info29, info45, info64, info50, und50, aggT, gv, dstAt, aop, evalsA, partsA, evalO, updO, ofArgs, binV, intBin, unV, mmV, builtinA, Nat.reduceLT, Nat.reduceEqDiff, Nat.reduceAdd, Nat.reduceSub, Nat.reduceMul, ↓reduceIte, reduceCtorEq, t3], by simp only [H0, J86, J87, und3, und4, und22, und26, und29, und45, und64, info3, info4, info22, info26, info29, info45, info64, info50, und50, aggT, gv, dstAt, aop, evalsA, partsA, evalO, updO, ofArgs, binV, intBin, unV, mmV, builtinA, Nat.reduceLT, Nat.reduceEqDiff, Nat.reduceAdd, Nat.reduceSub, Nat.reduceMul, ↓reduceIte, reduceCtorEq, t5, hw]⟩
  · have e1 : decide ((i : Int) < n) = false := by simpa using hin
    repeat (first | with_reducible (first | refine W_seq ?_ | refine W_block ?_ | refine W_scope ?_ | refine W_regionV hTT ?_ | refine W_condV ?_ | refine W_ret ?_ | refine W_exit ?_ | refine W_skip ?_ | refine W_label ?_ | refine W_drawV hTT (by kernel_rfl) ?_) | simp only [H0, J86, J87, und3, und4, und22, und26, und29, und45, und64, info3, info4, info22, info26, info29, info45, info64, info50, und50, aggT, gv, dstAt, aop, evalsA, partsA, evalO, updO, ofArgs, binV, intBin, unV, mmV, builtinA, Nat.reduceLT, Nat.reduceEqDiff, Nat.reduceAdd, Nat.reduceSub, Nat.reduceMul, ↓reduceIte, reduceCtorEq, t0, t3, t5, e1])
end Go.Proofs.Sz
end
/- part Zkk -/
section
namespace Go.Proofs.Sz
open Go Go.Ax Go.Proofs Go.RowKit
/-- who was seen -/
def seenV (n : Nat) (p : List Nat) : List Value := (List.range n).map fun v => .bool (decide (v ∈ p))
theorem seenV_nil (n : Nat) : seenV n [] = List.replicate n (.bool false) := by
  unfold seenV
  apply List.ext_getElem?
  intro i
  rw [List.getElem?_map, List.getElem?_replicate]
  by_cases h : i < n
  · rw [List.getElem?_range h, if_pos h]; rfl
  · rw [List.getElem?_eq_none (by rw [List.length_range]; omega), if_neg h]; rfl
theorem seenV_get {n : Nat} {p : List Nat} {i : Nat} (h : i < n) : (seenV n p)[i]? = some (.bool (decide (i ∈ p))) := by
  unfold seenV
  rw [List.getElem?_map, List.getElem?_range h]
  rfl
theorem seenV_set {n : Nat} {p : List Nat} {x : Nat} : (seenV n p).set x (.bool true) = seenV n (p ++ [x]) := by
  unfold seenV
  apply List.ext_getElem?
  intro i
  rw [List.getElem?_set, List.getElem?_map, List.getElem?_map, List.length_map, List.length_range]
  by_cases h : i < n
  · rw [List.getElem?_range h]
    by_cases e : x = i
    · subst e; simp [h]
    · have e' : i ≠ x := fun h => e h.symm
      simp [e, e']
  · rw [List.getElem?_eq_none (by rw [List.length_range]; omega)]
    by_cases e : x = i
    · subst e; simp [h]
    · simp [e]
set_option maxHeartbeats 4000000 in
/-- Players, of all players -/
theorem players_yes {S : St} (hok : S.ok) {va : Value} {n : Nat} {p : List Nat} (ha : Sl S 1 va (iv (nl p)) p.length) (hp : p.Perm (List.range n)) (hn : n ≤ 30) :
    CallW PP 43 [va, .int .i64 n] S (fun v S' => v = .bool true ∧ Ext S S') := by
  have hpl : p.length = n := by rw [hp.length_eq, List.length_range]
  have hnd : p.Nodup := hp.nodup_iff.2 List.nodup_range
  have hmk := make_one (T := TT) (S := S) (m := n) (k := .i64) (k' := .i64) und64 info4 rfl rfl (by omega) (by omega)
  rw [← seenV_nil] at hmk
  refine CallW_of hTT fn43 rfl (by simp [Tryz.f43]) ?_
  unfold Tryz.f43
  repeat (first | with_reducible (first | refine W_seq ?_ | refine W_scope ?_ | refine W_regionV hTT ?_ | refine W_condV ?_ | refine W_ret ?_ | refine W_exit ?_ | refine W_skip ?_ | refine W_label ?_ | refine W_drawV hTT (by kernel_rfl) ?_) | simp only [H0, J86, J87, und3, und4, und22, und26, und29, und45, und64, info3, info4, info22, info26, info29, info45, info64, info50, und50, aggT, gv, dstAt, aop, evalsA, partsA, evalO, updO, ofArgs, binV, intBin, unV, mmV, builtinA, Nat.reduceLT, Nat.reduceEqDiff, Nat.reduceAdd, Nat.reduceSub, Nat.reduceMul, ↓reduceIte, reduceCtorEq, hmk])
  refine W_block ?_
  refine W_loopI (fun m τ ds S' => ds = [] ∧ Ext S S' ∧ ∃ k : Nat, m = n - k ∧ k ≤ n ∧ τ 0 = va ∧ τ 1 = .int .i64 n ∧ τ 5 = .slice (some ⟨S.n, 0, none⟩) n n ∧ τ 6 = .int .i64 k ∧ S'.get S.n = some (.cells (seenV n (p.take k)) 4 0)) n ?_ ?_
  · refine ⟨rfl, (Ext.refl hok).push _, 0, by omega, by omega, ?_, ?_, ?_, ?_, get_push_new _ rfl⟩ <;> first | rfl | simp only [H0, J86, J87, und3, und4, und22, und26, und29, und45, und64, info3, info4, info22, info26, info29, info45, info64, info50, und50, aggT, gv, dstAt, aop, evalsA, partsA, evalO, updO, ofArgs, binV, intBin, unV, mmV, builtinA, Nat.reduceLT, Nat.reduceEqDiff, Nat.reduceAdd, Nat.reduceSub, Nat.reduceMul, ↓reduceIte, reduceCtorEq]
  rintro m τ ds S1 ⟨rfl, hE, k, rfl, hk, t0, t1, t5, t6, hg⟩
  have ha1 := ha.extd hE
  have hla := ha1.len (T := TT) und26
  rw [hpl] at hla
  have hgl := lt_of_get hg
  by_cases hkn : k < n
  · have e1 : decide ((k : Int) < n) = true := by simpa using hkn
    have hw := wrap_succ (k := k) (by omega)
    obtain ⟨q, q1, q2⟩ := listAt ha1 (show k < p.length by omega)
    have hxm := getD_mem (show k < p.length by omega)
    have hxn : p.getD k 0 < n := List.mem_range.1 (hp.mem_iff.1 hxm)
    have hnew : p.getD k 0 ∉ p.take k := by
      intro hh
      have h2 : (p.take k ++ [p.getD k 0]).Nodup := by rw [← take_one (show k < p.length by omega)]; exact hnd.sublist (List.take_sublist _ _)
      rw [List.nodup_append] at h2
      exact h2.2.2 _ hh _ (by simp) rfl
    have htk := take_one (at' := p) (show k < p.length by omega)
    generalize p.getD k 0 = x at q2 hxn hnew htk
    have e2 : decide ((x : Int) < 0) = false := decide_eq_false (by omega)
    have e3 : decide ((x : Int) ≥ n) = false := decide_eq_false (by omega)
    have a1 := arr_index (T := TT) (b := S.n) (c := n) (n := n) (k := .i64) (i := x) und64 info4 rfl hxn
    have l1 := load_one (o := x) und4 info4 rfl hg
    rw [seenV_get hxn, decide_eq_false hnew] at l1
    have s1 := store_one (T := TT) (v := .bool true) (o := x) info4 hg rfl rfl (by simp [seenV]; exact hxn)
    rw [seenV_set, ← htk] at s1
    repeat (first | with_reducible (first | refine W_seq ?_ | refine W_block ?_ | refine W_scope ?_ | refine W_regionV hTT ?_ | refine W_condV ?_ | refine W_ret ?_ | refine W_exit ?_ | refine W_skip ?_ | refine W_label ?_ | refine W_drawV hTT (by kernel_rfl) ?_) | simp only [H0, J86, J87, und3, und4, und22, und26, und29, und45, und64, info3, info4, info22, info26, info29, info45, info64, info50, und50, aggT, gv, dstAt, aop, evalsA, partsA, evalO, updO, ofArgs, binV, intBin, unV, mmV, builtinA, Nat.reduceLT, Nat.reduceEqDiff, Nat.reduceAdd, Nat.reduceSub, Nat.reduceMul, ↓reduceIte, reduceCtorEq, t0, t1, t5, t6, hla, e1, q1, q2, e2, e3, a1, l1, s1, hw])
    refine LoopQ_intro (n - (k + 1)) (by omega) ⟨rfl, hE.set _ (Nat.le_refl _) hgl, k + 1, rfl, by omega, by simp only [H0, J86, J87, und3, und4, und22, und26, und29, und45, und64, info3, info4, info22, info26, info29, info45, info64, info50, und50, aggT, gv, dstAt, aop, evalsA, partsA, evalO, updO, ofArgs, binV, intBin, unV, mmV, builtinA, Nat.reduceLT, Nat.reduceEqDiff, Nat.reduceAdd, Nat.reduceSub, Nat.reduceMul, ↓reduceIte, reduceCtorEq, t0], by simp only [H0, J86, J87, und3, und4, und22, und26, und29, und45, und64, info3, info4, info22, info26, info29, info45, info64, info50, und50, aggT, gv, dstAt, aop, evalsA, partsA, evalO, updO, ofArgs, binV, intBin, unV, mmV, builtinA, Nat.reduceLT, Nat.reduceEqDiff, Nat.reduceAdd, Nat.reduceSub, Nat.reduceMul, ↓reduceIte, reduceCtorEq, t1], by simp only [H0, J86, J87, und3, und4, und22, und26, und29, und45, und64, info3, info4, info22, info26, info29, info45, info64, info50, und50, aggT, gv, dstAt, aop, evalsA, partsA, evalO, updO, ofArgs, binV, intBin, unV, mmV, builtinA, Nat.reduceLT, Nat.reduceEqDiff, Nat.reduceAdd, Nat.reduceSub, Nat.reduceMul, ↓reduceIte, reduceCtorEq, t5], by simp only [H0, J86, J87, und3, und4, und22, und26, und29, und45, und64, info3, info4, info22, info26, info29, info45, info64, info50, und50, aggT, gv, dstAt, aop, evalsA, partsA, evalO, updO, ofArgs, binV, intBin, unV, mmV, builtinA, Nat.reduceLT, Nat.reduceEqDiff, Nat.reduceAdd, Nat.reduceSub, Nat.reduceMul, ↓reduceIte, reduceCtorEq, t6, hw], get_set_same _ hE.ok hgl rfl⟩
  · have e1 : decide ((k : Int) < n) = false := by simpa using hkn
    repeat (first | with_reducible (first | refine W_seq ?_ | refine W_block ?_ | refine W_scope ?_ | refine W_regionV hTT ?_ | refine W_condV ?_ | refine W_ret ?_ | refine W_exit ?_ | refine W_skip ?_ | refine W_label ?_ | refine W_drawV hTT (by kernel_rfl) ?_) | simp only [H0, J86, J87, und3, und4, und22, und26, und29, und45, und64, info3, info4, info22, info26, info29, info45, info64, info50, und50, aggT, gv, dstAt, aop, evalsA, partsA, evalO, updO, ofArgs, binV, intBin, unV, mmV, builtinA, Nat.reduceLT, Nat.reduceEqDiff, Nat.reduceAdd, Nat.reduceSub, Nat.reduceMul, ↓reduceIte, reduceCtorEq, t0, t1, t5, t6, hla, e1, beq_self_eq_true])
    exact hE
set_option maxHeartbeats 4000000 in
/-- the reference's Way, of a way -/
theorem refWay_yes {S : St} (hok : S.ok) {vl va : Value} {n : Nat} {M : Nat → Nat → Int} (hx : Mat S vl (mrows n n M)) {p : List Nat} (ha : Sl S 1 va (iv (nl p)) p.length) (hp : p.Perm (List.range n)) (hn : n ≤ 30) (hwin : ∀ i, i + 1 < n → M (p.getD i 0) (p.getD (i + 1) 0) = 1) :
    CallW PP 19 [vl, va] S (fun v S' => v = .bool true ∧ Ext S S') := by
  have hpl : p.length = n := by rw [hp.length_eq, List.length_range]
  have hla := hx.len (T := TT) und22
  rw [mrows_len] at hla
  refine CallW_of hTT fn19 rfl (by simp [Tryz.f19]) ?_
  unfold Tryz.f19
  repeat (first | with_reducible (first | refine W_seq ?_ | refine W_block ?_ | refine W_scope ?_ | refine W_regionV hTT ?_ | refine W_condV ?_ | refine W_ret ?_ | refine W_exit ?_ | refine W_skip ?_ | refine W_label ?_ | refine W_drawV hTT (by kernel_rfl) ?_) | simp only [H0, J86, J87, und3, und4, und22, und26, und29, und45, und64, info3, info4, info22, info26, info29, info45, info64, info50, und50, aggT, gv, dstAt, aop, evalsA, partsA, evalO, updO, ofArgs, binV, intBin, unV, mmV, builtinA, Nat.reduceLT, Nat.reduceEqDiff, Nat.reduceAdd, Nat.reduceSub, Nat.reduceMul, ↓reduceIte, reduceCtorEq, hla])
  refine VCall_intro (players_yes hok ha hp hn) ?_
  rintro v S1 ⟨rfl, hE⟩
  have hx1 := hx.extd hE
  have ha1 := ha.extd hE
  have hla1 := ha1.len (T := TT) und26
  rw [hpl] at hla1
  repeat (first | with_reducible (first | refine W_seq ?_ | refine W_scope ?_ | refine W_regionV hTT ?_ | refine W_condV ?_ | refine W_ret ?_ | refine W_exit ?_ | refine W_skip ?_ | refine W_label ?_ | refine W_drawV hTT (by kernel_rfl) ?_) | simp only [H0, J86, J87, und3, und4, und22, und26, und29, und45, und64, info3, info4, info22, info26, info29, info45, info64, info50, und50, aggT, gv, dstAt, aop, evalsA, partsA, evalO, updO, ofArgs, binV, intBin, unV, mmV, builtinA, Nat.reduceLT, Nat.reduceEqDiff, Nat.reduceAdd, Nat.reduceSub, Nat.reduceMul, ↓reduceIte, reduceCtorEq])
  refine W_block ?_
  refine W_loopI (fun m τ ds S' => S' = S1 ∧ ds = [] ∧ ∃ k : Nat, m = n - k ∧ k ≤ n ∧ τ 0 = vl ∧ τ 1 = va ∧ τ 5 = .int .i64 k) n ?_ ?_
  · refine ⟨rfl, rfl, 0, by omega, by omega, ?_, ?_, ?_⟩ <;> first | rfl | simp only [H0, J86, J87, und3, und4, und22, und26, und29, und45, und64, info3, info4, info22, info26, info29, info45, info64, info50, und50, aggT, gv, dstAt, aop, evalsA, partsA, evalO, updO, ofArgs, binV, intBin, unV, mmV, builtinA, Nat.reduceLT, Nat.reduceEqDiff, Nat.reduceAdd, Nat.reduceSub, Nat.reduceMul, ↓reduceIte, reduceCtorEq]
  rintro m τ ds S2 ⟨rfl, rfl, k, rfl, hk, t0, t1, t5⟩
  have hw := wrap_succ (k := k) (by omega)
  by_cases hkn : k + 1 < n
  · have e1 : decide (((k + 1 : Nat) : Int) < n) = true := decide_eq_true (by omega)
    obtain ⟨q, q1, q2⟩ := listAt ha1 (show k < p.length by omega)
    obtain ⟨r, r1, r2⟩ := listAt ha1 (show k + 1 < p.length by omega)
    have h1 := List.mem_range.1 (hp.mem_iff.1 (getD_mem (show k < p.length by omega)))
    have h2 := List.mem_range.1 (hp.mem_iff.1 (getD_mem (show k + 1 < p.length by omega)))
    obtain ⟨p1, v1, w1, a1, a2, a3, a4⟩ := game hx1 h1 h2
    rw [hwin k hkn] at a4
    have e2 : ((1 : Int) == 0) = false := rfl
    repeat (first | with_reducible (first | refine W_seq ?_ | refine W_block ?_ | refine W_scope ?_ | refine W_regionV hTT ?_ | refine W_condV ?_ | refine W_ret ?_ | refine W_exit ?_ | refine W_skip ?_ | refine W_label ?_ | refine W_drawV hTT (by kernel_rfl) ?_) | simp only [H0, J86, J87, und3, und4, und22, und26, und29, und45, und64, info3, info4, info22, info26, info29, info45, info64, info50, und50, aggT, gv, dstAt, aop, evalsA, partsA, evalO, updO, ofArgs, binV, intBin, unV, mmV, builtinA, Nat.reduceLT, Nat.reduceEqDiff, Nat.reduceAdd, Nat.reduceSub, Nat.reduceMul, ↓reduceIte, reduceCtorEq, t0, t1, t5, hla1, hw, e1, q1, q2, r1, r2, a1, a2, a3, a4, e2])
    refine LoopQ_intro (n - (k + 1)) (by omega) ⟨rfl, rfl, k + 1, rfl, by omega, by simp only [H0, J86, J87, und3, und4, und22, und26, und29, und45, und64, info3, info4, info22, info26, info29, info45, info64, info50, und50, aggT, gv, dstAt, aop, evalsA, partsA, evalO, updO, ofArgs, binV, intBin, unV, mmV, builtinA, Nat.reduceLT, Nat.reduceEqDiff, Nat.reduceAdd, Nat.reduceSub, Nat.reduceMul, ↓reduceIte, reduceCtorEq, t0], by simp only [H0, J86, J87, und3, und4, und22, und26, und29, und45, und64, info3, info4, info22, info26, info29, info45, info64, info50, und50, aggT, gv, dstAt, aop, evalsA, partsA, evalO, updO, ofArgs, binV, intBin, unV, mmV, builtinA, Nat.reduceLT, Nat.reduceEqDiff, Nat.reduceAdd, Nat.reduceSub, Nat.reduceMul, ↓reduceIte, reduceCtorEq, t1], by simp only [H0, J86, J87, und3, und4, und22, und26, und29, und45, und64, info3, info4, info22, info26, info29, info45, info64, info50, und50, aggT, gv, dstAt, aop, evalsA, partsA, evalO, updO, ofArgs, binV, intBin, unV, mmV, builtinA, Nat.reduceLT, Nat.reduceEqDiff, Nat.reduceAdd, Nat.reduceSub, Nat.reduceMul, ↓reduceIte, reduceCtorEq, t5, hw]⟩
  · have e1 : decide (((k + 1 : Nat) : Int) < n) = false := decide_eq_false (by omega)
    repeat (first | with_reducible (first | refine W_seq ?_ | refine W_block ?_ | refine W_scope ?_ | refine W_regionV hTT ?_ | refine W_condV ?_ | refine W_ret ?_ | refine W_exit ?_ | refine W_skip ?_ | refine W_label ?_ | refine W_drawV hTT (by kernel_rfl) ?_) | simp only [H0, J86, J87, und3, und4, und22, und26, und29, und45, und64, info3, info4, info22, info26, info29, info45, info64, info50, und50, aggT, gv, dstAt, aop, evalsA, partsA, evalO, updO, ofArgs, binV, intBin, unV, mmV, builtinA, Nat.reduceLT, Nat.reduceEqDiff, Nat.reduceAdd, Nat.reduceSub, Nat.reduceMul, ↓reduceIte, reduceCtorEq, t0, t1, t5, hla1, hw, e1])
    exact hE
/-- same, of equal lists -/
theorem same_yes {S : St} {va vb : Value} {xs : List Int} (ha : Sl S 1 va (iv xs) xs.length) (hb : Sl S 1 vb (iv xs) xs.length) (hbig : xs.length < 1000) :
    CallW PP 44 [va, vb] S (fun v S' => v = .bool true ∧ S' = S) := by
  have hla := ha.len (T := TT) und26
  have hlb := hb.len (T := TT) und26
  have e0 : ((xs.length : Int) != xs.length) = false := by simp
  refine CallW_of hTT fn44 rfl (by simp [Tryz.f44]) ?_
  unfold Tryz.f44
  repeat (first | with_reducible (first | refine W_seq ?_ | refine W_block ?_ | refine W_scope ?_ | refine W_regionV hTT ?_ | refine W_condV ?_ | refine W_ret ?_ | refine W_exit ?_ | refine W_skip ?_ | refine W_label ?_ | refine W_drawV hTT (by kernel_rfl) ?_) | simp only [H0, J86, J87, und3, und4, und22, und26, und29, und45, und64, info3, info4, info22, info26, info29, info45, info64, info50, und50, aggT, gv, dstAt, aop, evalsA, partsA, evalO, updO, ofArgs, binV, intBin, unV, mmV, builtinA, Nat.reduceLT, Nat.reduceEqDiff, Nat.reduceAdd, Nat.reduceSub, Nat.reduceMul, ↓reduceIte, reduceCtorEq, hla, hlb, e0])
  refine W_loopI (fun m τ ds S' => S' = S ∧ ds = [] ∧ ∃ k : Nat, m = xs.length - k ∧ k ≤ xs.length ∧ τ 0 = va ∧ τ 1 = vb ∧ τ 5 = .int .i64 k) xs.length ?_ ?_
  · refine ⟨rfl, rfl, 0, by omega, by omega, ?_, ?_, ?_⟩ <;> first | rfl | simp only [H0, J86, J87, und3, und4, und22, und26, und29, und45, und64, info3, info4, info22, info26, info29, info45, info64, info50, und50, aggT, gv, dstAt, aop, evalsA, partsA, evalO, updO, ofArgs, binV, intBin, unV, mmV, builtinA, Nat.reduceLT, Nat.reduceEqDiff, Nat.reduceAdd, Nat.reduceSub, Nat.reduceMul, ↓reduceIte, reduceCtorEq]
  rintro m τ ds S1 ⟨rfl, rfl, k, rfl, hk, t0, t1, t5⟩
  by_cases hlt : k < xs.length
  · have e1 : decide ((k : Int) < xs.length) = true := by simpa using hlt
    have hw := wrap_succ (k := k) (by omega)
    obtain ⟨p, p1, p2, _⟩ := ha.at1 (T := TT) (k := .i64) und26 info3 und3 rfl rfl hlt
    obtain ⟨q, q1, q2, _⟩ := hb.at1 (T := TT) (k := .i64) und26 info3 und3 rfl rfl hlt
    rw [iv_get, List.getElem?_eq_getElem hlt] at p2 q2
    have e2 : (xs[k] != xs[k]) = false := by simp
    repeat (first | with_reducible (first | refine W_seq ?_ | refine W_block ?_ | refine W_scope ?_ | refine W_regionV hTT ?_ | refine W_condV ?_ | refine W_ret ?_ | refine W_exit ?_ | refine W_skip ?_ | refine W_label ?_ | refine W_drawV hTT (by kernel_rfl) ?_) | simp only [H0, J86, J87, und3, und4, und22, und26, und29, und45, und64, info3, info4, info22, info26, info29, info45, info64, info50, und50, aggT, gv, dstAt, aop, evalsA, partsA, evalO, updO, ofArgs, binV, intBin, unV, mmV, builtinA, Nat.reduceLT, Nat.reduceEqDiff, Nat.reduceAdd, Nat.reduceSub, Nat.reduceMul, ↓reduceIte, reduceCtorEq, t0, t1, t5, hla, e1, p1, p2, q1, q2, e2, hw])
    refine LoopQ_intro (xs.length - (k + 1)) (by omega) ⟨rfl, rfl, k + 1, rfl, by omega, by simp only [H0, J86, J87, und3, und4, und22, und26, und29, und45, und64, info3, info4, info22, info26, info29, info45, info64, info50, und50, aggT, gv, dstAt, aop, evalsA, partsA, evalO, updO, ofArgs, binV, intBin, unV, mmV, builtinA, Nat.reduceLT, Nat.reduceEqDiff, Nat.reduceAdd, Nat.reduceSub, Nat.reduceMul, ↓reduceIte, reduceCtorEq, t0], by simp only [H0, J86, J87, und3, und4, und22, und26, und29, und45, und64, info3, info4, info22, info26, info29, info45, info64, info50, und50, aggT, gv, dstAt, aop, evalsA, partsA, evalO, updO, ofArgs, binV, intBin, unV, mmV, builtinA, Nat.reduceLT, Nat.reduceEqDiff, Nat.reduceAdd, Nat.reduceSub, Nat.reduceMul, ↓reduceIte, reduceCtorEq, t1], by simp only [H0, J86, J87, und3, und4, und22, und26, und29, und45, und64, info3, info4, info22, info26, info29, info45, info64, info50, und50, aggT, gv, dstAt, aop, evalsA, partsA, evalO, updO, ofArgs, binV, intBin, unV, mmV, builtinA, Nat.reduceLT, Nat.reduceEqDiff, Nat.reduceAdd, Nat.reduceSub, Nat.reduceMul, ↓reduceIte, reduceCtorEq, t5, hw]⟩
  · have e1 : decide ((k : Int) < xs.length) = false := by simpa using hlt
    repeat (first | with_reducible (first | refine W_seq ?_ | refine W_block ?_ | refine W_scope ?_ | refine W_regionV hTT ?_ | refine W_condV ?_ | refine W_ret ?_ | refine W_exit ?_ | refine W_skip ?_ | refine W_label ?_ | refine W_drawV hTT (by kernel_rfl) ?_) | simp only [H0, J86, J87, und3, und4, und22, und26, und29, und45, und64, info3, info4, info22, info26, info29, info45, info64, info50, und50, aggT, gv, dstAt, aop, evalsA, partsA, evalO, updO, ofArgs, binV, intBin, unV, mmV, builtinA, Nat.reduceLT, Nat.reduceEqDiff, Nat.reduceAdd, Nat.reduceSub, Nat.reduceMul, ↓reduceIte, reduceCtorEq, t0, t1, t5, hla, e1])
end Go.Proofs.Sz
end
/- part Zkl -/
section
namespace Go.Proofs.Sz
open Go Go.Ax Go.Proofs Go.RowKit
theorem rowsums (n : Nat) (M : Nat → Nat → Int) : (mrows n n M).map List.sum = (List.range n).map (sc n M) := by
  unfold mrows
  rw [List.map_map]
  rfl
/-- the reference's ContestAnswer, of a contest with these scores -/
theorem contestAnswer_yes {S : St} (hok : S.ok) {vs vl : Value} {n : Nat} {D : Nat → Nat → Int} {xs : List Int} (hs : Sl S 1 vs (iv xs) xs.length) (hx : Mat S vl (mrows n n D)) (hn : n ≤ 30) (hC : IsC n D) (hxs : xs = (List.range n).map (sc n D)) :
    CallW PP 22 [vs, vl, .int .i64 0] S (fun v S' => v = .bool true ∧ Ext S S') := by
  have hxl : xs.length = n := by rw [hxs]; simp
  have hla := hs.len (T := TT) und26
  have e0 : ((0 : Int) == 0) = true := rfl
  refine CallW_of hTT fn22 rfl (by simp [Tryz.f22]) ?_
  unfold Tryz.f22
  repeat (first | with_reducible (first | refine W_seq ?_ | refine W_block ?_ | refine W_scope ?_ | refine W_regionV hTT ?_ | refine W_condV ?_ | refine W_ret ?_ | refine W_exit ?_ | refine W_skip ?_ | refine W_label ?_ | refine W_drawV hTT (by kernel_rfl) ?_) | simp only [H0, J86, J87, und3, und4, und22, und26, und29, und45, und64, info3, info4, info22, info26, info29, info45, info64, info50, und50, aggT, gv, dstAt, aop, evalsA, partsA, evalO, updO, ofArgs, binV, intBin, unV, mmV, builtinA, Nat.reduceLT, Nat.reduceEqDiff, Nat.reduceAdd, Nat.reduceSub, Nat.reduceMul, ↓reduceIte, reduceCtorEq, hla, e0])
  refine VCall_intro (refContest_yes hx hn hC) ?_
  rintro v S1 ⟨rfl, rfl⟩
  have hb : ∀ r ∈ mrows n n D, r.length < 31 ∧ ∀ x ∈ r, 0 ≤ x ∧ x < 1000 := by
    intro r hr
    obtain ⟨i, hi, rfl⟩ := List.getElem_of_mem hr
    rw [mrows_get, mrow_len]
    rw [mrows_len] at hi
    exact ⟨by omega, hC.rowB hi⟩
  repeat (first | with_reducible (first | refine W_seq ?_ | refine W_block ?_ | refine W_scope ?_ | refine W_regionV hTT ?_ | refine W_condV ?_ | refine W_ret ?_ | refine W_exit ?_ | refine W_skip ?_ | refine W_label ?_ | refine W_drawV hTT (by kernel_rfl) ?_) | simp only [H0, J86, J87, und3, und4, und22, und26, und29, und45, und64, info3, info4, info22, info26, info29, info45, info64, info50, und50, aggT, gv, dstAt, aop, evalsA, partsA, evalO, updO, ofArgs, binV, intBin, unV, mmV, builtinA, Nat.reduceLT, Nat.reduceEqDiff, Nat.reduceAdd, Nat.reduceSub, Nat.reduceMul, ↓reduceIte, reduceCtorEq])
  refine VCall_intro (scores_call hok hx (by rw [mrows_len]; omega) hb) ?_
  rintro u S2 ⟨hM, hE⟩
  rw [rowsums, ← hxs, mrows_len, ← hxl] at hM
  repeat (first | with_reducible (first | refine W_seq ?_ | refine W_block ?_ | refine W_scope ?_ | refine W_regionV hTT ?_ | refine W_condV ?_ | refine W_ret ?_ | refine W_exit ?_ | refine W_skip ?_ | refine W_label ?_ | refine W_drawV hTT (by kernel_rfl) ?_) | simp only [H0, J86, J87, und3, und4, und22, und26, und29, und45, und64, info3, info4, info22, info26, info29, info45, info64, info50, und50, aggT, gv, dstAt, aop, evalsA, partsA, evalO, updO, ofArgs, binV, intBin, unV, mmV, builtinA, Nat.reduceLT, Nat.reduceEqDiff, Nat.reduceAdd, Nat.reduceSub, Nat.reduceMul, ↓reduceIte, reduceCtorEq])
  refine VCall_intro (same_yes hM.sl (hs.extd hE) (by omega)) ?_
  rintro v S3 ⟨rfl, rfl⟩
  repeat (first | with_reducible (first | refine W_seq ?_ | refine W_block ?_ | refine W_scope ?_ | refine W_regionV hTT ?_ | refine W_condV ?_ | refine W_ret ?_ | refine W_exit ?_ | refine W_skip ?_ | refine W_label ?_ | refine W_drawV hTT (by kernel_rfl) ?_) | simp only [H0, J86, J87, und3, und4, und22, und26, und29, und45, und64, info3, info4, info22, info26, info29, info45, info64, info50, und50, aggT, gv, dstAt, aop, evalsA, partsA, evalO, updO, ofArgs, binV, intBin, unV, mmV, builtinA, Nat.reduceLT, Nat.reduceEqDiff, Nat.reduceAdd, Nat.reduceSub, Nat.reduceMul, ↓reduceIte, reduceCtorEq])
  exact hE
/-- CheckContest, of a contest with these scores -/
theorem checkContest_yes {S : St} {vs vl : Value} {n : Nat} {M : Nat → Nat → Int} {xs : List Int} (hs : Sl S 1 vs (iv xs) xs.length) (hx : Mat S vl (mrows n n M)) (hn : n ≤ 30) (hC : IsC n M) (hxs : xs = (List.range n).map (sc n M)) :
    CallW PP 23 [vs, vl, .int .i64 0] S (fun v S' => v = .int .i64 0 ∧ S' = S) := by
  have hxl : xs.length = n := by rw [hxs]; simp
  have hla := hs.len (T := TT) und26
  rw [hxl] at hla
  have hlc := hx.len (T := TT) und22
  rw [mrows_len] at hlc
  have e0 : ((0 : Int) == 0) = true := rfl
  have hb : ∀ x ∈ xs, 0 ≤ x ∧ x ≤ 30 := by
    intro x hx
    rw [hxs, List.mem_map] at hx
    obtain ⟨i, hi, rfl⟩ := hx
    have := sc_bnd hC (List.mem_range.1 hi)
    omega
  refine CallW_of hTT fn23 rfl (by simp [Tryz.f23]) ?_
  unfold Tryz.f23
  repeat (first | with_reducible (first | refine W_seq ?_ | refine W_block ?_ | refine W_scope ?_ | refine W_regionV hTT ?_ | refine W_condV ?_ | refine W_ret ?_ | refine W_exit ?_ | refine W_skip ?_ | refine W_label ?_ | refine W_drawV hTT (by kernel_rfl) ?_) | simp only [H0, J86, J87, und3, und4, und22, und26, und29, und45, und64, info3, info4, info22, info26, info29, info45, info64, info50, und50, aggT, gv, dstAt, aop, evalsA, partsA, evalO, updO, ofArgs, binV, intBin, unV, mmV, builtinA, Nat.reduceLT, Nat.reduceEqDiff, Nat.reduceAdd, Nat.reduceSub, Nat.reduceMul, ↓reduceIte, reduceCtorEq])
  refine VCall_intro (areNumbers_yes hs (by omega) hb) ?_
  rintro v S1 ⟨rfl, rfl⟩
  repeat (first | with_reducible (first | refine W_seq ?_ | refine W_block ?_ | refine W_scope ?_ | refine W_regionV hTT ?_ | refine W_condV ?_ | refine W_ret ?_ | refine W_exit ?_ | refine W_skip ?_ | refine W_label ?_ | refine W_drawV hTT (by kernel_rfl) ?_) | simp only [H0, J86, J87, und3, und4, und22, und26, und29, und45, und64, info3, info4, info22, info26, info29, info45, info64, info50, und50, aggT, gv, dstAt, aop, evalsA, partsA, evalO, updO, ofArgs, binV, intBin, unV, mmV, builtinA, Nat.reduceLT, Nat.reduceEqDiff, Nat.reduceAdd, Nat.reduceSub, Nat.reduceMul, ↓reduceIte, reduceCtorEq, hla, e0])
  refine VCall_intro (isContest_yes hx (by omega) hC) ?_
  rintro v S1 ⟨rfl, rfl⟩
  repeat (first | with_reducible (first | refine W_seq ?_ | refine W_scope ?_ | refine W_regionV hTT ?_ | refine W_condV ?_ | refine W_ret ?_ | refine W_exit ?_ | refine W_skip ?_ | refine W_label ?_ | refine W_drawV hTT (by kernel_rfl) ?_) | simp only [H0, J86, J87, und3, und4, und22, und26, und29, und45, und64, info3, info4, info22, info26, info29, info45, info64, info50, und50, aggT, gv, dstAt, aop, evalsA, partsA, evalO, updO, ofArgs, binV, intBin, unV, mmV, builtinA, Nat.reduceLT, Nat.reduceEqDiff, Nat.reduceAdd, Nat.reduceSub, Nat.reduceMul, ↓reduceIte, reduceCtorEq, hla, hlc, beq_self_eq_true])
  refine W_block ?_
  refine W_loopI (fun m τ ds S' => S' = S1 ∧ ds = [] ∧ ∃ k : Nat, m = n - k ∧ k ≤ n ∧ τ 0 = vs ∧ τ 1 = vl ∧ τ 27 = .int .i64 n ∧ τ 28 = .int .i64 k ∧ τ 8 = .bool true) n ?_ ?_
  · refine ⟨rfl, rfl, 0, by omega, by omega, ?_, ?_, ?_, ?_, ?_⟩ <;> first | rfl | simp only [H0, J86, J87, und3, und4, und22, und26, und29, und45, und64, info3, info4, info22, info26, info29, info45, info64, info50, und50, aggT, gv, dstAt, aop, evalsA, partsA, evalO, updO, ofArgs, binV, intBin, unV, mmV, builtinA, Nat.reduceLT, Nat.reduceEqDiff, Nat.reduceAdd, Nat.reduceSub, Nat.reduceMul, ↓reduceIte, reduceCtorEq]
  rintro m τ ds S2 ⟨rfl, rfl, k, rfl, hk, t0, t1, t27, t28, t8⟩
  by_cases hkn : k < n
  · have e1 : decide ((k : Int) < n) = true := by simpa using hkn
    have hw := wrap_succ (k := k) (by omega)
    obtain ⟨p, rv, p1, p2, hrow, _⟩ := hx.row (T := TT) (k := .i64) und22 info26 und26 rfl (i := k) (by rw [mrows_len]; exact hkn)
    rw [mrows_get] at hrow
    obtain ⟨q, q1, q2, _⟩ := hs.at1 (T := TT) (k := .i64) und26 info3 und3 rfl rfl (i := k) (by omega)
    have hg : xs[k]? = some (sc n M k) := by rw [hxs, List.getElem?_map, List.getElem?_range hkn]; rfl
    rw [iv_get, hg] at q2
    simp only [Option.map_some] at q2
    have hci := callIs_of (S := S2) (v := .int .i64 (sc n M k)) (sumX_call (xs := mrow n (M k)) hrow (by rw [mrow_len]; omega) (hC.rowB hkn))
    have k1 : F3 S2 26 26 26 [rv] [rv] [rv] (.int .i64 (sc n M k)) (.int .i64 (sc n M k)) (.int .i64 (sc n M k)) 26 [rv] S2 = some (.int .i64 (sc n M k), S2) := by simp [F3]
    have hokF := F3_ok hci hci hci
    have hsmF := F3_same (S0 := S2) (f1 := 26) (f2 := 26) (f3 := 26) (a1 := [rv]) (a2 := [rv]) (a3 := [rv]) (v1 := .int .i64 (sc n M k)) (v2 := .int .i64 (sc n M k)) (v3 := .int .i64 (sc n M k))
    generalize F3 S2 26 26 26 [rv] [rv] [rv] (.int .i64 (sc n M k)) (.int .i64 (sc n M k)) (.int .i64 (sc n M k)) = F at k1 hokF hsmF
    repeat (first | with_reducible (first | refine W_seq ?_ | refine W_scope ?_ | refine W_regionV hTT ?_ | refine W_condV ?_ | refine W_ret ?_ | refine W_exit ?_ | refine W_skip ?_ | refine W_label ?_ | refine W_drawV hTT (by kernel_rfl) ?_) | simp only [H0, J86, J87, und3, und4, und22, und26, und29, und45, und64, info3, info4, info22, info26, info29, info45, info64, info50, und50, aggT, gv, dstAt, aop, evalsA, partsA, evalO, updO, ofArgs, binV, intBin, unV, mmV, builtinA, Nat.reduceLT, Nat.reduceEqDiff, Nat.reduceAdd, Nat.reduceSub, Nat.reduceMul, ↓reduceIte, reduceCtorEq, t0, t1, t27, t28, t8, e1])
    refine W_block ?_
    with_reducible refine W_seq ?_
    with_reducible refine W_regionV hTT ?_
    simp only [H0, J86, J87, und3, und4, und22, und26, und29, und45, und64, info3, info4, info22, info26, info29, info45, info64, info50, und50, aggT, gv, dstAt, aop, evalsA, partsA, evalO, updO, ofArgs, binV, intBin, unV, mmV, builtinA, Nat.reduceLT, Nat.reduceEqDiff, Nat.reduceAdd, Nat.reduceSub, Nat.reduceMul, ↓reduceIte, reduceCtorEq, t0, t1, t27, t28, t8]
    with_reducible refine W_drawS hTT hokF hsmF (by kernel_rfl) ?_
    simp only [H0, J86, J87, und3, und4, und22, und26, und29, und45, und64, info3, info4, info22, info26, info29, info45, info64, info50, und50, aggT, gv, dstAt, aop, evalsA, partsA, evalO, updO, ofArgs, binV, intBin, unV, mmV, builtinA, Nat.reduceLT, Nat.reduceEqDiff, Nat.reduceAdd, Nat.reduceSub, Nat.reduceMul, ↓reduceIte, reduceCtorEq, t0, t1, t27, t28, t8, p1, p2]
    refine VCallF_intro k1 ?_
    repeat (first | with_reducible (first | refine W_seq ?_ | refine W_block ?_ | refine W_scope ?_ | refine W_regionV hTT ?_ | refine W_condV ?_ | refine W_ret ?_ | refine W_exit ?_ | refine W_skip ?_ | refine W_label ?_ | refine W_drawV hTT (by kernel_rfl) ?_) | simp only [H0, J86, J87, und3, und4, und22, und26, und29, und45, und64, info3, info4, info22, info26, info29, info45, info64, info50, und50, aggT, gv, dstAt, aop, evalsA, partsA, evalO, updO, ofArgs, binV, intBin, unV, mmV, builtinA, Nat.reduceLT, Nat.reduceEqDiff, Nat.reduceAdd, Nat.reduceSub, Nat.reduceMul, ↓reduceIte, reduceCtorEq, t0, t1, t27, t28, t8, q1, q2, beq_self_eq_true, hw])
    refine LoopQ_intro (n - (k + 1)) (by omega) ⟨rfl, rfl, k + 1, rfl, by omega, by simp only [H0, J86, J87, und3, und4, und22, und26, und29, und45, und64, info3, info4, info22, info26, info29, info45, info64, info50, und50, aggT, gv, dstAt, aop, evalsA, partsA, evalO, updO, ofArgs, binV, intBin, unV, mmV, builtinA, Nat.reduceLT, Nat.reduceEqDiff, Nat.reduceAdd, Nat.reduceSub, Nat.reduceMul, ↓reduceIte, reduceCtorEq, t0], by simp only [H0, J86, J87, und3, und4, und22, und26, und29, und45, und64, info3, info4, info22, info26, info29, info45, info64, info50, und50, aggT, gv, dstAt, aop, evalsA, partsA, evalO, updO, ofArgs, binV, intBin, unV, mmV, builtinA, Nat.reduceLT, Nat.reduceEqDiff, Nat.reduceAdd, Nat.reduceSub, Nat.reduceMul, ↓reduceIte, reduceCtorEq, t1], by simp only [H0, J86, J87, und3, und4, und22, und26, und29, und45, und64, info3, info4, info22, info26, info29, info45, info64, info50, und50, aggT, gv, dstAt, aop, evalsA, partsA, evalO, updO, ofArgs, binV, intBin, unV, mmV, builtinA, Nat.reduceLT, Nat.reduceEqDiff, Nat.reduceAdd, Nat.reduceSub, Nat.reduceMul, ↓reduceIte, reduceCtorEq, t27], by simp only [H0, J86, J87, und3, und4, und22, und26, und29, und45, und64, info3, info4, info22, info26, info29, info45, info64, info50, und50, aggT, gv, dstAt, aop, evalsA, partsA, evalO, updO, ofArgs, binV, intBin, unV, mmV, builtinA, Nat.reduceLT, Nat.reduceEqDiff, Nat.reduceAdd, Nat.reduceSub, Nat.reduceMul, ↓reduceIte, reduceCtorEq, t28, hw], by simp only [H0, J86, J87, und3, und4, und22, und26, und29, und45, und64, info3, info4, info22, info26, info29, info45, info64, info50, und50, aggT, gv, dstAt, aop, evalsA, partsA, evalO, updO, ofArgs, binV, intBin, unV, mmV, builtinA, Nat.reduceLT, Nat.reduceEqDiff, Nat.reduceAdd, Nat.reduceSub, Nat.reduceMul, ↓reduceIte, reduceCtorEq]⟩
  · have e1 : decide ((k : Int) < n) = false := by simpa using hkn
    repeat (first | with_reducible (first | refine W_seq ?_ | refine W_block ?_ | refine W_scope ?_ | refine W_regionV hTT ?_ | refine W_condV ?_ | refine W_ret ?_ | refine W_exit ?_ | refine W_skip ?_ | refine W_label ?_ | refine W_drawV hTT (by kernel_rfl) ?_) | simp only [H0, J86, J87, und3, und4, und22, und26, und29, und45, und64, info3, info4, info22, info26, info29, info45, info64, info50, und50, aggT, gv, dstAt, aop, evalsA, partsA, evalO, updO, ofArgs, binV, intBin, unV, mmV, builtinA, Nat.reduceLT, Nat.reduceEqDiff, Nat.reduceAdd, Nat.reduceSub, Nat.reduceMul, ↓reduceIte, reduceCtorEq, t0, t1, t27, t28, t8, e1])
/-- CheckContest, of no contest for scores that have one: no answer -/
theorem checkContest_no {S : St} (hok : S.ok) {vs : Value} {n : Nat} {M : Nat → Nat → Int} {xs : List Int} (hs : Sl S 1 vs (iv xs) xs.length) (hn : n ≤ 20) (hn0 : 0 < n) (hC : IsC n M) (hxs : xs = (List.range n).map (sc n M)) {k : Int} (hk : k = -1 ∨ ∃ j : Nat, 0 < j ∧ j ≤ n ∧ k = j) :
    CallW PP 23 [vs, .slice none 0 0, .int .i64 k] S (fun v S' => v = .int .i64 10 ∧ Ext S S') := by
  have hxl : xs.length = n := by rw [hxs]; simp
  have hla := hs.len (T := TT) und26
  rw [hxl] at hla
  have hlc : lenOpA TT S 22 (.slice none 0 0) = some (.int .i64 0) := by simp [lenOpA, und22]
  have hb : ∀ x ∈ xs, 0 ≤ x ∧ x ≤ 30 := by
    intro x hx
    rw [hxs, List.mem_map] at hx
    obtain ⟨i, hi, rfl⟩ := hx
    have := sc_bnd hC (List.mem_range.1 hi)
    omega
  have hb2 : ∀ x ∈ xs, 0 ≤ x ∧ x < 1000 := fun x hx => by have := hb x hx; omega
  have hC' : IsC xs.length M := by rw [hxl]; exact hC
  have hxs' : xs = (List.range xs.length).map (sc xs.length M) := by rw [hxl]; exact hxs
  have hsum : xs.sum = tri n := by rw [scores_sum hC' hxs', hxl]
  have e2 : ((2 : Int) = 0) = False := by simp
  obtain ⟨w1, w2, w3⟩ := tri_wraps (k := n) hn0 (by omega)
  have eN : (tri n != tri n) = false := by simp
  refine CallW_of hTT fn23 rfl (by simp [Tryz.f23]) ?_
  unfold Tryz.f23
  repeat (first | with_reducible (first | refine W_seq ?_ | refine W_block ?_ | refine W_scope ?_ | refine W_regionV hTT ?_ | refine W_condV ?_ | refine W_ret ?_ | refine W_exit ?_ | refine W_skip ?_ | refine W_label ?_ | refine W_drawV hTT (by kernel_rfl) ?_) | simp only [H0, J86, J87, und3, und4, und22, und26, und29, und45, und64, info3, info4, info22, info26, info29, info45, info64, info50, und50, aggT, gv, dstAt, aop, evalsA, partsA, evalO, updO, ofArgs, binV, intBin, unV, mmV, builtinA, Nat.reduceLT, Nat.reduceEqDiff, Nat.reduceAdd, Nat.reduceSub, Nat.reduceMul, ↓reduceIte, reduceCtorEq])
  refine VCall_intro (areNumbers_yes hs (by omega) hb) ?_
  rintro v S1 ⟨rfl, rfl⟩
  rcases hk with rfl | ⟨j, hj0, hjn, rfl⟩
  · have e0 : ((-1 : Int) == 0) = false := rfl
    have e1 : ((-1 : Int) == -1) = true := rfl
    repeat (first | with_reducible (first | refine W_seq ?_ | refine W_block ?_ | refine W_scope ?_ | refine W_regionV hTT ?_ | refine W_condV ?_ | refine W_ret ?_ | refine W_exit ?_ | refine W_skip ?_ | refine W_label ?_ | refine W_drawV hTT (by kernel_rfl) ?_) | simp only [H0, J86, J87, und3, und4, und22, und26, und29, und45, und64, info3, info4, info22, info26, info29, info45, info64, info50, und50, aggT, gv, dstAt, aop, evalsA, partsA, evalO, updO, ofArgs, binV, intBin, unV, mmV, builtinA, Nat.reduceLT, Nat.reduceEqDiff, Nat.reduceAdd, Nat.reduceSub, Nat.reduceMul, ↓reduceIte, reduceCtorEq, hla, e0, e1, hlc, beq_self_eq_true])
    refine VCall_intro (sumX_call hs (by omega) hb2) ?_
    rintro v S1 ⟨rfl, rfl⟩
    repeat (first | with_reducible (first | refine W_seq ?_ | refine W_block ?_ | refine W_scope ?_ | refine W_regionV hTT ?_ | refine W_condV ?_ | refine W_ret ?_ | refine W_exit ?_ | refine W_skip ?_ | refine W_label ?_ | refine W_drawV hTT (by kernel_rfl) ?_) | simp only [H0, J86, J87, und3, und4, und22, und26, und29, und45, und64, info3, info4, info22, info26, info29, info45, info64, info50, und50, aggT, gv, dstAt, aop, evalsA, partsA, evalO, updO, ofArgs, binV, intBin, unV, mmV, builtinA, Nat.reduceLT, Nat.reduceEqDiff, Nat.reduceAdd, Nat.reduceSub, Nat.reduceMul, ↓reduceIte, reduceCtorEq, hla, hsum, w1, w2, w3, eN, e2])
    exact Ext.refl hok
  · have e0 : ((j : Int) == 0) = false := by simp; omega
    have e1 : ((j : Int) == -1) = false := by simp
    have e3 : decide ((1 : Int) ≤ j ∧ (j : Int) ≤ n) = true := decide_eq_true (by omega)
    repeat (first | with_reducible (first | refine W_seq ?_ | refine W_block ?_ | refine W_scope ?_ | refine W_regionV hTT ?_ | refine W_condV ?_ | refine W_ret ?_ | refine W_exit ?_ | refine W_skip ?_ | refine W_label ?_ | refine W_drawV hTT (by kernel_rfl) ?_) | simp only [H0, J86, J87, und3, und4, und22, und26, und29, und45, und64, info3, info4, info22, info26, info29, info45, info64, info50, und50, aggT, gv, dstAt, aop, evalsA, partsA, evalO, updO, ofArgs, binV, intBin, unV, mmV, builtinA, Nat.reduceLT, Nat.reduceEqDiff, Nat.reduceAdd, Nat.reduceSub, Nat.reduceMul, ↓reduceIte, reduceCtorEq, hla, e0, e1])
    refine VCall_intro (within_call _ _ _ _) ?_
    rintro v S1 ⟨rfl, rfl⟩
    repeat (first | with_reducible (first | refine W_seq ?_ | refine W_block ?_ | refine W_scope ?_ | refine W_regionV hTT ?_ | refine W_condV ?_ | refine W_ret ?_ | refine W_exit ?_ | refine W_skip ?_ | refine W_label ?_ | refine W_drawV hTT (by kernel_rfl) ?_) | simp only [H0, J86, J87, und3, und4, und22, und26, und29, und45, und64, info3, info4, info22, info26, info29, info45, info64, info50, und50, aggT, gv, dstAt, aop, evalsA, partsA, evalO, updO, ofArgs, binV, intBin, unV, mmV, builtinA, Nat.reduceLT, Nat.reduceEqDiff, Nat.reduceAdd, Nat.reduceSub, Nat.reduceMul, ↓reduceIte, reduceCtorEq, e3, hlc, beq_self_eq_true])
    refine VCall_intro (lackX_call hok (slCells hs) hs (by omega) hb2 hj0 (by omega) (by omega)) ?_
    rintro v S2 ⟨rfl, hE⟩
    have eL : decide (tri j - ((msort xs).take j).sum > 0) = false := decide_eq_false (by have := lack_le hC' hxs' (k := j) (by omega); omega)
    repeat (first | with_reducible (first | refine W_seq ?_ | refine W_block ?_ | refine W_scope ?_ | refine W_regionV hTT ?_ | refine W_condV ?_ | refine W_ret ?_ | refine W_exit ?_ | refine W_skip ?_ | refine W_label ?_ | refine W_drawV hTT (by kernel_rfl) ?_) | simp only [H0, J86, J87, und3, und4, und22, und26, und29, und45, und64, info3, info4, info22, info26, info29, info45, info64, info50, und50, aggT, gv, dstAt, aop, evalsA, partsA, evalO, updO, ofArgs, binV, intBin, unV, mmV, builtinA, Nat.reduceLT, Nat.reduceEqDiff, Nat.reduceAdd, Nat.reduceSub, Nat.reduceMul, ↓reduceIte, reduceCtorEq, eL])
    exact hE
/-- the way, in plain numbers -/
def wayN (M : Nat → Nat → Int) : Nat → List Nat
  | 0 => []
  | k + 1 => insN (wayN M k) (((wayN M k).findIdx? (fun u => M k u == 1)).getD (wayN M k).length) k
theorem wayL_nl (M : Nat → Nat → Int) (k : Nat) : wayL M k = nl (wayN M k) := by
  induction k with
  | zero => rfl
  | succ k ih =>
    unfold wayL wayN
    rw [ih, nl_len]
    have : (nl (wayN M k)).findIdx? (fun u => M k u.toNat == 1) = (wayN M k).findIdx? (fun u => M k u == 1) := by
      unfold nl
      rw [List.findIdx?_map]
      rfl
    rw [this]
    exact insL_nl _ _ _
theorem wayN_perm (M : Nat → Nat → Int) (k : Nat) : (wayN M k).Perm (List.range k) := by
  induction k with
  | zero => exact .refl _
  | succ k ih =>
    unfold wayN
    refine (insN_perm _ _ _).trans ?_
    rw [List.range_succ]
    exact (ih.cons k).trans (List.perm_append_singleton k (List.range k)).symm
theorem wayN_win {n : Nat} {M : Nat → Nat → Int} (hC : IsC n M) (k : Nat) (hk : k ≤ n) : ∀ i, i + 1 < k → M ((wayN M k).getD i 0) ((wayN M k).getD (i + 1) 0) = 1 := by
  induction k with
  | zero => intro i h; omega
  | succ k ih =>
    intro i hi
    have ih := ih (by omega)
    have hp := wayN_perm M k
    have hl : (wayN M k).length = k := by rw [hp.length_eq, List.length_range]
    have hlt : ∀ j, j < k → (wayN M k).getD j 0 < k := fun j hj => List.mem_range.1 (hp.mem_iff.1 (getD_mem (by omega)))
    -- the place
    obtain ⟨a, ha, hak, hfa, hba⟩ : ∃ a, ((wayN M k).findIdx? (fun u => M k u == 1)).getD (wayN M k).length = a ∧ a ≤ k ∧ (a < k → M k ((wayN M k).getD a 0) = 1) ∧ ∀ j, j < a → ¬ M k ((wayN M k).getD j 0) = 1 := by
      cases hf : (wayN M k).findIdx? (fun u => M k u == 1) with
      | none =>
        refine ⟨k, by rw [Option.getD_none, hl], Nat.le_refl _, fun h => by omega, fun j hj => ?_⟩
        rw [List.findIdx?_eq_none_iff] at hf
        have := hf _ (getD_mem (show j < (wayN M k).length by omega))
        simpa using this
      | some a =>
        rw [List.findIdx?_eq_some_iff_getElem] at hf
        obtain ⟨h1, h2, h3⟩ := hf
        have hg : ∀ j (h : j < (wayN M k).length), (wayN M k)[j] = (wayN M k).getD j 0 := fun j h => by rw [List.getD_eq_getElem?_getD, List.getElem?_eq_getElem h]; rfl
        refine ⟨a, rfl, by omega, fun _ => ?_, fun j hj => ?_⟩
        · rw [hg] at h2
          simpa using h2
        · have := h3 j hj
          rw [hg] at this
          simpa using this
    unfold wayN
    rw [ha, insN_get (by omega), insN_get (by omega)]
    have hlost : ∀ j, j < a → M ((wayN M k).getD j 0) k = 1 := by
      intro j hj
      have h1 := hlt j (by omega)
      have := hC.two (i := (wayN M k).getD j 0) (j := k) (by omega) (by omega) (by omega)
      have := hba j hj
      omega
    rcases Nat.lt_or_ge (i + 1) a with h | h
    · rw [if_pos (by omega), if_pos h]
      exact ih i (by omega)
    · rcases Nat.eq_or_lt_of_le h with h | h
      · rw [if_pos (by omega), if_neg (by omega), if_pos h.symm]
        exact hlost i (by omega)
      · by_cases e : i = a
        · rw [if_neg (by omega), if_pos e, if_neg (by omega), if_neg (by omega), Nat.add_sub_cancel, e]
          exact hfa (by omega)
        · rw [if_neg (by omega), if_neg e, if_neg (by omega), if_neg (by omega), Nat.add_sub_cancel]
          have := ih (i - 1) (by omega)
          rwa [show i - 1 + 1 = i by omega] at this
end Go.Proofs.Sz
end
/- part SzJoin -/
section
namespace Go.Proofs.Sz
open Go Go.Ax Go.Proofs
def ren : Shelf.Ren where
  f := fun x => match x with
    | 156 => 77
    | 165 => 86
    | 166 => 87
    | 169 => 88
    | 240 => 110
    | 241 => 111
    | 276 => 122
    | 277 => 123
    | n => n
  t := fun x => match x with
    | 31 => 84
    | 9 => 9
    | 3 => 3
    | 4 => 4
    | 0 => 0
    | 20 => 20
    | 72 => 96
    | 76 => 99
    | 70 => 93
    | 37 => 94
    | 75 => 98
    | 127 => 121
    | 164 => 131
    | 5 => 5
    | 80 => 101
    | n => n
  g := fun x => x
theorem lays : Lays.n156 Tryz.prog ren where
  mixed := by kernel_rfl
  f156 := by kernel_rfl
  f165 := by kernel_rfl
  f166 := by kernel_rfl
  f169 := by kernel_rfl
  f240 := by kernel_rfl
  f241 := by kernel_rfl
  f276 := by kernel_rfl
  f277 := by kernel_rfl
  t0 := Tryz.underlying0
  a0 := Tryz.isAgg0
  z0 := Tryz.sizeOf0
  v0 := Tryz.zeroValue0
  t3 := Tryz.underlying3
  a3 := Tryz.isAgg3
  z3 := Tryz.sizeOf3
  v3 := Tryz.zeroValue3
  t4 := Tryz.underlying4
  a4 := Tryz.isAgg4
  z4 := Tryz.sizeOf4
  v4 := Tryz.zeroValue4
  t9 := Tryz.underlying9
  a9 := Tryz.isAgg9
  z9 := Tryz.sizeOf9
  v9 := Tryz.zeroValue9
  t20 := Tryz.underlying20
  a20 := Tryz.isAgg20
  z20 := Tryz.sizeOf20
  v20 := Tryz.zeroValue20
  t31 := Tryz.underlying84
  a31 := Tryz.isAgg84
  z31 := Tryz.sizeOf84
  v31 := Tryz.zeroValue84
  t37 := Tryz.underlying94
  a37 := Tryz.isAgg94
  z37 := Tryz.sizeOf94
  v37 := Tryz.zeroValue94
  t70 := Tryz.underlying93
  a70 := Tryz.isAgg93
  z70 := Tryz.sizeOf93
  v70 := Tryz.zeroValue93
  t72 := Tryz.underlying96
  a72 := Tryz.isAgg96
  z72 := Tryz.sizeOf96
  v72 := Tryz.zeroValue96
  t75 := Tryz.underlying98
  a75 := Tryz.isAgg98
  z75 := Tryz.sizeOf98
  v75 := Tryz.zeroValue98
  t76 := Tryz.underlying99
  a76 := Tryz.isAgg99
  z76 := Tryz.sizeOf99
  v76 := Tryz.zeroValue99
  t127 := Tryz.underlying121
  a127 := Tryz.isAgg121
  z127 := Tryz.sizeOf121
  v127 := Tryz.zeroValue121
  t164 := Tryz.underlying131
  a164 := Tryz.isAgg131
  z164 := Tryz.sizeOf131
  v164 := Tryz.zeroValue131
theorem extra : Builder.Extra Tryz.prog ren where
  sizeBuilder := by kernel_rfl
  liesBuilder := by kernel_rfl
  t5 := Tryz.underlying5
  a5 := Tryz.isAgg5
  z5 := Tryz.sizeOf5
  v5 := Tryz.zeroValue5
  infoByte := by kernel_rfl
  cellsByte := by kernel_rfl
  sizeByte := by kernel_rfl
  neB5 := by decide
end Go.Proofs.Sz
end
/- part SzAwake -/
section
namespace Go.Proofs.Sz
open Go Go.Ax Go.Proofs Go.RowKit
theorem namesA : namesOk Tryz.prog = true := by kernel_rfl
theorem mixedA : Tryz.prog.follows .mixedOrders = true := by kernel_rfl
theorem known : KnownOK Tryz.prog (joinX 77) := joinX_ok lays extra ⟨_, _, lays.f156, by kernel_rfl, rfl⟩
theorem awake_run : outsAre [.bool true] ((iter Tryz.prog (tabOf Tryz.prog) (joinX 77) 60).call 16 [] start0) = true := by kernel_rfl
/-- **awake comes to true, whatever the world.** -/
theorem awake_calls (w : World) : Calls Tryz.prog 16 #[] w fun e w' => e = .returned (.bool true) ∧ Below w.heap.size w w' :=
  calls_closed namesA mixedA known 60 16 [] rfl (.bool true) awake_run w
end Go.Proofs.Sz
end
/- part Zl -/
section
namespace Go.Proofs.Sz
open Go Go.Ax Go.Proofs Go.RowKit
theorem awake_call (S : St) : CallW PP 16 [] S (fun v _ => v = .bool true) := by
  refine ⟨.bool true, { S with mono := false }, ⟨⟨Tryz.f16, _, Tryz.func16, by kernel_rfl, rfl⟩, ?_⟩, rfl⟩
  intro w0 E w args' n R hS hv hR
  cases hv
  refine callsIn_wide.2 ?_
  refine (awake_calls w).mono ?_
  rintro e w' ⟨rfl, hb⟩
  have hS0 : SR w0 E { S with mono := false } w := ⟨hS.len, hS.obj, hS.hole, hS.dom, hS.inj, hS.rng, hS.below, hS.new, fun h => by cases h⟩
  exact hR (.bool true, some { S with mono := false }) (by simp) E _ w' (.refl E) (hS0.after hb (fun h => by cases h)) (.sc rfl) ⟨Nat.le_refl _, Nat.le_refl _, fun _ _ _ => rfl⟩ hb.size
/-- a row of numbers of a call's own, that may be written -/
def Wrow (S : St) (lo : Nat) (v : Value) : Prop := v = .slice none 0 0 ∨ ∃ b n c xs g, v = .slice (some ⟨b, 0, none⟩) n c ∧ lo ≤ b ∧ S.get b = some (.cells (iv xs) 3 g) ∧ xs.length = n ∧ n < 1000
theorem Wrow.len {S : St} {lo : Nat} {v : Value} (h : Wrow S lo v) : ∃ n : Nat, n < 1000 ∧ lenOpA TT S 26 v = some (.int .i64 n) := by
  rcases h with rfl | ⟨b, n, c, xs, g, rfl, _, _, _, h⟩
  · exact ⟨0, by omega, by simp [lenOpA, und26]⟩
  · exact ⟨n, h, by simp [lenOpA, und26]⟩
theorem Wrow.ofMine {S : St} {lo lo' : Nat} {v : Value} {xs : List Int} {n : Nat} (h : Mine S 3 1 lo' v (iv xs) n) (hl : lo ≤ lo') (hn : n < 1000) : Wrow S lo v := by
  rcases h with ⟨rfl, _⟩ | ⟨b, rfl, h1, h2, h3⟩
  · exact .inl rfl
  · exact .inr ⟨b, n, _, xs, _, rfl, by omega, h2, by rw [iv_len] at h3; omega, hn⟩
theorem Wrow.extd {S S' : St} {lo : Nat} {v : Value} (h : Wrow S lo v) (hE : Ext S S') : Wrow S' lo v := by
  rcases h with rfl | ⟨b, n, c, xs, g, rfl, h1, h2, h3⟩
  · exact .inl rfl
  · exact .inr ⟨b, n, c, xs, g, rfl, h1, hE.get h2, h3⟩
/-- a number is written to a row of one's own: what else is such a row stays one -/
theorem Wrow.store {S : St} (hok : S.ok) {lo b n c : Nat} (h : Wrow S lo (.slice (some ⟨b, 0, none⟩) n c)) {j : Nat} (hj : j < n) (x : Int) :
    ∃ S', storeA TT S 3 (.int .i64 x) (.pointer (some ⟨b, j, none⟩)) = some S' ∧ S'.ok ∧ S'.n = S.n ∧ S'.mono = S.mono ∧ lo ≤ b ∧ (∀ k, k ≠ b → S'.get k = S.get k) ∧ ∀ v, Wrow S lo v → Wrow S' lo v := by
  rcases h with h | ⟨b', n', c', xs, g, h, h1, h2, h3, h4⟩
  · cases h
  · cases h
    have hl := lt_of_get h2
    have s1 := store_one (T := TT) (v := .int .i64 x) (o := j) info3 h2 rfl rfl (by rw [iv_len]; omega)
    have hset : (iv xs).set j (.int .i64 x) = iv (xs.set j x) := by simp [iv, List.map_set]
    rw [hset] at s1
    refine ⟨_, s1, by rw [ok_set_iff]; exact hok, rfl, rfl, h1, fun k hk => get_set_ne _ hl hk, ?_⟩
    intro v hv
    rcases hv with rfl | ⟨b2, n2, c2, ys, g2, rfl, q1, q2, q3, q4⟩
    · exact .inl rfl
    · by_cases e : b2 = b
      · subst e
        rw [h2] at q2
        simp only [Option.some.injEq, AObj.cells.injEq] at q2
        have hll := congrArg List.length q2.1
        rw [iv_len, iv_len] at hll
        exact .inr ⟨b2, n2, c2, xs.set j x, g, rfl, q1, get_set_same _ hok hl rfl, by rw [List.length_set]; omega, q4⟩
      · exact .inr ⟨b2, n2, c2, ys, g2, rfl, q1, by rw [get_set_ne _ hl e]; exact q2, q3, q4⟩
theorem Wrow.shape {S : St} {lo : Nat} {v : Value} (h : Wrow S lo v) (x : Int) : ∃ nn : Nat, nn < 1000 ∧ (∀ S, lenOpA TT S 26 v = some (.int .i64 nn)) ∧ ∀ S', S'.ok → Wrow S' lo v → ∀ j, j < nn →
    ∃ p S'', indexAddrA TT 26 (.int .i64 j) v = some p ∧ storeA TT S' 3 (.int .i64 x) p = some S'' ∧ S''.ok ∧ S''.n = S'.n ∧ S''.mono = S'.mono ∧ (∀ k, k < lo → S''.get k = S'.get k) ∧ (∀ k cs g, S'.get k = some (.cells cs 26 g) → S''.get k = some (.cells cs 26 g)) ∧ ∀ u, Wrow S' lo u → Wrow S'' lo u := by
  rcases h with rfl | ⟨b, n, c, xs, g, rfl, _, _, _, hn⟩
  · exact ⟨0, by omega, fun S => by simp [lenOpA, und26], fun S' _ _ j hj => by omega⟩
  · refine ⟨n, hn, fun S => by simp [lenOpA, und26], fun S' hok h j hj => ?_⟩
    obtain ⟨S'', s1, s2, s3, s4, s5, s6, s7⟩ := h.store hok hj x
    refine ⟨_, S'', arr_index und26 info3 rfl hj, s1, s2, s3, s4, fun k hk => s6 k (by omega), fun k cs g hk => ?_, s7⟩
    rw [s6 k ?_, hk]
    rintro rfl
    rcases h with h | ⟨b', n', c', ys, g', h, _, h2, _⟩
    · cases h
    · cases h
      rw [hk] at h2
      simp at h2
theorem Tabl.extd {S S' : St} {lo n : Nat} {v : Value} (h : Tabl S lo n v) (hE : Ext S S') : Tabl S' lo n v := by
  rcases h with h | ⟨ba, bs, M, rfl, h1, h2, h3⟩
  · exact .inl h
  · exact .inr ⟨ba, bs, M, rfl, hE.get h1, h2, h3.keep fun i hi => hE.same _ (lt_of_get (h3.get i hi))⟩
theorem Tabl.mono {S : St} {lo lo' n : Nat} {v : Value} (h : Tabl S lo n v) (hl : lo' ≤ lo) : Tabl S lo' n v := by
  rcases h with h | ⟨ba, bs, M, rfl, h1, h2, h3⟩
  · exact .inl h
  · exact .inr ⟨ba, bs, M, rfl, h1, h2, ⟨fun i hi => Nat.le_trans hl (h3.lo i hi), h3.get, h3.nodup⟩⟩
theorem fill_two {x y z : Value} (hz : z.cells = #[z]) (hx : x.cells = #[x]) (hy : y.cells = #[y]) : Instr.fill (fun j => some (j * 1, 1)) (zeroRow z (2 * 1)) [(0, x), (1, y)] = some #[x, y] := by
  have h1 : zeroRow z (2 * 1) = #[z, z] := by
    apply Array.ext'
    rw [zeroRow_one hz]
    rfl
  rw [h1]
  simp [Instr.fill, hx, hy]
theorem bs_two {S : St} {ty e : TypeId} {z x y : Value} {by' : Nat} (hu : TT.und ty = some (.slice e)) (he : TT.info e = some ⟨z, 1, by'⟩) (hz : z.cells = #[z]) (hp : plain1 z = true) (hx : x.cells = #[x]) (hy : y.cells = #[y]) :
    buildSliceA TT S ty 2 [(0, x), (1, y)] = some (.slice (some ⟨S.n, 0, none⟩) 2 2, S.push (.cells [x, y] e 0)) := by
  simp only [buildSliceA, hu, he, fill_two hz hx hy]
  rw [if_pos ⟨by rw [zeroRow_one hz]; simp [plains1, hp], by omega⟩, if_pos (by unfold BIG; omega)]
/-- the two rows and the table's -/
theorem all_rows {S : St} (hok : S.ok) {n lo : Nat} {x y a : Value} (hx : x.oneCell' = true ∧ x.cells = #[x]) (hy : y.oneCell' = true ∧ y.cells = #[y]) (hn : n ≤ 12) (hn0 : 0 < n) (ha : Tabl S lo n a) (hwx : Wrow S lo x) (hwy : Wrow S lo y) :
    ∃ ba m c g rvs S', appendOpA TT (S.push (.cells [x, y] 26 0)) 22 22 (.slice (some ⟨S.n, 0, none⟩) 2 2) a = some (.slice (some ⟨ba, 0, none⟩) m c, S') ∧ S'.get ba = some (.cells rvs 26 g) ∧ rvs.length = m ∧ m < 1000 ∧ Ext S S' ∧ ∀ rv ∈ rvs, Wrow S' lo rv := by
  have hE1 : Ext S (S.push (.cells [x, y] 26 0)) := (Ext.refl hok).push _
  have hg : (S.push (.cells [x, y] 26 0)).get S.n = some (.cells [x, y] 26 0) := get_push_new _ rfl
  rcases ha with rfl | ⟨bt, bs, M, rfl, h1, h2, h3⟩
  · refine ⟨S.n, 2, 2, 0, [x, y], (S.push (.cells [x, y] 26 0)).set S.n (.cells [x, y] 26 0), ?_, get_set_same _ hE1.ok (by rw [push_n]; omega) rfl, rfl, by omega, hE1.set _ (Nat.le_refl _) (by rw [push_n]; omega), ?_⟩
    · unfold appendOpA
      simp only [und22, und26, info26, intT, lenA, Bool.false_eq_true, if_false]
      unfold srcA appendA
      simp [hg, splice, ones, BIG, Value.cells]
    · have hE2 : Ext S ((S.push (.cells [x, y] 26 0)).set S.n (.cells [x, y] 26 0)) := hE1.set _ (Nat.le_refl _) (by rw [push_n]; omega)
      intro rv hrv
      simp only [List.mem_cons, List.not_mem_nil, or_false] at hrv
      rcases hrv with rfl | rfl
      · exact hwx.extd hE2
      · exact hwy.extd hE2
  · have hsl : Sl (S.push (.cells [x, y] 26 0)) 1 (.slice (some ⟨bt, 0, none⟩) n n) (bs.map (rowv n)) n := by
      refine Sl.of_cells (hE1.get h1) (by rw [List.length_map, h2, Nat.mul_one]) (by unfold BIG; omega) (Nat.le_refl _)
    have hgo : growOk ⟨.slice none 0 0, 1, 24⟩ (2 + n) = true := grow_ok (by simp only; omega) (by omega)
    have hones : ones (bs.map (rowv n)) = true := by
      unfold ones
      rw [List.all_eq_true]
      intro v hv
      rw [List.mem_map] at hv
      obtain ⟨b, _, rfl⟩ := hv
      rfl
    refine ⟨S.n + 1, 2 + n, BIG, 1, [x, y] ++ bs.map (rowv n), (S.push (.cells [x, y] 26 0)).push (.cells ([x, y] ++ bs.map (rowv n)) 26 1), ?_, get_push_new _ rfl, by simp [h2]; omega, by omega, hE1.push _, ?_⟩
    · unfold appendOpA
      simp only [und22, und26, info26, intT, hsl.lenA, hsl.src, Bool.false_eq_true, if_false]
      rw [if_pos ⟨by decide, by decide⟩, if_pos ⟨hones, by rw [List.length_map, h2, Nat.mul_one]⟩]
      unfold appendA
      simp only [hg]
      rw [if_pos (by simp), if_pos (by unfold BIG; omega), if_neg (by omega), if_pos hgo]
      simp [push_n]
    · have hE2 : Ext S ((S.push (.cells [x, y] 26 0)).push (.cells ([x, y] ++ bs.map (rowv n)) 26 1)) := hE1.push _
      intro rv hrv
      rw [List.mem_append] at hrv
      rcases hrv with hrv | hrv
      · simp only [List.mem_cons, List.not_mem_nil, or_false] at hrv
        rcases hrv with rfl | rfl
        · exact hwx.extd hE2
        · exact hwy.extd hE2
      · rw [List.mem_map] at hrv
        obtain ⟨b, hb, rfl⟩ := hrv
        obtain ⟨i, hi, rfl⟩ := List.getElem_of_mem hb
        exact .inr ⟨bs[i], n, n, mrow n (M i), 0, rfl, h3.lo i hi, hE2.get (h3.get i hi), mrow_len _ _, by omega⟩
end Go.Proofs.Sz
end
/- part Zkm -/
section
namespace Go.Proofs.Sz
open Go Go.Ax Go.Proofs Go.RowKit
theorem fn5 : TT.fn 5 = some Tryz.f5 := by kernel_rfl
theorem und41 : TT.und 41 = some (.array 2 3) := by kernel_rfl
theorem info41 : TT.info 41 = some ⟨.agg #[.int .i64 0, .int .i64 0], 2, 16⟩ := by kernel_rfl
theorem pair_at {b : Nat} {i : Nat} (hi : i < 2) : indexAddrA TT 41 (.int .i64 i) (.pointer (some ⟨b, 0, none⟩)) = some (.pointer (some ⟨b, i, none⟩)) := by
  simp only [indexAddrA, und41, info3]
  rw [if_pos (by omega)]
  simp
set_option maxHeartbeats 8000000 in
/-- ScoresPlayed returns true -/
theorem played_call {S : St} (hok : S.ok) {vl : Value} {ls : List (List Int)} (hx : Mat S vl ls) (n0 n1 : Int) :
    CallW PP 5 [vl, .agg #[.int .i64 n0, .int .i64 n1]] S (fun v _ => v = .bool true) := by
  have hE0 : Ext S (S.push (.cells [.int .i64 n0, .int .i64 n1] 41 0)) := (Ext.refl hok).push _
  have hg0 : (S.push (.cells [.int .i64 n0, .int .i64 n1] 41 0)).get S.n = some (.cells [.int .i64 n0, .int .i64 n1] 41 0) := get_push_new _ rfl
  have r1 := load_one (o := 0) und3 info3 rfl hg0
  simp only [List.getElem?_cons_zero] at r1
  have p0 := pair_at (b := S.n) (i := 0) (by omega)
  have p1 := pair_at (b := S.n) (i := 1) (by omega)
  rw [Int.ofNat_zero] at p0
  have p1' : indexAddrA TT 41 (.int .i64 1) (.pointer (some ⟨S.n, 0, none⟩)) = some (.pointer (some ⟨S.n, 1, none⟩)) := p1
  refine CallW_of hTT fn5 rfl (by simp [Tryz.f5]) ?_
  unfold Tryz.f5
  repeat (first | with_reducible (first | refine W_seq ?_ | refine W_block ?_ | refine W_scope ?_ | refine W_regionV hTT ?_ | refine W_condV ?_ | refine W_ret ?_ | refine W_exit ?_ | refine W_skip ?_ | refine W_label ?_ | refine W_drawV hTT (by kernel_rfl) ?_) | simp only [H0, J86, J87, und3, und4, und22, und26, und29, und45, und64, info3, info4, info22, info26, info29, info45, info64, info50, und50, und41, info41, aggT, gv, dstAt, aop, evalsA, partsA, evalO, updO, ofArgs, binV, intBin, unV, mmV, builtinA, Nat.reduceLT, Nat.reduceEqDiff, Nat.reduceAdd, Nat.reduceSub, Nat.reduceMul, ↓reduceIte, reduceCtorEq, boxA, Value.cells, p0, r1])
  refine VCall_intro (mod_call _ n0 (n := 20) (by omega) (by omega)) ?_
  rintro v _ ⟨⟨r, hr, rfl⟩, rfl⟩
  obtain ⟨N, hN⟩ : ∃ N : Nat, N = r + 1 := ⟨_, rfl⟩
  have hw : IntKind.i64.wrap (1 + (r : Int)) = N := by rw [wrap_id (by omega) (by omega)]; omega
  repeat (first | with_reducible (first | refine W_seq ?_ | refine W_block ?_ | refine W_scope ?_ | refine W_regionV hTT ?_ | refine W_condV ?_ | refine W_ret ?_ | refine W_exit ?_ | refine W_skip ?_ | refine W_label ?_ | refine W_drawV hTT (by kernel_rfl) ?_) | simp only [H0, J86, J87, und3, und4, und22, und26, und29, und45, und64, info3, info4, info22, info26, info29, info45, info64, info50, und50, und41, info41, aggT, gv, dstAt, aop, evalsA, partsA, evalO, updO, ofArgs, binV, intBin, unV, mmV, builtinA, Nat.reduceLT, Nat.reduceEqDiff, Nat.reduceAdd, Nat.reduceSub, Nat.reduceMul, ↓reduceIte, reduceCtorEq, hw])
  refine VCall_intro (contest_call hE0.ok (hx.extd hE0) (n := N) (by omega)) ?_
  rintro vc S1 ⟨⟨M, hC, hM1⟩, hpc, hE1⟩
  have hmr : ∀ r ∈ mrows N N M, r.length < 31 ∧ ∀ x ∈ r, 0 ≤ x ∧ x < 1000 := by
    intro r hr
    obtain ⟨i, hi, rfl⟩ := List.getElem_of_mem hr
    rw [mrows_get, mrow_len]
    rw [mrows_len] at hi
    exact ⟨by omega, hC.rowB hi⟩
  repeat (first | with_reducible (first | refine W_seq ?_ | refine W_block ?_ | refine W_scope ?_ | refine W_regionV hTT ?_ | refine W_condV ?_ | refine W_ret ?_ | refine W_exit ?_ | refine W_skip ?_ | refine W_label ?_ | refine W_drawV hTT (by kernel_rfl) ?_) | simp only [H0, J86, J87, und3, und4, und22, und26, und29, und45, und64, info3, info4, info22, info26, info29, info45, info64, info50, und50, und41, info41, aggT, gv, dstAt, aop, evalsA, partsA, evalO, updO, ofArgs, binV, intBin, unV, mmV, builtinA, Nat.reduceLT, Nat.reduceEqDiff, Nat.reduceAdd, Nat.reduceSub, Nat.reduceMul, ↓reduceIte, reduceCtorEq])
  refine VCall_intro (scores_call hE1.ok hM1 (by rw [mrows_len]; omega) hmr) ?_
  rintro vs S2 ⟨hs2, hE2⟩
  rw [mrows_len, rowsums] at hs2
  obtain ⟨xs, hxs⟩ : ∃ xs : List Int, xs = (List.range N).map (sc N M) := ⟨_, rfl⟩
  rw [← hxs] at hs2
  have hxl : xs.length = N := by rw [hxs]; simp
  have hM2 := hM1.extd hE2
  have hs2l := hs2.sl
  rcases hs2 with ⟨_, _, h0⟩ | ⟨bs0, rfl, hs1, hs3, hs5⟩
  · omega
  have hC' : IsC xs.length M := by rw [hxl]; exact hC
  have hbuild := buildX_call hE2.ok (b0 := bs0) (c0 := BIG) (xs := xs) hC' (by rw [hxl]; exact hxs) (by rw [hxl]; exact hs2l) (by omega) (by omega)
  rw [hxl] at hbuild
  repeat (first | with_reducible (first | refine W_seq ?_ | refine W_block ?_ | refine W_scope ?_ | refine W_regionV hTT ?_ | refine W_condV ?_ | refine W_ret ?_ | refine W_exit ?_ | refine W_skip ?_ | refine W_label ?_ | refine W_drawV hTT (by kernel_rfl) ?_) | simp only [H0, J86, J87, und3, und4, und22, und26, und29, und45, und64, info3, info4, info22, info26, info29, info45, info64, info50, und50, und41, info41, aggT, gv, dstAt, aop, evalsA, partsA, evalO, updO, ofArgs, binV, intBin, unV, mmV, builtinA, Nat.reduceLT, Nat.reduceEqDiff, Nat.reduceAdd, Nat.reduceSub, Nat.reduceMul, ↓reduceIte, reduceCtorEq])
  refine VCall_intro hbuild ?_
  rintro v S3 ⟨a, D, rfl, hD, hpD, hCD, hscD, hE3⟩
  have hM3 := hM2.extd hE3
  repeat (first | with_reducible (first | refine W_seq ?_ | refine W_block ?_ | refine W_scope ?_ | refine W_regionV hTT ?_ | refine W_condV ?_ | refine W_ret ?_ | refine W_exit ?_ | refine W_skip ?_ | refine W_label ?_ | refine W_drawV hTT (by kernel_rfl) ?_) | simp only [H0, J86, J87, und3, und4, und22, und26, und29, und45, und64, info3, info4, info22, info26, info29, info45, info64, info50, und50, und41, info41, aggT, gv, dstAt, aop, evalsA, partsA, evalO, updO, ofArgs, binV, intBin, unV, mmV, builtinA, Nat.reduceLT, Nat.reduceEqDiff, Nat.reduceAdd, Nat.reduceSub, Nat.reduceMul, ↓reduceIte, reduceCtorEq, extractA])
  refine VCall_intro (way_call hE3.ok hM3 hpc (by omega) hC) ?_
  rintro v S4 ⟨uw, rfl, hW4, hE4⟩
  have hM4 := hM3.extd hE4
  repeat (first | with_reducible (first | refine W_seq ?_ | refine W_block ?_ | refine W_scope ?_ | refine W_regionV hTT ?_ | refine W_condV ?_ | refine W_ret ?_ | refine W_exit ?_ | refine W_skip ?_ | refine W_label ?_ | refine W_drawV hTT (by kernel_rfl) ?_) | simp only [H0, J86, J87, und3, und4, und22, und26, und29, und45, und64, info3, info4, info22, info26, info29, info45, info64, info50, und50, und41, info41, aggT, gv, dstAt, aop, evalsA, partsA, evalO, updO, ofArgs, binV, intBin, unV, mmV, builtinA, Nat.reduceLT, Nat.reduceEqDiff, Nat.reduceAdd, Nat.reduceSub, Nat.reduceMul, ↓reduceIte, reduceCtorEq, extractA])
  refine VCall_intro (round_call hE4.ok hM4 hpc (by omega) hC) ?_
  rintro v S5 ⟨hE5, hround⟩
  have hE35 := hE4.trans hE5
  have hs5l := (hs2l.extd hE3).extd hE35
  have hs5' : Sl S5 1 (.slice (some ⟨bs0, 0, none⟩) N BIG) (iv xs) xs.length := by rw [hxl]; exact hs5l
  have hD5 := hD.extd hE35
  have hM5 := hM4.extd hE5
  have hW5 : Mine S5 3 1 S3.n uw (iv (wayL M N)) N := hW4.same fun b hb => hE5.same b (hW4.base hb).2
  have hwp := wayN_perm M N
  have hwl : (wayN M N).length = N := by rw [hwp.length_eq, List.length_range]
  have hW5' : Sl S5 1 uw (iv (nl (wayN M N))) (wayN M N).length := by rw [← wayL_nl, hwl]; exact hW5.sl
  have hxsD : xs = (List.range N).map (sc N D) := by
    rw [hxs]
    exact List.map_congr_left fun i hi => (hscD i (List.mem_range.1 hi)).symm
  have hlast : ∃ (u l : Value) (ku kl : Nat), v = .tuple #[u, l, .int .i64 0] ∧ (∀ S, lenOpA TT S 26 u = some (.int .i64 ku)) ∧ (∀ S, lenOpA TT S 26 l = some (.int .i64 kl)) ∧ (N = 1 ∨ (decide ((ku : Int) > 0) != decide ((kl : Int) > 0)) = true) := by
    have hnil : ∀ S, lenOpA TT S 26 (.slice none 0 0) = some (.int .i64 (0 : Nat)) := fun S => by simp [lenOpA, und26]
    rcases hround with ⟨l, k, at', rfl, hk0, hkn, _, _, hMl⟩ | ⟨hn2, rfl⟩ | ⟨h3, u, b, q, rfl, hb, hR, hcy, hql, _⟩
    · refine ⟨_, l, 0, k, rfl, hnil, fun S => ?_, .inr ?_⟩
      · rcases hMl with ⟨rfl, _, h0⟩ | ⟨b, rfl, _⟩
        · omega
        · simp [lenOpA, und26]
      · rw [decide_eq_false (by omega), decide_eq_true (by omega)]
        rfl
    · exact ⟨_, _, 0, 0, rfl, hnil, hnil, .inl (by omega)⟩
    · refine ⟨u, _, N, 0, rfl, fun S => ?_, hnil, .inr ?_⟩
      · obtain ⟨⟨c, g, rfl, _⟩⟩ := hR
        rw [nl_len, hql]
        simp [lenOpA, und26]
      · rw [decide_eq_true (by omega), decide_eq_false (by omega)]
        rfl
  obtain ⟨u, l, ku, kl, rfl, hku, hkl, hend⟩ := hlast
  have e0 : (((0 : Int) != 0) = false) := rfl
  repeat (first | with_reducible (first | refine W_seq ?_ | refine W_block ?_ | refine W_scope ?_ | refine W_regionV hTT ?_ | refine W_condV ?_ | refine W_ret ?_ | refine W_exit ?_ | refine W_skip ?_ | refine W_label ?_ | refine W_drawV hTT (by kernel_rfl) ?_) | simp only [H0, J86, J87, und3, und4, und22, und26, und29, und45, und64, info3, info4, info22, info26, info29, info45, info64, info50, und50, und41, info41, aggT, gv, dstAt, aop, evalsA, partsA, evalO, updO, ofArgs, binV, intBin, unV, mmV, builtinA, Nat.reduceLT, Nat.reduceEqDiff, Nat.reduceAdd, Nat.reduceSub, Nat.reduceMul, ↓reduceIte, reduceCtorEq, extractA, e0])
  refine VCall_intro (contestAnswer_yes hE5.ok hs5' hD5 (by omega) hCD hxsD) ?_
  rintro v S6 ⟨rfl, hE6⟩
  have hs6 := hs5'.extd hE6
  have hM6 := hM5.extd hE6
  repeat (first | with_reducible (first | refine W_seq ?_ | refine W_block ?_ | refine W_scope ?_ | refine W_regionV hTT ?_ | refine W_condV ?_ | refine W_ret ?_ | refine W_exit ?_ | refine W_skip ?_ | refine W_label ?_ | refine W_drawV hTT (by kernel_rfl) ?_) | simp only [H0, J86, J87, und3, und4, und22, und26, und29, und45, und64, info3, info4, info22, info26, info29, info45, info64, info50, und50, und41, info41, aggT, gv, dstAt, aop, evalsA, partsA, evalO, updO, ofArgs, binV, intBin, unV, mmV, builtinA, Nat.reduceLT, Nat.reduceEqDiff, Nat.reduceAdd, Nat.reduceSub, Nat.reduceMul, ↓reduceIte, reduceCtorEq, extractA, e0])
  refine VCall_intro (checkContest_yes hs6 hM6 (by omega) hC hxs) ?_
  rintro v S7 ⟨rfl, rfl⟩
  repeat (first | with_reducible (first | refine W_seq ?_ | refine W_block ?_ | refine W_scope ?_ | refine W_regionV hTT ?_ | refine W_condV ?_ | refine W_ret ?_ | refine W_exit ?_ | refine W_skip ?_ | refine W_label ?_ | refine W_drawV hTT (by kernel_rfl) ?_) | simp only [H0, J86, J87, und3, und4, und22, und26, und29, und45, und64, info3, info4, info22, info26, info29, info45, info64, info50, und50, und41, info41, aggT, gv, dstAt, aop, evalsA, partsA, evalO, updO, ofArgs, binV, intBin, unV, mmV, builtinA, Nat.reduceLT, Nat.reduceEqDiff, Nat.reduceAdd, Nat.reduceSub, Nat.reduceMul, ↓reduceIte, reduceCtorEq, extractA, e0])
  refine VCall_intro (refWay_yes hE6.ok hM6 (hW5'.extd hE6) hwp (by omega) (wayN_win hC N (Nat.le_refl _))) ?_
  rintro v S8 ⟨rfl, hE8⟩
  have hE08 : Ext (S.push (.cells [.int .i64 n0, .int .i64 n1] 41 0)) S8 := ((((hE1.trans hE2).trans hE3).trans hE35).trans hE6).trans hE8
  have r2 := load_one (o := 1) und3 info3 rfl (hE08.get hg0)
  simp only [List.getElem?_cons_succ, List.getElem?_cons_zero] at r2
  repeat (first | with_reducible (first | refine W_seq ?_ | refine W_block ?_ | refine W_scope ?_ | refine W_regionV hTT ?_ | refine W_condV ?_ | refine W_ret ?_ | refine W_exit ?_ | refine W_skip ?_ | refine W_label ?_ | refine W_drawV hTT (by kernel_rfl) ?_) | simp only [H0, J86, J87, und3, und4, und22, und26, und29, und45, und64, info3, info4, info22, info26, info29, info45, info64, info50, und50, und41, info41, aggT, gv, dstAt, aop, evalsA, partsA, evalO, updO, ofArgs, binV, intBin, unV, mmV, builtinA, Nat.reduceLT, Nat.reduceEqDiff, Nat.reduceAdd, Nat.reduceSub, Nat.reduceMul, ↓reduceIte, reduceCtorEq, extractA, e0, p1', r2])
  refine VCall_intro (mod_call _ n1 (n := N) (by omega) (by omega)) ?_
  rintro v S9 ⟨⟨q, hq, rfl⟩, rfl⟩
  have hw2 : IntKind.i64.wrap (1 + (q : Int)) = ((q + 1 : Nat) : Int) := by rw [wrap_id (by omega) (by omega)]; omega
  have hs8 := hs6.extd hE8
  have e10 : (((10 : Int) != 10) = false) := rfl
  repeat (first | with_reducible (first | refine W_seq ?_ | refine W_block ?_ | refine W_scope ?_ | refine W_regionV hTT ?_ | refine W_condV ?_ | refine W_ret ?_ | refine W_exit ?_ | refine W_skip ?_ | refine W_label ?_ | refine W_drawV hTT (by kernel_rfl) ?_) | simp only [H0, J86, J87, und3, und4, und22, und26, und29, und45, und64, info3, info4, info22, info26, info29, info45, info64, info50, und50, und41, info41, aggT, gv, dstAt, aop, evalsA, partsA, evalO, updO, ofArgs, binV, intBin, unV, mmV, builtinA, Nat.reduceLT, Nat.reduceEqDiff, Nat.reduceAdd, Nat.reduceSub, Nat.reduceMul, ↓reduceIte, reduceCtorEq, hw2])
  refine VCall_intro (checkContest_no hE8.ok hs8 (n := N) (by omega) (by omega) hC hxs (.inr ⟨q + 1, by omega, by omega, rfl⟩)) ?_
  rintro v S10 ⟨rfl, hE10⟩
  repeat (first | with_reducible (first | refine W_seq ?_ | refine W_block ?_ | refine W_scope ?_ | refine W_regionV hTT ?_ | refine W_condV ?_ | refine W_ret ?_ | refine W_exit ?_ | refine W_skip ?_ | refine W_label ?_ | refine W_drawV hTT (by kernel_rfl) ?_) | simp only [H0, J86, J87, und3, und4, und22, und26, und29, und45, und64, info3, info4, info22, info26, info29, info45, info64, info50, und50, und41, info41, aggT, gv, dstAt, aop, evalsA, partsA, evalO, updO, ofArgs, binV, intBin, unV, mmV, builtinA, Nat.reduceLT, Nat.reduceEqDiff, Nat.reduceAdd, Nat.reduceSub, Nat.reduceMul, ↓reduceIte, reduceCtorEq, e10])
  refine VCall_intro (checkContest_no hE10.ok (hs8.extd hE10) (n := N) (by omega) (by omega) hC hxs (.inl rfl)) ?_
  rintro v S11 ⟨rfl, hE11⟩
  by_cases hn1 : N = 1
  · have hb : ((N : Int) == 1) = true := by rw [hn1]; rfl
    have hb' : ¬ ((N : Int) == 1) = false := by rw [hb]; decide
    repeat (first | with_reducible (first | refine W_seq ?_ | refine W_block ?_ | refine W_scope ?_ | refine W_regionV hTT ?_ | refine W_condV ?_ | refine W_ret ?_ | refine W_exit ?_ | refine W_skip ?_ | refine W_label ?_ | refine W_drawV hTT (by kernel_rfl) ?_) | simp only [H0, J86, J87, und3, und4, und22, und26, und29, und45, und64, info3, info4, info22, info26, info29, info45, info64, info50, und50, und41, info41, aggT, gv, dstAt, aop, evalsA, partsA, evalO, updO, ofArgs, binV, intBin, unV, mmV, builtinA, Nat.reduceLT, Nat.reduceEqDiff, Nat.reduceAdd, Nat.reduceSub, Nat.reduceMul, ↓reduceIte, reduceCtorEq, e10, hb, hb'])
    refine VCall_intro (awake_call _) ?_
    rintro v S12 rfl
    repeat (first | with_reducible (first | refine W_seq ?_ | refine W_block ?_ | refine W_scope ?_ | refine W_regionV hTT ?_ | refine W_condV ?_ | refine W_ret ?_ | refine W_exit ?_ | refine W_skip ?_ | refine W_label ?_ | refine W_drawV hTT (by kernel_rfl) ?_) | simp only [H0, J86, J87, und3, und4, und22, und26, und29, und45, und64, info3, info4, info22, info26, info29, info45, info64, info50, und50, und41, info41, aggT, gv, dstAt, aop, evalsA, partsA, evalO, updO, ofArgs, binV, intBin, unV, mmV, builtinA, Nat.reduceLT, Nat.reduceEqDiff, Nat.reduceAdd, Nat.reduceSub, Nat.reduceMul, ↓reduceIte, reduceCtorEq])
  · have hb : ((N : Int) == 1) = false := by rw [beq_eq_false_iff_ne]; omega
    have hb2 := hend.resolve_left hn1
    have hnb := neqB (decide ((ku : Int) > 0)) (decide ((kl : Int) > 0))
    rw [hb2] at hnb
    repeat (first | with_reducible (first | refine W_seq ?_ | refine W_block ?_ | refine W_scope ?_ | refine W_regionV hTT ?_ | refine W_condV ?_ | refine W_ret ?_ | refine W_exit ?_ | refine W_skip ?_ | refine W_label ?_ | refine W_drawV hTT (by kernel_rfl) ?_) | simp only [H0, J86, J87, und3, und4, und22, und26, und29, und45, und64, info3, info4, info22, info26, info29, info45, info64, info50, und50, und41, info41, aggT, gv, dstAt, aop, evalsA, partsA, evalO, updO, ofArgs, binV, intBin, unV, mmV, builtinA, Nat.reduceLT, Nat.reduceEqDiff, Nat.reduceAdd, Nat.reduceSub, Nat.reduceMul, ↓reduceIte, reduceCtorEq, e10, hb, extractA, hku, hkl, hnb])
    refine VCall_intro (awake_call _) ?_
    rintro v S12 rfl
    repeat (first | with_reducible (first | refine W_seq ?_ | refine W_block ?_ | refine W_scope ?_ | refine W_regionV hTT ?_ | refine W_condV ?_ | refine W_ret ?_ | refine W_exit ?_ | refine W_skip ?_ | refine W_label ?_ | refine W_drawV hTT (by kernel_rfl) ?_) | simp only [H0, J86, J87, und3, und4, und22, und26, und29, und45, und64, info3, info4, info22, info26, info29, info45, info64, info50, und50, und41, info41, aggT, gv, dstAt, aop, evalsA, partsA, evalO, updO, ofArgs, binV, intBin, unV, mmV, builtinA, Nat.reduceLT, Nat.reduceEqDiff, Nat.reduceAdd, Nat.reduceSub, Nat.reduceMul, ↓reduceIte, reduceCtorEq])
end Go.Proofs.Sz
end
