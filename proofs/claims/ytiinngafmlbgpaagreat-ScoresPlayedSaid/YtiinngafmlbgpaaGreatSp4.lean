/- A run on an abstract store, proved right for every world, and the functions of the law walked by it: part 5 of 7. -/
import Derived.Test.YtiinngafmlbgpaaGreatSp3
import Derived.Shelf.Sort.Plain
import Derived.Test.YtiinngafmlbgpaaGreatSp2
import Derived.KernelRfl
set_option linter.unusedSimpArgs false
set_option linter.unusedVariables false
/- part Zi -/
section
namespace Go.Proofs.Sz
open Go Go.Ax Go.Proofs Go.RowKit
/-- a number put in at a place -/
def insL (xs : List Int) (i : Nat) (x : Int) : List Int := xs.take i ++ [x] ++ xs.drop i
theorem insL_len {xs : List Int} {i : Nat} (h : i ≤ xs.length) (x : Int) : (insL xs i x).length = xs.length + 1 := by
  unfold insL
  simp
  omega
theorem ins_call {S : St} (hok : S.ok) {lo : Nat} {v : Value} {xs : List Int} (hM : Mine S 3 1 lo v (iv xs) xs.length) (hlo : lo ≤ S.n) {i : Nat} (hi : i ≤ xs.length) {vb : Nat} {x : Int} (hvb : S.get vb = some (.cells [.int .i64 x] 3 0)) (hn : xs.length < 1000) :
    CallW PP 34 [v, .int .i64 i, .slice (some ⟨vb, 0, none⟩) 1 1] S (fun r S' => Mine S' 3 1 lo r (iv (insL xs i x)) (xs.length + 1) ∧ But v S S') := by
  rcases hM with ⟨rfl, h1, h2⟩ | ⟨b, rfl, h1, h2, h3⟩
  · have hxs : xs = [] := List.length_eq_zero_iff.1 h2
    subst hxs
    have hi0 : i = 0 := by simpa using hi
    subst hi0
    refine ⟨_, _, ins_nil hvb, .inr ⟨S.n, rfl, hlo, get_push_new _ rfl, rfl⟩, ⟨by rw [ok_push_iff]; exact hok, by rw [push_n]; omega, fun j hj _ => get_push_ne _ (by omega), rfl⟩⟩
  · have hlt := lt_of_get h2
    refine ⟨_, _, ins_is h2 rfl hi hvb hn, .inr ⟨S.n, rfl, hlo, get_push_new _ rfl, ?_⟩, ⟨by rw [ok_push_iff, ok_set_iff]; exact hok, by rw [push_n, set_n]; omega, fun j hj hne => ?_, rfl⟩⟩
    · rw [iv_len]
      have := insL_len hi x
      unfold insL at this ⊢
      omega
    · rw [get_push_ne _ (by rw [set_n]; omega), get_set_ne _ hlt (fun e => hne (by rw [e]; rfl))]
/-- the way as far as the first players -/
def wayL (M : Nat → Nat → Int) : Nat → List Int
  | 0 => []
  | k + 1 => insL (wayL M k) (((wayL M k).findIdx? (fun u => M k u.toNat == 1)).getD (wayL M k).length) k
theorem way_at_le {p : Int → Bool} (l : List Int) : (l.findIdx? p).getD l.length ≤ l.length := by
  cases h : l.findIdx? p with
  | none => exact Nat.le_refl _
  | some i =>
    rw [List.findIdx?_eq_some_iff_getElem] at h
    exact Nat.le_of_lt h.1
theorem wayL_len (M : Nat → Nat → Int) (k : Nat) : (wayL M k).length = k := by
  induction k with
  | zero => rfl
  | succ k ih =>
    unfold wayL
    rw [insL_len (way_at_le _), ih]
theorem insL_perm (xs : List Int) (i : Nat) (x : Int) : (insL xs i x).Perm (xs ++ [x]) := by
  unfold insL
  have h := List.take_append_drop i xs
  have h1 : (xs.take i ++ [x] ++ xs.drop i).Perm (xs.take i ++ xs.drop i ++ [x]) := by
    rw [List.append_assoc, List.append_assoc]
    exact List.Perm.append_left _ List.perm_append_comm
  rw [h] at h1
  exact h1
theorem wayL_perm (M : Nat → Nat → Int) (k : Nat) : (wayL M k).Perm (upto k) := by
  induction k with
  | zero => exact .refl _
  | succ k ih =>
    unfold wayL
    rw [upto_succ]
    exact (insL_perm _ _ _).trans (ih.append_right _)
theorem fn12 : TT.fn 12 = some Tryz.f12 := by kernel_rfl
set_option maxHeartbeats 4000000 in
/-- Way, of a contest -/
theorem way_call {S : St} (hok : S.ok) {vl : Value} {n : Nat} {M : Nat → Nat → Int} (hx0 : Mat S vl (mrows n n M)) (hpl : Plain vl n) (hn : n < 31) (hC : IsC n M) :
    CallW PP 12 [vl] S (fun v S' => ∃ u, v = .tuple #[u, .int .i64 0] ∧ Mine S' 3 1 S.n u (iv (wayL M n)) n ∧ Ext S S') := by
  have hcp := hpl.cells
  have hE0 : Ext S (S.push (.cells [vl] 22 0)) := (Ext.refl hok).push _
  have hx := hx0.extd hE0
  have hla := hx.len (T := TT) und22
  rw [mrows_len] at hla
  have hl : (S.push (.cells [vl] 22 0)).get S.n = some (.cells [vl] 22 0) := get_push_new _ rfl
  have r1 := load_one (o := 0) und22 info22 rfl hl
  simp only [List.getElem?_cons_zero] at r1
  refine CallW_of hTT fn12 rfl (by simp [Tryz.f12]) ?_
  unfold Tryz.f12
  repeat (first | with_reducible (first | refine W_seq ?_ | refine W_block ?_ | refine W_scope ?_ | refine W_regionV hTT ?_ | refine W_condV ?_ | refine W_ret ?_ | refine W_exit ?_ | refine W_skip ?_ | refine W_label ?_ | refine W_drawV hTT (by kernel_rfl) ?_) | simp only [H0, J86, J87, und3, und4, und22, und26, und29, und45, und64, info3, info4, info22, info26, info29, info45, info64, info50, und50, aggT, gv, dstAt, aop, evalsA, partsA, evalO, updO, ofArgs, binV, intBin, unV, mmV, builtinA, Nat.reduceLT, Nat.reduceEqDiff, Nat.reduceAdd, Nat.reduceSub, Nat.reduceMul, ↓reduceIte, reduceCtorEq, boxA, hcp.1, r1])
  refine VCall_intro (isContest_yes hx hn hC) ?_
  rintro v S1 ⟨rfl, rfl⟩
  repeat (first | with_reducible (first | refine W_seq ?_ | refine W_scope ?_ | refine W_regionV hTT ?_ | refine W_condV ?_ | refine W_ret ?_ | refine W_exit ?_ | refine W_skip ?_ | refine W_label ?_ | refine W_drawV hTT (by kernel_rfl) ?_) | simp only [H0, J86, J87, und3, und4, und22, und26, und29, und45, und64, info3, info4, info22, info26, info29, info45, info64, info50, und50, aggT, gv, dstAt, aop, evalsA, partsA, evalO, updO, ofArgs, binV, intBin, unV, mmV, builtinA, Nat.reduceLT, Nat.reduceEqDiff, Nat.reduceAdd, Nat.reduceSub, Nat.reduceMul, ↓reduceIte, reduceCtorEq, r1, hla])
  refine W_block ?_
  refine W_loopI (fun m τ ds S' => Ext (S.push (.cells [vl] 22 0)) S' ∧ ds = [] ∧ ∃ (k : Nat) (v4 : Value), m = n - k ∧ k ≤ n ∧ τ 1 = .pointer (some ⟨S.n, 0, none⟩) ∧ τ 4 = v4 ∧ τ 11 = .int .i64 n ∧ τ 12 = .int .i64 k ∧ Mine S' 3 1 (S.n + 1) v4 (iv (wayL M k)) k) n ?_ ?_
  · refine ⟨Ext.refl hE0.ok, rfl, 0, .slice none 0 0, by simp, by simp, ?_, ?_, ?_, ?_, Mine.nil _ _ _ _⟩ <;> first | rfl | simp only [H0, J86, J87, und3, und4, und22, und26, und29, und45, und64, info3, info4, info22, info26, info29, info45, info64, info50, und50, aggT, gv, dstAt, aop, evalsA, partsA, evalO, updO, ofArgs, binV, intBin, unV, mmV, builtinA, Nat.reduceLT, Nat.reduceEqDiff, Nat.reduceAdd, Nat.reduceSub, Nat.reduceMul, ↓reduceIte, reduceCtorEq]
  · rintro m τ ds S' ⟨hE, rfl, k, v4, rfl, hk, t1, t4, t11, t12, hM⟩
    have hnn := hE.n
    rw [push_n] at hnn
    by_cases hlt : k < n
    · have e1 : decide ((k : Int) < n) = true := by simpa using hlt
      have hw := wrap_succ (k := k) (by omega)
      have s1 := store_one (T := TT) (S := S'.push (.cells [.int .i64 0] 3 0)) (b := S'.n) (o := 0) (v := .int .i64 k) info3 (get_push_new _ rfl) rfl rfl (by simp)
      simp only [List.set_cons_zero] at s1
      generalize hS2 : (S'.push (.cells [.int .i64 0] 3 0)).set S'.n (.cells [.int .i64 k] 3 0) = S2 at s1
      have hE2 : Ext (S.push (.cells [vl] 22 0)) S2 := by
        rw [← hS2]
        exact (hE.push _).set _ (by rw [push_n]; omega) (by rw [push_n]; omega)
      have n2 : S2.n = S'.n + 1 := by rw [← hS2, set_n, push_n]
      have g5 : S2.get S'.n = some (.cells [.int .i64 k] 3 0) := by
        rw [← hS2]
        exact get_set_same _ (by rw [ok_push_iff]; exact hE.ok) (by rw [push_n]; omega) rfl
      have hM2 : Mine S2 3 1 (S.n + 1) v4 (iv (wayL M k)) (wayL M k).length := by
        rw [wayL_len]
        refine hM.same fun b hb => ?_
        have := (hM.base hb).2
        rw [← hS2, get_set_ne _ (by rw [push_n]; omega) (by omega), get_push_ne _ (by omega)]
      have g1 := hE2.get hl
      have r3 := load_one (o := 0) und3 info3 rfl g5
      simp only [List.getElem?_cons_zero] at r3
      have hx2 := hx.extd hE2
      have hwl := wayL_len M k
      have hlv := hM2.sl.len (T := TT) und26
      have hidx : ∀ x ∈ wayL M k, CallW PP 33 ([.int .i64 x] ++ [.pointer (some ⟨S.n, 0, none⟩), .pointer (some ⟨S'.n, 0, none⟩)]) S2 (fun v S' => v = .bool ((fun u : Int => M k u.toNat == 1) x) ∧ S' = S2) := by
        intro x hx9
        obtain ⟨u, hu, rfl⟩ := upto_mem ((wayL_perm M k).mem_iff.1 hx9)
        exact beaten_call hx2 g1 g5 hlt (by omega)
      repeat (first | with_reducible (first | refine W_seq ?_ | refine W_block ?_ | refine W_scope ?_ | refine W_regionV hTT ?_ | refine W_condV ?_ | refine W_ret ?_ | refine W_exit ?_ | refine W_skip ?_ | refine W_label ?_ | refine W_drawV hTT (by kernel_rfl) ?_) | simp only [H0, J86, J87, und3, und4, und22, und26, und29, und45, und64, info3, info4, info22, info26, info29, info45, info64, info50, und50, aggT, gv, dstAt, aop, evalsA, partsA, evalO, updO, ofArgs, binV, intBin, unV, mmV, builtinA, Nat.reduceLT, Nat.reduceEqDiff, Nat.reduceAdd, Nat.reduceSub, Nat.reduceMul, ↓reduceIte, reduceCtorEq, t1, t4, t11, t12, e1, al3, s1, fnOk_func])
      refine VCall_intro (indexFunc_call hM2.sl (by omega) hidx) ?_
      rintro v S3 ⟨rfl, rfl⟩
      have b1 := bs_one (T := TT) (S := S3) (x := .int .i64 k) und26 info3 rfl rfl rfl
      have hEp : Ext (S.push (.cells [vl] 22 0)) (S3.push (.cells [.int .i64 k] 3 0)) := hE2.push _
      have hMp : Mine (S3.push (.cells [.int .i64 k] 3 0)) 3 1 (S.n + 1) v4 (iv (wayL M k)) (wayL M k).length := hM2.same fun b hb => get_push_ne _ (by have := (hM2.base hb).2; omega)
      have hat : (((wayL M k).findIdx? (fun u => M k u.toNat == 1)).getD (wayL M k).length) ≤ (wayL M k).length := way_at_le _
      have hins := ins_call hEp.ok hMp (by rw [push_n]; omega) hat (get_push_new (S := S3) (.cells [.int .i64 (k : Int)] 3 0) rfl) (by omega)
      -- what follows, whichever place it is
      have hnext : ∀ r S4, Mine S4 3 1 (S.n + 1) r (iv (insL (wayL M k) (((wayL M k).findIdx? (fun u => M k u.toNat == 1)).getD (wayL M k).length) k)) ((wayL M k).length + 1) → But v4 (S3.push (.cells [.int .i64 k] 3 0)) S4 → Mine S4 3 1 (S.n + 1) r (iv (wayL M (k + 1))) (k + 1) ∧ Ext (S.push (.cells [vl] 22 0)) S4 := by
        intro r S4 h1 h2
        rw [hwl] at h1
        exact ⟨by unfold wayL; rw [hwl]; exact h1, h2.ext hEp fun b hb => by rw [push_n]; exact (hMp.base hb).1⟩
      cases hf : (wayL M k).findIdx? (fun u => M k u.toNat == 1) with
      | none =>
        have hix : idx (fun u => M k u.toNat == 1) (wayL M k) = -1 := by unfold idx; rw [hf]
        have e2 : decide ((-1 : Int) < 0) = true := rfl
        rw [hf, Option.getD_none] at hins hnext
        rw [hix]
        repeat (first | with_reducible (first | refine W_seq ?_ | refine W_block ?_ | refine W_scope ?_ | refine W_regionV hTT ?_ | refine W_condV ?_ | refine W_ret ?_ | refine W_exit ?_ | refine W_skip ?_ | refine W_label ?_ | refine W_drawV hTT (by kernel_rfl) ?_) | simp only [H0, J86, J87, und3, und4, und22, und26, und29, und45, und64, info3, info4, info22, info26, info29, info45, info64, info50, und50, aggT, gv, dstAt, aop, evalsA, partsA, evalO, updO, ofArgs, binV, intBin, unV, mmV, builtinA, Nat.reduceLT, Nat.reduceEqDiff, Nat.reduceAdd, Nat.reduceSub, Nat.reduceMul, ↓reduceIte, reduceCtorEq, t1, t4, t11, t12, e2, hlv, r3, b1])
        refine VCall_intro hins ?_
        rintro r S4 ⟨h1, h2⟩
        obtain ⟨h3, h4⟩ := hnext r S4 h1 h2
        repeat (first | with_reducible (first | refine W_seq ?_ | refine W_block ?_ | refine W_scope ?_ | refine W_regionV hTT ?_ | refine W_condV ?_ | refine W_ret ?_ | refine W_exit ?_ | refine W_skip ?_ | refine W_label ?_ | refine W_drawV hTT (by kernel_rfl) ?_) | simp only [H0, J86, J87, und3, und4, und22, und26, und29, und45, und64, info3, info4, info22, info26, info29, info45, info64, info50, und50, aggT, gv, dstAt, aop, evalsA, partsA, evalO, updO, ofArgs, binV, intBin, unV, mmV, builtinA, Nat.reduceLT, Nat.reduceEqDiff, Nat.reduceAdd, Nat.reduceSub, Nat.reduceMul, ↓reduceIte, reduceCtorEq, t1, t4, t11, t12, hw])
        refine LoopQ_intro (n - (k + 1)) (by omega) ⟨h4, rfl, k + 1, r, rfl, by omega, by simp only [H0, J86, J87, und3, und4, und22, und26, und29, und45, und64, info3, info4, info22, info26, info29, info45, info64, info50, und50, aggT, gv, dstAt, aop, evalsA, partsA, evalO, updO, ofArgs, binV, intBin, unV, mmV, builtinA, Nat.reduceLT, Nat.reduceEqDiff, Nat.reduceAdd, Nat.reduceSub, Nat.reduceMul, ↓reduceIte, reduceCtorEq, t1], by simp only [H0, J86, J87, und3, und4, und22, und26, und29, und45, und64, info3, info4, info22, info26, info29, info45, info64, info50, und50, aggT, gv, dstAt, aop, evalsA, partsA, evalO, updO, ofArgs, binV, intBin, unV, mmV, builtinA, Nat.reduceLT, Nat.reduceEqDiff, Nat.reduceAdd, Nat.reduceSub, Nat.reduceMul, ↓reduceIte, reduceCtorEq], by simp only [H0, J86, J87, und3, und4, und22, und26, und29, und45, und64, info3, info4, info22, info26, info29, info45, info64, info50, und50, aggT, gv, dstAt, aop, evalsA, partsA, evalO, updO, ofArgs, binV, intBin, unV, mmV, builtinA, Nat.reduceLT, Nat.reduceEqDiff, Nat.reduceAdd, Nat.reduceSub, Nat.reduceMul, ↓reduceIte, reduceCtorEq, t11], by simp only [H0, J86, J87, und3, und4, und22, und26, und29, und45, und64, info3, info4, info22, info26, info29, info45, info64, info50, und50, aggT, gv, dstAt, aop, evalsA, partsA, evalO, updO, ofArgs, binV, intBin, unV, mmV, builtinA, Nat.reduceLT, Nat.reduceEqDiff, Nat.reduceAdd, Nat.reduceSub, Nat.reduceMul, ↓reduceIte, reduceCtorEq, t12, hw], h3⟩
      | some i =>
        have hix : idx (fun u => M k u.toNat == 1) (wayL M k) = i := by unfold idx; rw [hf]
        have e2 : decide ((i : Int) < 0) = false := by simp
        rw [hf, Option.getD_some] at hins hnext
        rw [hix]
        repeat (first | with_reducible (first | refine W_seq ?_ | refine W_block ?_ | refine W_scope ?_ | refine W_regionV hTT ?_ | refine W_condV ?_ | refine W_ret ?_ | refine W_exit ?_ | refine W_skip ?_ | refine W_label ?_ | refine W_drawV hTT (by kernel_rfl) ?_) | simp only [H0, J86, J87, und3, und4, und22, und26, und29, und45, und64, info3, info4, info22, info26, info29, info45, info64, info50, und50, aggT, gv, dstAt, aop, evalsA, partsA, evalO, updO, ofArgs, binV, intBin, unV, mmV, builtinA, Nat.reduceLT, Nat.reduceEqDiff, Nat.reduceAdd, Nat.reduceSub, Nat.reduceMul, ↓reduceIte, reduceCtorEq, t1, t4, t11, t12, e2, hlv, r3, b1])
        refine VCall_intro hins ?_
        rintro r S4 ⟨h1, h2⟩
        obtain ⟨h3, h4⟩ := hnext r S4 h1 h2
        repeat (first | with_reducible (first | refine W_seq ?_ | refine W_block ?_ | refine W_scope ?_ | refine W_regionV hTT ?_ | refine W_condV ?_ | refine W_ret ?_ | refine W_exit ?_ | refine W_skip ?_ | refine W_label ?_ | refine W_drawV hTT (by kernel_rfl) ?_) | simp only [H0, J86, J87, und3, und4, und22, und26, und29, und45, und64, info3, info4, info22, info26, info29, info45, info64, info50, und50, aggT, gv, dstAt, aop, evalsA, partsA, evalO, updO, ofArgs, binV, intBin, unV, mmV, builtinA, Nat.reduceLT, Nat.reduceEqDiff, Nat.reduceAdd, Nat.reduceSub, Nat.reduceMul, ↓reduceIte, reduceCtorEq, t1, t4, t11, t12, hw])
        refine LoopQ_intro (n - (k + 1)) (by omega) ⟨h4, rfl, k + 1, r, rfl, by omega, by simp only [H0, J86, J87, und3, und4, und22, und26, und29, und45, und64, info3, info4, info22, info26, info29, info45, info64, info50, und50, aggT, gv, dstAt, aop, evalsA, partsA, evalO, updO, ofArgs, binV, intBin, unV, mmV, builtinA, Nat.reduceLT, Nat.reduceEqDiff, Nat.reduceAdd, Nat.reduceSub, Nat.reduceMul, ↓reduceIte, reduceCtorEq, t1], by simp only [H0, J86, J87, und3, und4, und22, und26, und29, und45, und64, info3, info4, info22, info26, info29, info45, info64, info50, und50, aggT, gv, dstAt, aop, evalsA, partsA, evalO, updO, ofArgs, binV, intBin, unV, mmV, builtinA, Nat.reduceLT, Nat.reduceEqDiff, Nat.reduceAdd, Nat.reduceSub, Nat.reduceMul, ↓reduceIte, reduceCtorEq], by simp only [H0, J86, J87, und3, und4, und22, und26, und29, und45, und64, info3, info4, info22, info26, info29, info45, info64, info50, und50, aggT, gv, dstAt, aop, evalsA, partsA, evalO, updO, ofArgs, binV, intBin, unV, mmV, builtinA, Nat.reduceLT, Nat.reduceEqDiff, Nat.reduceAdd, Nat.reduceSub, Nat.reduceMul, ↓reduceIte, reduceCtorEq, t11], by simp only [H0, J86, J87, und3, und4, und22, und26, und29, und45, und64, info3, info4, info22, info26, info29, info45, info64, info50, und50, aggT, gv, dstAt, aop, evalsA, partsA, evalO, updO, ofArgs, binV, intBin, unV, mmV, builtinA, Nat.reduceLT, Nat.reduceEqDiff, Nat.reduceAdd, Nat.reduceSub, Nat.reduceMul, ↓reduceIte, reduceCtorEq, t12, hw], h3⟩
    · have e1 : decide ((k : Int) < n) = false := by simpa using hlt
      have hkk : k = n := by omega
      subst hkk
      repeat (first | with_reducible (first | refine W_seq ?_ | refine W_block ?_ | refine W_scope ?_ | refine W_regionV hTT ?_ | refine W_condV ?_ | refine W_ret ?_ | refine W_exit ?_ | refine W_skip ?_ | refine W_label ?_ | refine W_drawV hTT (by kernel_rfl) ?_) | simp only [H0, J86, J87, und3, und4, und22, und26, und29, und45, und64, info3, info4, info22, info26, info29, info45, info64, info50, und50, aggT, gv, dstAt, aop, evalsA, partsA, evalO, updO, ofArgs, binV, intBin, unV, mmV, builtinA, Nat.reduceLT, Nat.reduceEqDiff, Nat.reduceAdd, Nat.reduceSub, Nat.reduceMul, ↓reduceIte, reduceCtorEq, t1, t4, t11, t12, e1])
      exact ⟨v4, rfl, hM.mono (Nat.le_succ _), hE0.trans hE⟩
end Go.Proofs.Sz
end
/- part SzSort -/
section
/- The library's contract laid upon this program: the table of numbers and its facts. -/
namespace Go.Proofs.Sz
open Go Go.Ax Go.Proofs
def sren : Shelf.Ren where
  f := fun x => match x with
    | 189 => 69
    | 125 => 81
    | 257 => 80
    | 128 => 98
    | 129 => 99
    | 294 => 89
    | 295 => 90
    | 296 => 91
    | 297 => 92
    | 298 => 93
    | 299 => 94
    | 216 => 95
    | 300 => 96
    | 301 => 97
    | 328 => 112
    | 329 => 113
    | 330 => 114
    | 331 => 115
    | 332 => 116
    | 215 => 72
    | 343 => 124
    | n => n
  t := fun x => match x with
    | 28 => 26
    | 3 => 3
    | 46 => 45
    | 0 => 0
    | 51 => 112
    | 53 => 114
    | 4 => 4
    | 183 => 104
    | 182 => 103
    | 131 => 109
    | 5 => 5
    | 9 => 9
    | 218 => 122
    | 222 => 126
    | 228 => 134
    | 229 => 135
    | n => n
  g := fun x => x
theorem sortI : Lays.n189 Tryz.prog sren where
  mixed := by kernel_rfl
  f125 := by kernel_rfl
  f128 := by kernel_rfl
  f129 := by kernel_rfl
  f189 := by kernel_rfl
  f215 := by kernel_rfl
  f216 := by kernel_rfl
  f257 := by kernel_rfl
  f294 := by kernel_rfl
  f295 := by kernel_rfl
  f296 := by kernel_rfl
  f297 := by kernel_rfl
  f298 := by kernel_rfl
  f299 := by kernel_rfl
  f300 := by kernel_rfl
  f301 := by kernel_rfl
  f328 := by kernel_rfl
  f329 := by kernel_rfl
  f330 := by kernel_rfl
  f331 := by kernel_rfl
  f332 := by kernel_rfl
  f343 := by kernel_rfl
  t0 := Tryz.underlying0
  a0 := Tryz.isAgg0
  z0 := Tryz.sizeOf0
  v0 := Tryz.zeroValue0
  t3 := Tryz.underlying3
  a3 := Tryz.isAgg3
  z3 := Tryz.sizeOf3
  v3 := Tryz.zeroValue3
  t4 := Tryz.underlying4
  a4 := Tryz.isAgg4
  z4 := Tryz.sizeOf4
  v4 := Tryz.zeroValue4
  t5 := Tryz.underlying5
  a5 := Tryz.isAgg5
  z5 := Tryz.sizeOf5
  v5 := Tryz.zeroValue5
  t9 := Tryz.underlying9
  a9 := Tryz.isAgg9
  z9 := Tryz.sizeOf9
  v9 := Tryz.zeroValue9
  t28 := Tryz.underlying26
  a28 := Tryz.isAgg26
  z28 := Tryz.sizeOf26
  v28 := Tryz.zeroValue26
  t46 := Tryz.underlying45
  a46 := Tryz.isAgg45
  z46 := Tryz.sizeOf45
  v46 := Tryz.zeroValue45
  t51 := Tryz.underlying112
  a51 := Tryz.isAgg112
  z51 := Tryz.sizeOf112
  v51 := Tryz.zeroValue112
  t53 := Tryz.underlying114
  a53 := Tryz.isAgg114
  z53 := Tryz.sizeOf114
  v53 := Tryz.zeroValue114
  t131 := Tryz.underlying109
  a131 := Tryz.isAgg109
  z131 := Tryz.sizeOf109
  v131 := Tryz.zeroValue109
  t182 := Tryz.underlying103
  a182 := Tryz.isAgg103
  z182 := Tryz.sizeOf103
  v182 := Tryz.zeroValue103
  t183 := Tryz.underlying104
  a183 := Tryz.isAgg104
  z183 := Tryz.sizeOf104
  v183 := Tryz.zeroValue104
  t218 := Tryz.underlying122
  a218 := Tryz.isAgg122
  z218 := Tryz.sizeOf122
  v218 := Tryz.zeroValue122
  t222 := Tryz.underlying126
  a222 := Tryz.isAgg126
  z222 := Tryz.sizeOf126
  v222 := Tryz.zeroValue126
  t228 := Tryz.underlying134
  a228 := Tryz.isAgg134
  z228 := Tryz.sizeOf134
  v228 := Tryz.zeroValue134
  t229 := Tryz.underlying135
  a229 := Tryz.isAgg135
  z229 := Tryz.sizeOf135
  v229 := Tryz.zeroValue135
end Go.Proofs.Sz
end
/- part Zsi -/
section
/- slices.Sort of numbers, as a known call: by the library's own contract. -/
namespace Go.Proofs.Sz
open Go Go.Ax Go.Proofs Go.RowKit Go.Sort Go.Shelf
def msort (xs : List Int) : List Int := xs.mergeSort fun x y => decide (x ≤ y)
theorem msort_perm (xs : List Int) : (msort xs).Perm xs := List.mergeSort_perm _ _
theorem msort_len (xs : List Int) : (msort xs).length = xs.length := (msort_perm xs).length_eq
theorem msort_sorted (xs : List Int) : (msort xs).Pairwise (fun x y => x ≤ y) := by
  have := List.pairwise_mergeSort (le := fun x y : Int => decide (x ≤ y)) (fun a b c h1 h2 => by simp only [decide_eq_true_eq] at *; omega) (fun a b => by simp only [Bool.or_eq_true, decide_eq_true_eq]; omega) xs
  exact this.imp fun h => by simpa using h
theorem putInts_eq {w : World} {b : Nat} {cs pad : List Value} {ys : List Int} {t : TypeId} (h : w.heap[b]? = some (.cells (cs ++ pad).toArray t (0, 0))) (hl : ys.length = cs.length) :
    putRow (Value.int .i64) w b 0 ys.toArray = putB w b (.cells (iv ys ++ pad).toArray t (0, 0)) := by
  have hlt : b < w.heap.size := by
    rcases Nat.lt_or_ge b w.heap.size with hlt | hge
    · exact hlt
    · rw [Array.getElem?_eq_none hge] at h; cases h
  unfold putRow mapBlock putB
  congr 1
  apply Array.ext_getElem?
  intro i
  rw [Array.getElem?_modify]
  by_cases e : b = i
  · subst e
    rw [Array.getElem?_setIfInBounds_self, if_pos rfl, h, if_pos hlt]
    simp only [Option.map_some, onCells]
    congr 2
    apply Array.ext_getElem?
    intro j
    unfold putCells
    rw [Array.getElem?_mapIdx]
    simp only [List.getElem?_toArray, List.size_toArray, Nat.zero_le, true_and, Nat.zero_add, Nat.sub_zero]
    have hvl := iv_len ys
    by_cases hj : j < ys.length
    · rw [List.getElem?_append_left (by omega), List.getElem?_append_left (by omega), iv_get, List.getElem?_eq_getElem hj, List.getElem?_eq_getElem (by omega)]
      simp [hj]
    · rw [List.getElem?_append_right (by omega), List.getElem?_append_right (by omega), hvl, hl]
      rw [hl] at hj
      cases pad[j - cs.length]? with
      | none => rfl
      | some x => simp [hj]
  · rw [Array.getElem?_setIfInBounds_ne e, if_neg e]
/-- slices.Sort -/
theorem sortI_call {S : St} (hok : S.ok) {b : Nat} {va : Value} {xs : List Int} (hx : RowW S b va xs) (hl : xs.length < 1000) :
    CallW PP 69 [va] S (fun v S' => v = .tuple #[] ∧ RowW S' b va (msort xs) ∧ S'.ok ∧ S'.n = S.n ∧ S'.mono = S.mono ∧ ∀ j, j ≠ b → S'.get j = S.get j) := by
  obtain ⟨⟨c, g, rfl, hc, hget, hg⟩⟩ := hx
  have hlt := lt_of_get hget
  refine ⟨.tuple #[], S.set b (.cells (iv (msort xs)) 3 g), ?_, rfl, ⟨⟨c, g, by rw [msort_len], by rw [msort_len]; exact hc, get_set_same _ hok hlt rfl, hg⟩⟩, by rw [ok_set_iff]; exact hok, rfl, rfl, fun j hj => get_set_ne _ hlt hj⟩
  refine ⟨⟨Tryz.f69, _, Tryz.func69, by kernel_rfl, rfl⟩, ?_⟩
  intro w0 E w args' m R hS hv hR
  cases hv with
  | cons hv1 hv2 =>
    cases hv2
    cases hv1 with
    | sc hs => simp [scalar] at hs
    | sl o l c hE =>
      rename_i b' κ
      obtain ⟨cs', pad, q1, q2, q3, q4⟩ := hS.cells hget hE
      have hcs := q2.scalars_eq (scalars_iv xs)
      subst hcs
      have hz := (hS.rng _ _ _ hE).2
      refine callsIn_wide.2 ?_
      have hH : Holds (Value.int .i64) w b' 0 xs.toArray := by
        intro j hj
        have hj' : j < xs.length := by simpa using hj
        refine ⟨?_, frozen_of q1 _⟩
        rw [cell_of q1, Nat.zero_add, List.getElem?_append_left (by rw [iv_len]; exact hj'), iv_get, List.getElem?_eq_getElem hj']
        simp [hj']
      have key := Any.slices_Sort_int sortI b' 0 (capOf κ c) xs w hH hz (by omega)
      refine Calls.mono key ?_
      rintro e w' ⟨rfl, n, os, rfl⟩
      have hsort : putRow (Value.int .i64) (Sort.ahead w n) b' 0 (xs.mergeSort fun x y => decide (x ≤ y)).toArray = putB (Sort.ahead w n) b' (.cells (iv (msort xs) ++ pad).toArray 3 (0, 0)) := by
        exact putInts_eq (w := Sort.ahead w n) (cs := iv xs) (ys := msort xs) q1 (by rw [iv_len, msort_len])
      rw [hsort]
      have hput := hS.put hget rfl hE (.cells (iv (msort xs)) 3 g) (.cells (iv (msort xs) ++ pad).toArray 3 (0, 0)) (fun w'' hw'' => ⟨b', κ, iv (msort xs), pad, hE, hw'', VRs.of_scalars (scalars_iv _), q3, fun hg => ⟨by rw [iv_len, msort_len, ← iv_len xs]; exact q4 hg, hS.cellsK hget hg hE⟩⟩)
      have hbel : Below (putB w b' (.cells (iv (msort xs) ++ pad).toArray 3 (0, 0))).heap.size (putB w b' (.cells (iv (msort xs) ++ pad).toArray 3 (0, 0))) (grow (putB (Sort.ahead w n) b' (.cells (iv (msort xs) ++ pad).toArray 3 (0, 0))) os) := by
        refine ⟨rfl, rfl, rfl, ?_, ?_⟩
        · show _ ≤ (_ ++ os).size
          rw [Array.size_append]
          exact Nat.le_add_right _ _
        · intro k hk
          show ((putB w b' (.cells (iv (msort xs) ++ pad).toArray 3 (0, 0))).heap ++ os)[k]? = _
          rw [Array.getElem?_append_left hk]
      refine hR (.tuple #[], some (S.set b (.cells (iv (msort xs)) 3 g))) (by simp) E (.tuple #[]) _ (.refl E) (hput.after hbel (fun _ => Nat.le_add_right _ _)) (.tuple .nil) (Keeps.set hlt _) ?_
      have h1 := hbel.size
      rw [putB_size] at h1
      exact h1
end Go.Proofs.Sz
end
/- part Zka -/
section
namespace Go.Proofs.Sz
open Go Go.Ax Go.Proofs Go.RowKit
open Classical in
/-- three calls that are known at one store -/
noncomputable def F3 (S0 : St) (f1 f2 f3 : FuncId) (a1 a2 a3 : List Value) (v1 v2 v3 : Value) : FT := fun f a S =>
  if S = S0 then (if f = f1 ∧ a = a1 then some (v1, S0) else if f = f2 ∧ a = a2 then some (v2, S0) else if f = f3 ∧ a = a3 then some (v3, S0) else none) else none
theorem F3_ok {S0 : St} {f1 f2 f3 : FuncId} {a1 a2 a3 : List Value} {v1 v2 v3 : Value} (h1 : CallIs PP f1 a1 S0 [(v1, some S0)]) (h2 : CallIs PP f2 a2 S0 [(v2, some S0)]) (h3 : CallIs PP f3 a3 S0 [(v3, some S0)]) (f : FuncId) (a : List Value) (S : St) (v : Value) (S' : St) (h : F3 S0 f1 f2 f3 a1 a2 a3 v1 v2 v3 f a S = some (v, S')) : CallIs PP f a S [(v, some S')] := by
  unfold F3 at h
  split at h
  · rename_i e
    subst e
    split at h
    · rename_i e; obtain ⟨rfl, rfl⟩ := e; cases h; exact h1
    · split at h
      · rename_i e; obtain ⟨rfl, rfl⟩ := e; cases h; exact h2
      · split at h
        · rename_i e; obtain ⟨rfl, rfl⟩ := e; cases h; exact h3
        · cases h
  · cases h
theorem F3_same {S0 : St} {f1 f2 f3 : FuncId} {a1 a2 a3 : List Value} {v1 v2 v3 : Value} (f : FuncId) (a : List Value) (S : St) (v : Value) (S' : St) (h : F3 S0 f1 f2 f3 a1 a2 a3 v1 v2 v3 f a S = some (v, S')) : S' = S := by
  unfold F3 at h
  split at h
  · rename_i e
    subst e
    split at h
    · cases h; rfl
    · split at h
      · cases h; rfl
      · split at h
        · cases h; rfl
        · cases h
  · cases h
theorem callIs_of {f : FuncId} {a : List Value} {S : St} {v : Value} (h : CallW PP f a S (fun u S' => u = v ∧ S' = S)) : CallIs PP f a S [(v, some S)] := by
  obtain ⟨u, S', h1, rfl, rfl⟩ := h
  exact h1
/-- sorted's closure: which key is less -/
theorem key_call {S : St} {bf : Nat} {g : FuncId} {cs : List Value} (hf : S.get bf = some (.cells [.func (.func g) #[] cs.toArray] 50 0)) (hg : g ≠ 53) {x y : Int} {key : Int → Int}
    (hx : CallW PP g ([.int .i64 x] ++ cs) S (fun v S' => v = .int .i64 (key x) ∧ S' = S)) (hy : CallW PP g ([.int .i64 y] ++ cs) S (fun v S' => v = .int .i64 (key y) ∧ S' = S)) :
    CallW PP 52 [.int .i64 x, .int .i64 y, .pointer (some ⟨bf, 0, none⟩)] S (fun v S' => v = .int .i64 (cmpI (key x) (key y)) ∧ S' = S) := by
  have r1 := load_one (o := 0) und50 info50 rfl hf
  simp only [List.getElem?_cons_zero] at r1
  have hc := callIs_of (cmp_call S (key x) (key y))
  have k1 : F3 S g g 53 ([.int .i64 x] ++ cs) ([.int .i64 y] ++ cs) [.int .i64 (key x), .int .i64 (key y)] (.int .i64 (key x)) (.int .i64 (key y)) (.int .i64 (cmpI (key x) (key y))) g ([.int .i64 x] ++ cs) S = some (.int .i64 (key x), S) := by simp [F3]
  have k2 : F3 S g g 53 ([.int .i64 x] ++ cs) ([.int .i64 y] ++ cs) [.int .i64 (key x), .int .i64 (key y)] (.int .i64 (key x)) (.int .i64 (key y)) (.int .i64 (cmpI (key x) (key y))) g ([.int .i64 y] ++ cs) S = some (.int .i64 (key y), S) := by
    by_cases e : y = x
    · subst e; simp [F3]
    · simp [F3, e]
  have k3 : F3 S g g 53 ([.int .i64 x] ++ cs) ([.int .i64 y] ++ cs) [.int .i64 (key x), .int .i64 (key y)] (.int .i64 (key x)) (.int .i64 (key y)) (.int .i64 (cmpI (key x) (key y))) 53 [.int .i64 (key x), .int .i64 (key y)] S = some (.int .i64 (cmpI (key x) (key y)), S) := by
    simp [F3, Ne.symm hg]
  generalize hF : F3 S g g 53 ([.int .i64 x] ++ cs) ([.int .i64 y] ++ cs) [.int .i64 (key x), .int .i64 (key y)] (.int .i64 (key x)) (.int .i64 (key y)) (.int .i64 (cmpI (key x) (key y))) = F at k1 k2 k3
  have hok : ∀ f a S v S', F f a S = some (v, S') → CallIs PP f a S [(v, some S')] := by rw [← hF]; exact F3_ok (callIs_of hx) (callIs_of hy) hc
  have hsm : ∀ f a S v S', F f a S = some (v, S') → S' = S := by rw [← hF]; exact F3_same
  refine CallW_of hTT fn52 rfl (by simp [Tryz.f52]) ?_
  unfold Tryz.f52
  with_reducible refine W_seq ?_
  with_reducible refine W_regionV hTT ?_
  simp only [H0, J86, J87, und3, und4, und22, und26, und29, und45, und64, info3, info4, info22, info26, info29, info45, info64, info50, und50, aggT, gv, dstAt, aop, evalsA, partsA, evalO, updO, ofArgs, binV, intBin, unV, mmV, builtinA, Nat.reduceLT, Nat.reduceEqDiff, Nat.reduceAdd, Nat.reduceSub, Nat.reduceMul, ↓reduceIte, reduceCtorEq]
  with_reducible refine W_seq ?_
  with_reducible refine W_drawS hTT hok hsm (by kernel_rfl) ?_
  simp only [H0, J86, J87, und3, und4, und22, und26, und29, und45, und64, info3, info4, info22, info26, info29, info45, info64, info50, und50, aggT, gv, dstAt, aop, evalsA, partsA, evalO, updO, ofArgs, binV, intBin, unV, mmV, builtinA, Nat.reduceLT, Nat.reduceEqDiff, Nat.reduceAdd, Nat.reduceSub, Nat.reduceMul, ↓reduceIte, reduceCtorEq, r1]
  refine VCallF_intro k1 ?_
  simp only [H0, J86, J87, und3, und4, und22, und26, und29, und45, und64, info3, info4, info22, info26, info29, info45, info64, info50, und50, aggT, gv, dstAt, aop, evalsA, partsA, evalO, updO, ofArgs, binV, intBin, unV, mmV, builtinA, Nat.reduceLT, Nat.reduceEqDiff, Nat.reduceAdd, Nat.reduceSub, Nat.reduceMul, ↓reduceIte, reduceCtorEq, r1]
  refine VCallF_intro k2 ?_
  simp only [H0, J86, J87, und3, und4, und22, und26, und29, und45, und64, info3, info4, info22, info26, info29, info45, info64, info50, und50, aggT, gv, dstAt, aop, evalsA, partsA, evalO, updO, ofArgs, binV, intBin, unV, mmV, builtinA, Nat.reduceLT, Nat.reduceEqDiff, Nat.reduceAdd, Nat.reduceSub, Nat.reduceMul, ↓reduceIte, reduceCtorEq, r1]
  refine VCallF_intro k3 ?_
  repeat (first | with_reducible (first | refine W_seq ?_ | refine W_block ?_ | refine W_scope ?_ | refine W_regionV hTT ?_ | refine W_condV ?_ | refine W_ret ?_ | refine W_exit ?_ | refine W_skip ?_ | refine W_label ?_ | refine W_drawV hTT (by kernel_rfl) ?_) | simp only [H0, J86, J87, und3, und4, und22, und26, und29, und45, und64, info3, info4, info22, info26, info29, info45, info64, info50, und50, aggT, gv, dstAt, aop, evalsA, partsA, evalO, updO, ofArgs, binV, intBin, unV, mmV, builtinA, Nat.reduceLT, Nat.reduceEqDiff, Nat.reduceAdd, Nat.reduceSub, Nat.reduceMul, ↓reduceIte, reduceCtorEq])
/-- the first k + 1 are in order but for the one at j, which is no more than those behind it -/
def Bub (K : Int → Int) (ys : List Int) (k j : Nat) : Prop := (∀ a b, a < b → b ≤ k → a ≠ j → b ≠ j → K (ys.getD a 0) ≤ K (ys.getD b 0)) ∧ ∀ b, j < b → b ≤ k → K (ys.getD j 0) ≤ K (ys.getD b 0)
def Ord (K : Int → Int) (ys : List Int) (k : Nat) : Prop := ∀ a b, a < b → b < k → K (ys.getD a 0) ≤ K (ys.getD b 0)
theorem Ord.bub {K : Int → Int} {ys : List Int} {k : Nat} (h : Ord K ys k) : Bub K ys k k := ⟨fun a b h1 h2 _ h4 => h a b h1 (by omega), fun b h1 h2 => by omega⟩
theorem Bub.stop {K : Int → Int} {ys : List Int} {k j : Nat} (h : Bub K ys k j) (hj : j = 0 ∨ K (ys.getD (j - 1) 0) ≤ K (ys.getD j 0)) : Ord K ys (k + 1) := by
  intro a b hab hb
  by_cases e1 : a = j
  · subst e1; exact h.2 b hab (by omega)
  · by_cases e2 : b = j
    · subst e2
      rcases hj with h0 | hj
      · omega
      · by_cases e3 : a = b - 1
        · rw [e3]; exact hj
        · exact Int.le_trans (h.1 a (b - 1) (by omega) (by omega) e1 (by omega)) hj
    · exact h.1 a b hab (by omega) e1 e2
theorem swap_get {ys : List Int} {j : Nat} (hj : j + 1 < ys.length) (i : Nat) : ((ys.set (j + 1) (ys.getD j 0)).set j (ys.getD (j + 1) 0)).getD i 0 = if i = j then ys.getD (j + 1) 0 else if i = j + 1 then ys.getD j 0 else ys.getD i 0 := by
  simp only [List.getD_eq_getElem?_getD, List.getElem?_set, List.length_set]
  by_cases e1 : j = i
  · subst e1
    simp [show j < ys.length by omega]
  · have e1' : i ≠ j := fun e => e1 e.symm
    rw [if_neg e1, if_neg e1']
    by_cases e2 : j + 1 = i
    · subst e2
      simp [hj]
    · have e2' : i ≠ j + 1 := fun e => e2 e.symm
      rw [if_neg e2, if_neg e2']
theorem Bub.swap {K : Int → Int} {ys : List Int} {k j : Nat} (h : Bub K ys k (j + 1)) (hk : j + 1 ≤ k) (hl : k < ys.length) (hlt : K (ys.getD (j + 1) 0) < K (ys.getD j 0)) : Bub K ((ys.set (j + 1) (ys.getD j 0)).set j (ys.getD (j + 1) 0)) k j := by
  have hj : j + 1 < ys.length := by omega
  refine ⟨fun a b hab hb ha hbj => ?_, fun b hb1 hb2 => ?_⟩
  · rw [swap_get hj, swap_get hj, if_neg ha, if_neg hbj]
    by_cases e1 : a = j + 1
    · rw [if_pos e1, if_neg (by omega)]
      exact h.1 j b (by omega) hb (by omega) (by omega)
    · rw [if_neg e1]
      by_cases e2 : b = j + 1
      · rw [if_pos e2]
        exact h.1 a j (by omega) (by omega) (by omega) (by omega)
      · rw [if_neg e2]
        exact h.1 a b hab hb e1 e2
  · rw [swap_get hj, swap_get hj, if_pos rfl, if_neg (by omega)]
    by_cases e2 : b = j + 1
    · rw [if_pos e2]; omega
    · rw [if_neg e2]
      exact h.2 b (by omega) hb2
theorem Ord.pair {K : Int → Int} {ys : List Int} (h : Ord K ys ys.length) : ys.Pairwise (fun x y => K x ≤ K y) := by
  rw [List.pairwise_iff_getElem]
  intro i j hi hj hij
  have := h i j hij hj
  simpa [List.getD_eq_getElem?_getD, hi, hj] using this
theorem cmpI_lt (a b : Int) : decide (cmpI a b < 0) = decide (a < b) := by
  unfold cmpI
  by_cases h : a < b
  · simp [h]
  · by_cases h2 : b < a <;> simp [h, h2]
set_option maxHeartbeats 4000000 in
/-- insertionSortCmpFunc, by a key -/
theorem insKey_call {S : St} (hok : S.ok) {b : Nat} {va : Value} {xs : List Int} (hx : RowW S b va xs) (hl : xs.length < 1000) {g : FuncId} {cs : List Value} {K : Int → Int} {a0 : Nat} (ha : a0 = 0 ∨ a0 = xs.length)
    (hcmp : ∀ S', (S'.ok ∧ S'.n = S.n ∧ S'.mono = S.mono ∧ ∀ j, j ≠ b → S'.get j = S.get j) → ∀ x y, x ∈ xs → y ∈ xs → CallW PP g ([.int .i64 x, .int .i64 y] ++ cs) S' (fun v S3 => v = .int .i64 (cmpI (K x) (K y)) ∧ S3 = S')) :
    CallW PP 82 [va, .int .i64 a0, .int .i64 xs.length, .func (.func g) #[] cs.toArray] S (fun v S' => v = .tuple #[] ∧ (∃ ys : List Int, ys.Perm xs ∧ (a0 = 0 → Ord K ys ys.length) ∧ (a0 ≠ 0 → ys = xs) ∧ RowW S' b va ys) ∧ S'.ok ∧ S'.n = S.n ∧ S'.mono = S.mono ∧ ∀ j, j ≠ b → S'.get j = S.get j) := by
  have hw0 : IntKind.i64.wrap ((a0 : Int) + 1) = ((a0 + 1 : Nat) : Int) := wrap_succ (by omega)
  refine CallW_of hTT fn82 rfl (by simp [Tryz.f82]) ?_
  unfold Tryz.f82
  repeat (first | with_reducible (first | refine W_seq ?_ | refine W_scope ?_ | refine W_regionV hTT ?_ | refine W_condV ?_ | refine W_ret ?_ | refine W_exit ?_ | refine W_skip ?_ | refine W_label ?_ | refine W_drawV hTT (by kernel_rfl) ?_) | simp only [H0, J86, J87, und3, und4, und22, und26, und29, und45, und64, info3, info4, info22, info26, info29, info45, info64, info50, und50, aggT, gv, dstAt, aop, evalsA, partsA, evalO, updO, ofArgs, binV, intBin, unV, mmV, builtinA, Nat.reduceLT, Nat.reduceEqDiff, Nat.reduceAdd, Nat.reduceSub, Nat.reduceMul, ↓reduceIte, reduceCtorEq, hw0])
  refine W_block ?_
  refine W_loopI (fun m τ ds S' => ds = [] ∧ (∃ ys : List Int, ys.Perm xs ∧ RowW S' b va ys ∧ ∃ k : Nat, m = xs.length + 1 - k ∧ a0 + 1 ≤ k ∧ (k ≤ xs.length ∨ k = a0 + 1) ∧ (a0 = 0 → Ord K ys k) ∧ (a0 ≠ 0 → ys = xs) ∧ τ 0 = va ∧ τ 1 = .int .i64 a0 ∧ τ 2 = .int .i64 xs.length ∧ τ 3 = .func (.func g) #[] cs.toArray ∧ τ 8 = .int .i64 k) ∧ (S'.ok ∧ S'.n = S.n ∧ S'.mono = S.mono ∧ ∀ j, j ≠ b → S'.get j = S.get j)) (xs.length + 1 - (a0 + 1)) ?_ ?_
  · refine ⟨rfl, ⟨xs, .refl _, hx, a0 + 1, rfl, Nat.le_refl _, .inr rfl, fun h0 a b h1 h2 => by omega, fun _ => rfl, ?_, ?_, ?_, ?_, ?_⟩, hok, rfl, rfl, fun _ _ => rfl⟩ <;> first | rfl | simp only [H0, J86, J87, und3, und4, und22, und26, und29, und45, und64, info3, info4, info22, info26, info29, info45, info64, info50, und50, aggT, gv, dstAt, aop, evalsA, partsA, evalO, updO, ofArgs, binV, intBin, unV, mmV, builtinA, Nat.reduceLT, Nat.reduceEqDiff, Nat.reduceAdd, Nat.reduceSub, Nat.reduceMul, ↓reduceIte, reduceCtorEq]
  · rintro m τ ds S1 ⟨rfl, ⟨ys, hp, hR, k, rfl, hk0, hk, hO, hI, t0, t1, t2, t3, t8⟩, hS⟩
    have hy := hp.length_eq
    by_cases hlt : k < xs.length
    · have ha0 : a0 = 0 := by omega
      subst ha0
      have e1 : decide ((k : Int) < xs.length) = true := by simpa using hlt
      have hw := wrap_succ (k := k) (by omega)
      repeat (first | with_reducible (first | refine W_seq ?_ | refine W_scope ?_ | refine W_regionV hTT ?_ | refine W_condV ?_ | refine W_ret ?_ | refine W_exit ?_ | refine W_skip ?_ | refine W_label ?_ | refine W_drawV hTT (by kernel_rfl) ?_) | simp only [H0, J86, J87, und3, und4, und22, und26, und29, und45, und64, info3, info4, info22, info26, info29, info45, info64, info50, und50, aggT, gv, dstAt, aop, evalsA, partsA, evalO, updO, ofArgs, binV, intBin, unV, mmV, builtinA, Nat.reduceLT, Nat.reduceEqDiff, Nat.reduceAdd, Nat.reduceSub, Nat.reduceMul, ↓reduceIte, reduceCtorEq, t0, t1, t2, t3, t8, e1])
      refine W_block ?_
      repeat (first | with_reducible (first | refine W_seq ?_ | refine W_scope ?_ | refine W_regionV hTT ?_ | refine W_condV ?_ | refine W_ret ?_ | refine W_exit ?_ | refine W_skip ?_ | refine W_label ?_ | refine W_drawV hTT (by kernel_rfl) ?_) | simp only [H0, J86, J87, und3, und4, und22, und26, und29, und45, und64, info3, info4, info22, info26, info29, info45, info64, info50, und50, aggT, gv, dstAt, aop, evalsA, partsA, evalO, updO, ofArgs, binV, intBin, unV, mmV, builtinA, Nat.reduceLT, Nat.reduceEqDiff, Nat.reduceAdd, Nat.reduceSub, Nat.reduceMul, ↓reduceIte, reduceCtorEq, t0, t1, t2, t3, t8])
      refine W_block ?_
      refine W_loopI (fun m τ ds S' => ds = [] ∧ (∃ ys : List Int, ys.Perm xs ∧ RowW S' b va ys ∧ ∃ j : Nat, m = j ∧ j ≤ k ∧ Bub K ys k j ∧ τ 0 = va ∧ τ 1 = .int .i64 (0 : Nat) ∧ τ 2 = .int .i64 xs.length ∧ τ 3 = .func (.func g) #[] cs.toArray ∧ τ 8 = .int .i64 k ∧ τ 9 = .int .i64 j) ∧ (S'.ok ∧ S'.n = S.n ∧ S'.mono = S.mono ∧ ∀ j, j ≠ b → S'.get j = S.get j)) k ?_ ?_
      · refine ⟨rfl, ⟨ys, hp, hR, k, rfl, Nat.le_refl _, (hO rfl).bub, ?_, ?_, ?_, ?_, ?_, ?_⟩, hS⟩ <;> first | rfl | simp only [H0, J86, J87, und3, und4, und22, und26, und29, und45, und64, info3, info4, info22, info26, info29, info45, info64, info50, und50, aggT, gv, dstAt, aop, evalsA, partsA, evalO, updO, ofArgs, binV, intBin, unV, mmV, builtinA, Nat.reduceLT, Nat.reduceEqDiff, Nat.reduceAdd, Nat.reduceSub, Nat.reduceMul, ↓reduceIte, reduceCtorEq, t0, t1, t2, t3, t8]
      · rintro m τ ds S1 ⟨rfl, ⟨ys, hp, hR, j, hmj, hj, hB, t0, t1, t2, t3, t8, t9⟩, hS⟩
        subst hmj
        have hy := hp.length_eq
        cases m with
        | zero =>
          have e2 : decide (((0 : Nat) : Int) > ((0 : Nat) : Int)) = false := rfl
          repeat (first | with_reducible (first | refine W_seq ?_ | refine W_block ?_ | refine W_scope ?_ | refine W_regionV hTT ?_ | refine W_condV ?_ | refine W_ret ?_ | refine W_exit ?_ | refine W_skip ?_ | refine W_label ?_ | refine W_drawV hTT (by kernel_rfl) ?_) | simp only [H0, J86, J87, und3, und4, und22, und26, und29, und45, und64, info3, info4, info22, info26, info29, info45, info64, info50, und50, aggT, gv, dstAt, aop, evalsA, partsA, evalO, updO, ofArgs, binV, intBin, unV, mmV, builtinA, Nat.reduceLT, Nat.reduceEqDiff, Nat.reduceAdd, Nat.reduceSub, Nat.reduceMul, ↓reduceIte, reduceCtorEq, t0, t1, t2, t3, t8, t9, e2, hw])
          refine LoopQ_intro (xs.length + 1 - (k + 1)) (by omega) ⟨rfl, ⟨ys, hp, hR, k + 1, rfl, by omega, .inl (by omega), fun _ => hB.stop (.inl rfl), fun h => absurd rfl h, by simp only [H0, J86, J87, und3, und4, und22, und26, und29, und45, und64, info3, info4, info22, info26, info29, info45, info64, info50, und50, aggT, gv, dstAt, aop, evalsA, partsA, evalO, updO, ofArgs, binV, intBin, unV, mmV, builtinA, Nat.reduceLT, Nat.reduceEqDiff, Nat.reduceAdd, Nat.reduceSub, Nat.reduceMul, ↓reduceIte, reduceCtorEq, t0], by simp only [H0, J86, J87, und3, und4, und22, und26, und29, und45, und64, info3, info4, info22, info26, info29, info45, info64, info50, und50, aggT, gv, dstAt, aop, evalsA, partsA, evalO, updO, ofArgs, binV, intBin, unV, mmV, builtinA, Nat.reduceLT, Nat.reduceEqDiff, Nat.reduceAdd, Nat.reduceSub, Nat.reduceMul, ↓reduceIte, reduceCtorEq, t1], by simp only [H0, J86, J87, und3, und4, und22, und26, und29, und45, und64, info3, info4, info22, info26, info29, info45, info64, info50, und50, aggT, gv, dstAt, aop, evalsA, partsA, evalO, updO, ofArgs, binV, intBin, unV, mmV, builtinA, Nat.reduceLT, Nat.reduceEqDiff, Nat.reduceAdd, Nat.reduceSub, Nat.reduceMul, ↓reduceIte, reduceCtorEq, t2], by simp only [H0, J86, J87, und3, und4, und22, und26, und29, und45, und64, info3, info4, info22, info26, info29, info45, info64, info50, und50, aggT, gv, dstAt, aop, evalsA, partsA, evalO, updO, ofArgs, binV, intBin, unV, mmV, builtinA, Nat.reduceLT, Nat.reduceEqDiff, Nat.reduceAdd, Nat.reduceSub, Nat.reduceMul, ↓reduceIte, reduceCtorEq, t3], by simp only [H0, J86, J87, und3, und4, und22, und26, und29, und45, und64, info3, info4, info22, info26, info29, info45, info64, info50, und50, aggT, gv, dstAt, aop, evalsA, partsA, evalO, updO, ofArgs, binV, intBin, unV, mmV, builtinA, Nat.reduceLT, Nat.reduceEqDiff, Nat.reduceAdd, Nat.reduceSub, Nat.reduceMul, ↓reduceIte, reduceCtorEq, t8, hw]⟩, hS⟩
        | succ j =>
          have e2 : decide (((j + 1 : Nat) : Int) > ((0 : Nat) : Int)) = true := decide_eq_true (by omega)
          have hw2 : IntKind.i64.wrap (((j + 1 : Nat) : Int) - 1) = (j : Nat) := by rw [wrap_id (by omega) (by omega)]; omega
          have a1 := hR.addr (k := .i64) (i := j + 1) (by omega)
          have a2 := hR.addr (k := .i64) (i := j) (by omega)
          have l1 := hR.load (i := j + 1) (by omega)
          have l2 := hR.load (i := j) (by omega)
          have g1 : ys[j + 1]'(by omega) = ys.getD (j + 1) 0 := by rw [List.getD_eq_getElem?_getD, List.getElem?_eq_getElem (by omega)]; rfl
          have g2 : ys[j]'(by omega) = ys.getD j 0 := by rw [List.getD_eq_getElem?_getD, List.getElem?_eq_getElem (by omega)]; rfl
          rw [g1] at l1
          rw [g2] at l2
          repeat (first | with_reducible (first | refine W_seq ?_ | refine W_block ?_ | refine W_scope ?_ | refine W_regionV hTT ?_ | refine W_condV ?_ | refine W_ret ?_ | refine W_exit ?_ | refine W_skip ?_ | refine W_label ?_ | refine W_drawV hTT (by kernel_rfl) ?_) | simp only [H0, J86, J87, und3, und4, und22, und26, und29, und45, und64, info3, info4, info22, info26, info29, info45, info64, info50, und50, aggT, gv, dstAt, aop, evalsA, partsA, evalO, updO, ofArgs, binV, intBin, unV, mmV, builtinA, Nat.reduceLT, Nat.reduceEqDiff, Nat.reduceAdd, Nat.reduceSub, Nat.reduceMul, ↓reduceIte, reduceCtorEq, t0, t1, t2, t3, t8, t9, e2, hw2, a1, a2, l1, l2])
          refine VCall_intro (hcmp S1 hS (ys.getD (j + 1) 0) (ys.getD j 0) (hp.mem_iff.1 (by rw [← g1]; exact List.getElem_mem _)) (hp.mem_iff.1 (by rw [← g2]; exact List.getElem_mem _))) ?_
          rintro v S2 ⟨rfl, rfl⟩
          repeat (first | with_reducible (first | refine W_seq ?_ | refine W_block ?_ | refine W_scope ?_ | refine W_regionV hTT ?_ | refine W_condV ?_ | refine W_ret ?_ | refine W_exit ?_ | refine W_skip ?_ | refine W_label ?_ | refine W_drawV hTT (by kernel_rfl) ?_) | simp only [H0, J86, J87, und3, und4, und22, und26, und29, und45, und64, info3, info4, info22, info26, info29, info45, info64, info50, und50, aggT, gv, dstAt, aop, evalsA, partsA, evalO, updO, ofArgs, binV, intBin, unV, mmV, builtinA, Nat.reduceLT, Nat.reduceEqDiff, Nat.reduceAdd, Nat.reduceSub, Nat.reduceMul, ↓reduceIte, reduceCtorEq, t0, t1, t2, t3, t8, t9, hw2, a1, a2, l1, l2, cmpI_lt])
          refine VIf_split (fun h1 => ?_) (fun h1 => ?_)
          · obtain ⟨S3, s1, hR3, o1, o2, o3, o4⟩ := hR.store hS.1 (i := j + 1) (by omega) (ys.getD j 0)
            obtain ⟨S4, s2, hR4, q1, q2, q3, q4⟩ := hR3.store o1 (i := j) (by rw [List.length_set]; omega) (ys.getD (j + 1) 0)
            have hperm : ((ys.set (j + 1) (ys.getD j 0)).set j (ys.getD (j + 1) 0)).Perm xs := by
              rw [← g1, ← g2]
              exact (List.set_set_perm (by omega) (by omega)).trans hp
            repeat (first | with_reducible (first | refine W_seq ?_ | refine W_block ?_ | refine W_scope ?_ | refine W_regionV hTT ?_ | refine W_condV ?_ | refine W_ret ?_ | refine W_exit ?_ | refine W_skip ?_ | refine W_label ?_ | refine W_drawV hTT (by kernel_rfl) ?_) | simp only [H0, J86, J87, und3, und4, und22, und26, und29, und45, und64, info3, info4, info22, info26, info29, info45, info64, info50, und50, aggT, gv, dstAt, aop, evalsA, partsA, evalO, updO, ofArgs, binV, intBin, unV, mmV, builtinA, Nat.reduceLT, Nat.reduceEqDiff, Nat.reduceAdd, Nat.reduceSub, Nat.reduceMul, ↓reduceIte, reduceCtorEq, t0, t1, t2, t3, t8, t9, hw2, a1, a2, l1, l2, s1, s2])
            refine LoopQ_intro j (by omega) ⟨rfl, ⟨_, hperm, hR4, j, rfl, by omega, hB.swap (by omega) (by omega) (of_decide_eq_true h1), by simp only [H0, J86, J87, und3, und4, und22, und26, und29, und45, und64, info3, info4, info22, info26, info29, info45, info64, info50, und50, aggT, gv, dstAt, aop, evalsA, partsA, evalO, updO, ofArgs, binV, intBin, unV, mmV, builtinA, Nat.reduceLT, Nat.reduceEqDiff, Nat.reduceAdd, Nat.reduceSub, Nat.reduceMul, ↓reduceIte, reduceCtorEq, t0], by simp only [H0, J86, J87, und3, und4, und22, und26, und29, und45, und64, info3, info4, info22, info26, info29, info45, info64, info50, und50, aggT, gv, dstAt, aop, evalsA, partsA, evalO, updO, ofArgs, binV, intBin, unV, mmV, builtinA, Nat.reduceLT, Nat.reduceEqDiff, Nat.reduceAdd, Nat.reduceSub, Nat.reduceMul, ↓reduceIte, reduceCtorEq, t1], by simp only [H0, J86, J87, und3, und4, und22, und26, und29, und45, und64, info3, info4, info22, info26, info29, info45, info64, info50, und50, aggT, gv, dstAt, aop, evalsA, partsA, evalO, updO, ofArgs, binV, intBin, unV, mmV, builtinA, Nat.reduceLT, Nat.reduceEqDiff, Nat.reduceAdd, Nat.reduceSub, Nat.reduceMul, ↓reduceIte, reduceCtorEq, t2], by simp only [H0, J86, J87, und3, und4, und22, und26, und29, und45, und64, info3, info4, info22, info26, info29, info45, info64, info50, und50, aggT, gv, dstAt, aop, evalsA, partsA, evalO, updO, ofArgs, binV, intBin, unV, mmV, builtinA, Nat.reduceLT, Nat.reduceEqDiff, Nat.reduceAdd, Nat.reduceSub, Nat.reduceMul, ↓reduceIte, reduceCtorEq, t3], by simp only [H0, J86, J87, und3, und4, und22, und26, und29, und45, und64, info3, info4, info22, info26, info29, info45, info64, info50, und50, aggT, gv, dstAt, aop, evalsA, partsA, evalO, updO, ofArgs, binV, intBin, unV, mmV, builtinA, Nat.reduceLT, Nat.reduceEqDiff, Nat.reduceAdd, Nat.reduceSub, Nat.reduceMul, ↓reduceIte, reduceCtorEq, t8], by simp only [H0, J86, J87, und3, und4, und22, und26, und29, und45, und64, info3, info4, info22, info26, info29, info45, info64, info50, und50, aggT, gv, dstAt, aop, evalsA, partsA, evalO, updO, ofArgs, binV, intBin, unV, mmV, builtinA, Nat.reduceLT, Nat.reduceEqDiff, Nat.reduceAdd, Nat.reduceSub, Nat.reduceMul, ↓reduceIte, reduceCtorEq, t9, hw2]⟩, ⟨q1, by rw [q2, o2]; exact hS.2.1, by rw [q3, o3]; exact hS.2.2.1, fun i hi => by rw [q4 i hi, o4 i hi]; exact hS.2.2.2 i hi⟩⟩
          · repeat (first | with_reducible (first | refine W_seq ?_ | refine W_block ?_ | refine W_scope ?_ | refine W_regionV hTT ?_ | refine W_condV ?_ | refine W_ret ?_ | refine W_exit ?_ | refine W_skip ?_ | refine W_label ?_ | refine W_drawV hTT (by kernel_rfl) ?_) | simp only [H0, J86, J87, und3, und4, und22, und26, und29, und45, und64, info3, info4, info22, info26, info29, info45, info64, info50, und50, aggT, gv, dstAt, aop, evalsA, partsA, evalO, updO, ofArgs, binV, intBin, unV, mmV, builtinA, Nat.reduceLT, Nat.reduceEqDiff, Nat.reduceAdd, Nat.reduceSub, Nat.reduceMul, ↓reduceIte, reduceCtorEq, t0, t1, t2, t3, t8, t9, hw])
            refine LoopQ_intro (xs.length + 1 - (k + 1)) (by omega) ⟨rfl, ⟨ys, hp, hR, k + 1, rfl, by omega, .inl (by omega), fun _ => hB.stop (.inr (by have := of_decide_eq_false h1; simp only [Nat.add_sub_cancel]; omega)), fun h => absurd rfl h, by simp only [H0, J86, J87, und3, und4, und22, und26, und29, und45, und64, info3, info4, info22, info26, info29, info45, info64, info50, und50, aggT, gv, dstAt, aop, evalsA, partsA, evalO, updO, ofArgs, binV, intBin, unV, mmV, builtinA, Nat.reduceLT, Nat.reduceEqDiff, Nat.reduceAdd, Nat.reduceSub, Nat.reduceMul, ↓reduceIte, reduceCtorEq, t0], by simp only [H0, J86, J87, und3, und4, und22, und26, und29, und45, und64, info3, info4, info22, info26, info29, info45, info64, info50, und50, aggT, gv, dstAt, aop, evalsA, partsA, evalO, updO, ofArgs, binV, intBin, unV, mmV, builtinA, Nat.reduceLT, Nat.reduceEqDiff, Nat.reduceAdd, Nat.reduceSub, Nat.reduceMul, ↓reduceIte, reduceCtorEq, t1], by simp only [H0, J86, J87, und3, und4, und22, und26, und29, und45, und64, info3, info4, info22, info26, info29, info45, info64, info50, und50, aggT, gv, dstAt, aop, evalsA, partsA, evalO, updO, ofArgs, binV, intBin, unV, mmV, builtinA, Nat.reduceLT, Nat.reduceEqDiff, Nat.reduceAdd, Nat.reduceSub, Nat.reduceMul, ↓reduceIte, reduceCtorEq, t2], by simp only [H0, J86, J87, und3, und4, und22, und26, und29, und45, und64, info3, info4, info22, info26, info29, info45, info64, info50, und50, aggT, gv, dstAt, aop, evalsA, partsA, evalO, updO, ofArgs, binV, intBin, unV, mmV, builtinA, Nat.reduceLT, Nat.reduceEqDiff, Nat.reduceAdd, Nat.reduceSub, Nat.reduceMul, ↓reduceIte, reduceCtorEq, t3], by simp only [H0, J86, J87, und3, und4, und22, und26, und29, und45, und64, info3, info4, info22, info26, info29, info45, info64, info50, und50, aggT, gv, dstAt, aop, evalsA, partsA, evalO, updO, ofArgs, binV, intBin, unV, mmV, builtinA, Nat.reduceLT, Nat.reduceEqDiff, Nat.reduceAdd, Nat.reduceSub, Nat.reduceMul, ↓reduceIte, reduceCtorEq, t8, hw]⟩, hS⟩
    · have e1 : decide ((k : Int) < xs.length) = false := by simpa using hlt
      repeat (first | with_reducible (first | refine W_seq ?_ | refine W_block ?_ | refine W_scope ?_ | refine W_regionV hTT ?_ | refine W_condV ?_ | refine W_ret ?_ | refine W_exit ?_ | refine W_skip ?_ | refine W_label ?_ | refine W_drawV hTT (by kernel_rfl) ?_) | simp only [H0, J86, J87, und3, und4, und22, und26, und29, und45, und64, info3, info4, info22, info26, info29, info45, info64, info50, und50, aggT, gv, dstAt, aop, evalsA, partsA, evalO, updO, ofArgs, binV, intBin, unV, mmV, builtinA, Nat.reduceLT, Nat.reduceEqDiff, Nat.reduceAdd, Nat.reduceSub, Nat.reduceMul, ↓reduceIte, reduceCtorEq, t0, t1, t2, t3, t8, e1])
      refine ⟨rfl, ⟨ys, hp, fun h0 => ?_, hI, hR⟩, hS⟩
      intro a b hab hb
      exact hO h0 a b hab (by omega)
end Go.Proofs.Sz
end
/- part Zpl -/
section
/- Contests, as plain facts: no program in sight. -/
namespace Go.Proofs.Sz
open Go Go.Ax
/-- the sum of f over a list -/
def ls (L : List Nat) (f : Nat → Int) : Int := (L.map f).sum
theorem ls_nil (f : Nat → Int) : ls [] f = 0 := rfl
theorem ls_cons (a : Nat) (L : List Nat) (f : Nat → Int) : ls (a :: L) f = f a + ls L f := by simp [ls]
theorem ls_append (L L' : List Nat) (f : Nat → Int) : ls (L ++ L') f = ls L f + ls L' f := by simp [ls]
theorem ls_perm {L L' : List Nat} (h : L.Perm L') (f : Nat → Int) : ls L f = ls L' f := by
  induction h with
  | nil => rfl
  | cons a _ ih => rw [ls_cons, ls_cons, ih]
  | swap a b l => rw [ls_cons, ls_cons, ls_cons, ls_cons]; omega
  | trans _ _ h1 h2 => rw [h1, h2]
theorem ls_congr {L : List Nat} {f g : Nat → Int} (h : ∀ x ∈ L, f x = g x) : ls L f = ls L g := by
  unfold ls
  rw [List.map_congr_left h]
theorem ls_add (L : List Nat) (f g : Nat → Int) : ls L (fun x => f x + g x) = ls L f + ls L g := by
  induction L with
  | nil => rfl
  | cons a L ih => rw [ls_cons, ls_cons, ls_cons, ih]; omega
theorem ls_le {L : List Nat} {f g : Nat → Int} (h : ∀ x ∈ L, f x ≤ g x) : ls L f ≤ ls L g := by
  induction L with
  | nil => exact Int.le_refl _
  | cons a L ih =>
    rw [ls_cons, ls_cons]
    have := ih fun x hx => h x (by simp [hx])
    have := h a (by simp)
    omega
theorem ls_nonneg {L : List Nat} {f : Nat → Int} (h : ∀ x ∈ L, 0 ≤ f x) : 0 ≤ ls L f := by
  induction L with
  | nil => exact Int.le_refl _
  | cons a L ih =>
    rw [ls_cons]
    have := ih fun x hx => h x (by simp [hx])
    have := h a (by simp)
    omega
theorem ls_const (L : List Nat) (c : Int) : ls L (fun _ => c) = L.length * c := by
  induction L with
  | nil => simp [ls]
  | cons a L ih => rw [ls_cons, ih, List.length_cons, Int.natCast_succ, Int.add_mul]; omega
/-- a set's rest -/
theorem split_rest : ∀ {A B : List Nat}, A.Nodup → B.Nodup → (∀ x ∈ A, x ∈ B) → ∃ R, B.Perm (A ++ R) ∧ R.Nodup ∧ ∀ x, x ∈ R ↔ (x ∈ B ∧ x ∉ A) := by
  intro A
  induction A with
  | nil => intro B _ hB _; exact ⟨B, .refl _, hB, fun x => by simp⟩
  | cons a A ih =>
    intro B hA hB hs
    rw [List.nodup_cons] at hA
    have ha := hs a (by simp)
    have hp := List.perm_cons_erase ha
    have hBe : (B.erase a).Nodup := hB.erase a
    obtain ⟨R, h1, h2, h3⟩ := ih hA.2 hBe (fun x hx => (List.mem_erase_of_ne (fun e => hA.1 (by rw [← e]; exact hx))).2 (hs x (by simp [hx])))
    refine ⟨R, hp.trans (h1.cons a), h2, fun x => ?_⟩
    rw [h3]
    constructor
    · rintro ⟨g1, g2⟩
      have hne : x ≠ a := fun e => by subst e; exact (List.Nodup.not_mem_erase hB) g1
      exact ⟨List.mem_of_mem_erase g1, by simp [hne, g2]⟩
    · rintro ⟨g1, g2⟩
      simp only [List.mem_cons, not_or] at g2
      exact ⟨(List.mem_erase_of_ne g2.1).2 g1, g2.2⟩
theorem sub_len {A B : List Nat} (hA : A.Nodup) (hB : B.Nodup) (h : ∀ x ∈ A, x ∈ B) : A.length ≤ B.length := by
  obtain ⟨R, h1, _⟩ := split_rest hA hB h
  have := h1.length_eq
  rw [List.length_append] at this
  omega
/-- 0 + 1 + .. + (k - 1) -/
def tri : Nat → Int
  | 0 => 0
  | k + 1 => tri k + k
theorem tri_two (k : Nat) : 2 * tri k = k * ((k : Int) - 1) := by
  induction k with
  | zero => simp [tri]
  | succ k ih =>
    unfold tri
    rw [Int.mul_add, ih, Int.natCast_succ, Int.add_sub_cancel, Int.add_mul, Int.mul_sub]
    omega
theorem tri_nonneg (k : Nat) : 0 ≤ tri k := by
  induction k with
  | zero => simp [tri]
  | succ k ih => unfold tri; omega
theorem tri_tdiv (k : Nat) : ((k : Int) * (k - 1)).tdiv 2 = tri k := by
  rw [← tri_two, Int.tdiv_eq_ediv_of_nonneg (by have := tri_nonneg k; omega)]
  omega
section
variable {n : Nat} {M : Nat → Nat → Int}
theorem IsC.two (h : IsC n M) {i j : Nat} (hi : i < n) (hj : j < n) (hne : i ≠ j) : (M i j = 0 ∧ M j i = 1) ∨ (M i j = 1 ∧ M j i = 0) := by
  have := (h i j hi hj).2 hne
  omega
theorem IsC.self (h : IsC n M) {i : Nat} (hi : i < n) : M i i = 0 := (h i i hi hi).1 rfl
theorem IsC.bit (h : IsC n M) {i j : Nat} (hi : i < n) (hj : j < n) : 0 ≤ M i j ∧ M i j ≤ 1 := by
  by_cases e : i = j
  · subst e; rw [h.self hi]; omega
  · have := (h i j hi hj).2 e; omega
theorem IsC.mono (h : IsC n M) {m : Nat} (hm : m ≤ n) : IsC m M := fun i j hi hj => h i j (by omega) (by omega)
/-- within a set -/
theorem tour_sum (h : IsC n M) : ∀ {L : List Nat}, L.Nodup → (∀ x ∈ L, x < n) → ls L (fun i => ls L (M i)) = tri L.length := by
  intro L
  induction L with
  | nil => intro _ _; rfl
  | cons a L ih =>
    intro hn hl
    rw [List.nodup_cons] at hn
    have ha := hl a (by simp)
    rw [ls_cons, ls_cons, h.self ha]
    have e1 : ls L (fun i => ls (a :: L) (M i)) = ls L (fun i => M i a) + ls L (fun i => ls L (M i)) := by
      rw [← ls_add]
      exact ls_congr fun x _ => ls_cons _ _ _
    have e2 : ls L (M a) + ls L (fun i => M i a) = L.length := by
      rw [← ls_add]
      have : ls L (fun x => M a x + M x a) = ls L (fun _ => 1) := ls_congr fun x hx => by
        have := (h a x ha (hl x (by simp [hx]))).2 (fun e => hn.1 (by rw [e]; exact hx))
        omega
      rw [this, ls_const]
      omega
    have ht : tri (L.length + 1) = tri L.length + L.length := rfl
    rw [e1, ih hn.2 fun x hx => hl x (by simp [hx]), List.length_cons, ht]
    omega
/-- a player's score -/
def sc (n : Nat) (M : Nat → Nat → Int) (i : Nat) : Int := ls (List.range n) (M i)
theorem sc_sum (i : Nat) : (mrow n (M i)).sum = sc n M i := rfl
theorem sc_bnd (h : IsC n M) {i : Nat} (hi : i < n) : 0 ≤ sc n M i ∧ sc n M i ≤ n := by
  constructor
  · exact ls_nonneg fun x hx => (h.bit hi (List.mem_range.1 hx)).1
  · have := ls_le (L := List.range n) (f := M i) (g := fun _ => 1) fun x hx => (h.bit hi (List.mem_range.1 hx)).2
    rw [ls_const, List.length_range] at this
    unfold sc
    omega
/-- a set's scores: within and beyond -/
theorem set_scores (h : IsC n M) {A R : List Nat} (hA : A.Nodup) (hAn : ∀ x ∈ A, x < n) (hp : (List.range n).Perm (A ++ R)) : ls A (sc n M) = tri A.length + ls A (fun i => ls R (M i)) := by
  have e : ls A (sc n M) = ls A (fun i => ls A (M i) + ls R (M i)) := ls_congr fun x _ => by
    unfold sc
    rw [ls_perm hp, ls_append]
  rw [e, ls_add, tour_sum h hA hAn]
theorem range_rest {A : List Nat} (hA : A.Nodup) (hAn : ∀ x ∈ A, x < n) : ∃ R, (List.range n).Perm (A ++ R) ∧ R.Nodup ∧ (∀ x, x ∈ R ↔ (x < n ∧ x ∉ A)) ∧ A.length + R.length = n := by
  obtain ⟨R, h1, h2, h3⟩ := split_rest hA (List.nodup_range (n := n)) fun x hx => List.mem_range.2 (hAn x hx)
  refine ⟨R, h1, h2, fun x => by rw [h3, List.mem_range], ?_⟩
  have := h1.length_eq
  rw [List.length_range, List.length_append] at this
  omega
theorem landau_le (h : IsC n M) {A : List Nat} (hA : A.Nodup) (hAn : ∀ x ∈ A, x < n) : tri A.length ≤ ls A (sc n M) := by
  obtain ⟨R, h1, h2, h3, h4⟩ := range_rest hA hAn
  rw [set_scores h hA hAn h1]
  have : 0 ≤ ls A (fun i => ls R (M i)) := ls_nonneg fun x hx => ls_nonneg fun y hy => (h.bit (hAn x hx) ((h3 y).1 hy).1).1
  omega
theorem all_scores (h : IsC n M) : ls (List.range n) (sc n M) = tri n := by
  have := set_scores (R := []) h List.nodup_range (fun x hx => List.mem_range.1 hx) (by rw [List.append_nil])
  rw [this, List.length_range]
  have : ls (List.range n) (fun i => ls [] (M i)) = 0 := by
    rw [show (fun i => ls [] (M i)) = (fun _ => (0 : Int)) from rfl, ls_const]; simp
  omega
/-- a set that beats all others -/
def Over (n : Nat) (M : Nat → Nat → Int) (A : List Nat) : Prop := A.Nodup ∧ (∀ x ∈ A, x < n) ∧ 0 < A.length ∧ A.length < n ∧ ∀ i ∈ A, ∀ j, j < n → j ∉ A → M i j = 1
theorem over_sum (h : IsC n M) {A : List Nat} (hA : A.Nodup) (hAn : ∀ x ∈ A, x < n) : ls A (sc n M) = tri A.length + A.length * ((n : Int) - A.length) ↔ ∀ i ∈ A, ∀ j, j < n → j ∉ A → M i j = 1 := by
  obtain ⟨R, h1, h2, h3, h4⟩ := range_rest hA hAn
  rw [set_scores h hA hAn h1]
  have hR : ∀ i ∈ A, ls R (M i) ≤ R.length := by
    intro i hi
    have := ls_le (L := R) (f := M i) (g := fun _ => 1) fun x hx => (h.bit (hAn i hi) ((h3 x).1 hx).1).2
    rw [ls_const] at this
    omega
  have hn : ((n : Int) - A.length) = R.length := by omega
  rw [hn]
  constructor
  · intro he i hi j hj hja
    have hjR := (h3 j).2 ⟨hj, hja⟩
    -- each row must be full
    have key : ∀ (L : List Nat), (∀ i ∈ L, ls R (M i) ≤ R.length) → ls L (fun i => ls R (M i)) = L.length * (R.length : Int) → ∀ i ∈ L, ls R (M i) = R.length := by
      intro L
      induction L with
      | nil => intro _ _ i hi; simp at hi
      | cons a L ih =>
        intro hle heq i hi
        rw [ls_cons, List.length_cons, Int.natCast_succ, Int.add_mul] at heq
        have h1 := hle a (by simp)
        have h2 : ls L (fun i => ls R (M i)) ≤ L.length * (R.length : Int) := by
          have := ls_le (L := L) (f := fun i => ls R (M i)) (g := fun _ => (R.length : Int)) fun x hx => hle x (by simp [hx])
          rwa [ls_const] at this
        rcases List.mem_cons.1 hi with rfl | hi
        · omega
        · exact ih (fun x hx => hle x (by simp [hx])) (by omega) i hi
    have hi' := key A hR (by omega) i hi
    have key2 : ∀ (L : List Nat), (∀ x ∈ L, M i x ≤ 1) → ls L (M i) = L.length → ∀ x ∈ L, M i x = 1 := by
      intro L
      induction L with
      | nil => intro _ _ x hx; simp at hx
      | cons a L ih =>
        intro hle heq x hx
        rw [ls_cons, List.length_cons] at heq
        have h1 := hle a (by simp)
        have h2 : ls L (M i) ≤ L.length := by
          have := ls_le (L := L) (f := M i) (g := fun _ => (1 : Int)) fun x hx => hle x (by simp [hx])
          rw [ls_const] at this
          omega
        rcases List.mem_cons.1 hx with rfl | hx
        · omega
        · exact ih (fun x hx => hle x (by simp [hx])) (by omega) x hx
    exact key2 R (fun x hx => (h.bit (hAn i hi) ((h3 x).1 hx).1).2) hi' j hjR
  · intro hall
    have : ls A (fun i => ls R (M i)) = ls A (fun _ => (R.length : Int)) := ls_congr fun i hi => by
      have : ls R (M i) = ls R (fun _ => 1) := ls_congr fun x hx => hall i hi x ((h3 x).1 hx).1 ((h3 x).1 hx).2
      rw [this, ls_const]
      omega
    rw [this, ls_const]
/-- the best of a list in falling order are the set that beats all others -/
theorem over_take (h : IsC n M) {A : List Nat} (hA : Over n M A) {at' : List Nat} (hp : at'.Perm (List.range n)) (hs : at'.Pairwise (fun x y => sc n M y ≤ sc n M x)) : ls (at'.take A.length) (sc n M) = tri A.length + A.length * ((n : Int) - A.length) := by
  obtain ⟨a1, a2, a3, a4, a5⟩ := hA
  obtain ⟨R, r1, r2, r3, r4⟩ := range_rest a1 a2
  have hnd : at'.Nodup := hp.nodup_iff.2 List.nodup_range
  have hln : at'.length = n := by rw [hp.length_eq, List.length_range]
  -- members have more than the others
  have hmem : ∀ i ∈ A, ((n : Int) - A.length) ≤ sc n M i := by
    intro i hi
    unfold sc
    rw [ls_perm r1, ls_append]
    have e1 : 0 ≤ ls A (M i) := ls_nonneg fun x hx => (h.bit (a2 i hi) (a2 x hx)).1
    have e2 : ls R (M i) = ls R (fun _ => 1) := ls_congr fun x hx => a5 i hi x ((r3 x).1 hx).1 ((r3 x).1 hx).2
    rw [ls_const] at e2
    omega
  have hout : ∀ j, j < n → j ∉ A → sc n M j < ((n : Int) - A.length) := by
    intro j hj hja
    unfold sc
    rw [ls_perm r1, ls_append]
    have e1 : ls A (M j) = ls A (fun _ => 0) := ls_congr fun x hx => by
      have h1 := a5 x hx j hj hja
      have := (h x j (a2 x hx) hj).2 (fun e => hja (by rw [← e]; exact hx))
      omega
    rw [ls_const] at e1
    have hjR := (r3 j).2 ⟨hj, hja⟩
    have e2 : ls R (M j) < R.length := by
      have hpr := List.perm_cons_erase hjR
      rw [ls_perm hpr, ls_cons, h.self hj]
      have := ls_le (L := R.erase j) (f := M j) (g := fun _ => 1) fun x hx => (h.bit hj ((r3 x).1 (List.mem_of_mem_erase hx)).1).2
      rw [ls_const, List.length_erase_of_mem hjR] at this
      have : 0 < R.length := List.length_pos_of_mem hjR
      omega
    omega
  -- the first ones are the members
  have htk : (at'.take A.length).length = A.length := by rw [List.length_take]; omega
  have htn : (at'.take A.length).Nodup := hnd.sublist (List.take_sublist _ _)
  have hsub : ∀ x ∈ at'.take A.length, x ∈ A := by
    intro x hx
    apply Classical.byContradiction
    intro hxA
    -- then a member is not among the first ones
    have hex : ∃ d ∈ A, d ∉ at'.take A.length := by
      apply Classical.byContradiction
      intro hno
      have hall : ∀ d ∈ A, d ∈ at'.take A.length := fun d hd => Classical.byContradiction fun hc => hno ⟨d, hd, hc⟩
      have hxA' : (x :: A).Nodup := List.nodup_cons.2 ⟨hxA, a1⟩
      have := sub_len hxA' htn fun y hy => by
        rcases List.mem_cons.1 hy with rfl | hy
        · exact hx
        · exact hall y hy
      rw [List.length_cons, htk] at this
      omega
    obtain ⟨d, hd, hdn⟩ := hex
    have hdm : d ∈ at' := hp.mem_iff.2 (List.mem_range.2 (a2 d hd))
    rw [← List.take_append_drop A.length at'] at hdm hs
    rcases List.mem_append.1 hdm with hd1 | hd1
    · exact hdn hd1
    · have := (List.pairwise_append.1 hs).2.2 x hx d hd1
      have h1 := hmem d hd
      have hxn : x < n := List.mem_range.1 (hp.mem_iff.1 (List.mem_of_mem_take hx))
      have h2 := hout x hxn hxA
      omega
  have hperm : (at'.take A.length).Perm A := by
    obtain ⟨Q, q1, _, _⟩ := split_rest htn a1 hsub
    have hq := q1.length_eq
    rw [List.length_append, htk] at hq
    have : Q = [] := List.length_eq_zero_iff.1 (by omega)
    rw [this, List.append_nil] at q1
    exact q1.symm
  rw [ls_perm hperm]
  exact (over_sum h a1 a2).2 a5
end
end Go.Proofs.Sz
end
/- part Zpm -/
section
/- Contests: rounds. -/
namespace Go.Proofs.Sz
open Go Go.Ax
section
variable {n : Nat} {M : Nat → Nat → Int}
/-- a round of players, each of whom has beaten the next one -/
structure Cyc (n : Nat) (M : Nat → Nat → Int) (r : List Nat) : Prop where
  nodup : r.Nodup
  lt : ∀ x ∈ r, x < n
  pos : 0 < r.length
  win : ∀ i, i < r.length → M (r.getD i 0) (r.getD ((i + 1) % r.length) 0) = 1
theorem getD_mem {r : List Nat} {i : Nat} (h : i < r.length) : r.getD i 0 ∈ r := by
  rw [List.getD_eq_getElem?_getD, List.getElem?_eq_getElem h]
  exact List.getElem_mem h
theorem getD_of_mem {r : List Nat} {x : Nat} (h : x ∈ r) : ∃ i, i < r.length ∧ r.getD i 0 = x := by
  obtain ⟨i, hi, rfl⟩ := List.getElem_of_mem h
  exact ⟨i, hi, by rw [List.getD_eq_getElem?_getD, List.getElem?_eq_getElem hi]; rfl⟩
theorem getD_app {r q : List Nat} {i : Nat} : (r ++ q).getD i 0 = if i < r.length then r.getD i 0 else q.getD (i - r.length) 0 := by
  simp only [List.getD_eq_getElem?_getD, List.getElem?_append]
  split <;> rfl
theorem getD_take {r : List Nat} {k i : Nat} (h : i < k) : (r.take k).getD i 0 = r.getD i 0 := by
  simp only [List.getD_eq_getElem?_getD, List.getElem?_take, if_pos h]
theorem getD_drop {r : List Nat} {k i : Nat} : (r.drop k).getD i 0 = r.getD (k + i) 0 := by
  simp only [List.getD_eq_getElem?_getD, List.getElem?_drop]
/-- put in at a place -/
def insN (r : List Nat) (k v : Nat) : List Nat := r.take k ++ [v] ++ r.drop k
theorem insN_get {r : List Nat} {k v : Nat} (hk : k ≤ r.length) (i : Nat) : (insN r k v).getD i 0 = if i < k then r.getD i 0 else if i = k then v else r.getD (i - 1) 0 := by
  unfold insN
  have h1 : (r.take k).length = k := by rw [List.length_take]; omega
  rw [getD_app, getD_app]
  simp only [List.length_append, h1, List.length_singleton]
  by_cases a : i < k
  · rw [if_pos (by omega), if_pos a, if_pos a, getD_take a]
  · rw [if_neg a]
    by_cases b : i = k
    · rw [if_pos (by omega), if_neg a, if_pos b, b]
      simp
    · rw [if_neg (by omega), if_neg a, if_neg b, getD_drop, show k + (i - (k + 1)) = i - 1 by omega]
theorem insN_len {r : List Nat} {k v : Nat} (hk : k ≤ r.length) : (insN r k v).length = r.length + 1 := by
  unfold insN
  simp
  omega
theorem insN_perm (r : List Nat) (k v : Nat) : (insN r k v).Perm (v :: r) := by
  unfold insN
  have h := List.take_append_drop k r
  have h1 : (r.take k ++ [v] ++ r.drop k).Perm (v :: (r.take k ++ r.drop k)) := by
    rw [List.append_assoc]
    exact List.perm_middle
  rwa [h] at h1
theorem Cyc.ins {r : List Nat} (h : Cyc n M r) {v : Nat} (hv : v < n) (hvr : v ∉ r) {i : Nat} (hi : i < r.length) (h1 : M (r.getD i 0) v = 1) (h2 : M v (r.getD ((i + 1) % r.length) 0) = 1) : Cyc n M (insN r (i + 1) v) := by
  have hlen := insN_len (v := v) (show i + 1 ≤ r.length by omega)
  refine ⟨(insN_perm r (i + 1) v).nodup_iff.2 (List.nodup_cons.2 ⟨hvr, h.nodup⟩), fun x hx => ?_, by omega, fun j hj => ?_⟩
  · rcases List.mem_cons.1 ((insN_perm r (i + 1) v).mem_iff.1 hx) with rfl | hx
    · exact hv
    · exact h.lt x hx
  · rw [hlen] at hj ⊢
    rw [insN_get (by omega), insN_get (by omega)]
    rcases Nat.lt_or_ge j i with a | a
    · rw [Nat.mod_eq_of_lt (by omega), if_pos (by omega), if_pos (by omega)]
      have := h.win j (by omega)
      rwa [Nat.mod_eq_of_lt (by omega)] at this
    · rcases Nat.eq_or_lt_of_le a with e | a
      · subst e
        rw [Nat.mod_eq_of_lt (by omega), if_pos (by omega), if_neg (by omega), if_pos rfl]
        exact h1
      · rcases Nat.eq_or_lt_of_le (Nat.succ_le_of_lt a) with e | a
        · have e : j = i + 1 := by omega
          subst e
          rw [if_neg (by omega), if_pos rfl]
          by_cases hm : i + 1 = r.length
          · rw [hm, Nat.mod_self, if_pos (by omega)]
            rwa [hm, Nat.mod_self] at h2
          · rw [Nat.mod_eq_of_lt (by omega), if_neg (by omega), if_neg (by omega)]
            rwa [Nat.mod_eq_of_lt (by omega)] at h2
        · rw [if_neg (by omega), if_neg (by omega)]
          by_cases hm : j = r.length
          · have := h.win (j - 1) (by omega)
            rw [show j - 1 + 1 = r.length by omega, Nat.mod_self] at this
            rw [hm, Nat.mod_self, if_pos (by omega), ← hm]
            exact this
          · have := h.win (j - 1) (by omega)
            rw [show j - 1 + 1 = j by omega, Nat.mod_eq_of_lt (by omega)] at this
            rw [Nat.mod_eq_of_lt (by omega), if_neg (by omega), if_neg (by omega), show j + 1 - 1 = j by omega]
            exact this
theorem Cyc.app {r : List Nat} (h : Cyc n M r) {v w : Nat} (hv : v < n) (hw : w < n) (hvr : v ∉ r) (hwr : w ∉ r) (hne : v ≠ w) (h1 : M (r.getD (r.length - 1) 0) v = 1) (h2 : M v w = 1) (h3 : M w (r.getD 0 0) = 1) : Cyc n M (r ++ [v, w]) := by
  have hp := h.pos
  refine ⟨?_, ?_, by simp, fun j hj => ?_⟩
  · rw [List.nodup_append]
    refine ⟨h.nodup, by simp [hne], ?_⟩
    intro a ha b hb
    simp only [List.mem_cons, List.not_mem_nil, or_false] at hb
    rcases hb with rfl | rfl
    · exact fun e => hvr (by rw [← e]; exact ha)
    · exact fun e => hwr (by rw [← e]; exact ha)
  · intro x hx
    simp only [List.mem_append, List.mem_cons, List.not_mem_nil, or_false] at hx
    rcases hx with hx | rfl | rfl
    · exact h.lt x hx
    · exact hv
    · exact hw
  · rw [List.length_append] at hj ⊢
    simp only [List.length_cons, List.length_nil] at hj ⊢
    rw [getD_app, getD_app]
    rcases Nat.lt_or_ge (j + 1) r.length with a | a
    · have := h.win j (by omega)
      rw [Nat.mod_eq_of_lt (by omega)] at this
      rw [Nat.mod_eq_of_lt (by omega), if_pos (by omega), if_pos (by omega)]
      exact this
    · rcases Nat.eq_or_lt_of_le a with e | a
      · rw [Nat.mod_eq_of_lt (by omega), if_pos (by omega), if_neg (by omega), show j + 1 - r.length = 0 by omega, show j = r.length - 1 by omega]
        exact h1
      · rcases Nat.eq_or_lt_of_le a with e | a
        · rw [Nat.mod_eq_of_lt (by omega), if_neg (by omega), if_neg (by omega), show j + 1 - r.length = 1 by omega, show j - r.length = 0 by omega]
          exact h2
        · have e : j + 1 = r.length + (0 + 1 + 1) := by omega
          rw [e, Nat.mod_self, if_neg (by omega), if_pos (by omega), show j - r.length = 1 by omega]
          exact h3
/-- where one who is not of the round can't be put in -/
theorem ring_lost (hC : IsC n M) {r : List Nat} (h : Cyc n M r) {v : Nat} (hv : v < n) (hvr : v ∉ r) (hno : ∀ i, i < r.length → ¬ (M (r.getD i 0) v = 1 ∧ M v (r.getD ((i + 1) % r.length) 0) = 1)) (h0 : M (r.getD 0 0) v = 1) : ∀ i, i < r.length → M (r.getD i 0) v = 1 := by
  intro i
  induction i with
  | zero => intro _; exact h0
  | succ i ih =>
    intro hi
    have h1 := ih (by omega)
    have h2 := hno i (by omega)
    rw [Nat.mod_eq_of_lt hi] at h2
    have hm := getD_mem hi
    have := hC.two (h.lt _ hm) hv (fun e => hvr (by rw [← e]; exact hm))
    have h3 : ¬ M v (r.getD (i + 1) 0) = 1 := fun hh => h2 ⟨h1, hh⟩
    omega
theorem ring_won (hC : IsC n M) {r : List Nat} (h : Cyc n M r) {v : Nat} (hv : v < n) (hvr : v ∉ r) (hno : ∀ i, i < r.length → ¬ (M (r.getD i 0) v = 1 ∧ M v (r.getD ((i + 1) % r.length) 0) = 1)) (h0 : ¬ M (r.getD 0 0) v = 1) : ∀ i, i < r.length → M v (r.getD i 0) = 1 := by
  have hp := h.pos
  have hother : ∀ i, i < r.length → ¬ M (r.getD i 0) v = 1 → M v (r.getD i 0) = 1 := by
    intro i hi hn
    have hm := getD_mem hi
    have := hC.two (h.lt _ hm) hv (fun e => hvr (by rw [← e]; exact hm))
    omega
  -- from the last one back
  have hback : ∀ d, d < r.length → M v (r.getD (r.length - 1 - d) 0) = 1 := by
    intro d
    induction d with
    | zero =>
      intro _
      refine hother _ (by omega) fun hh => ?_
      refine hno (r.length - 1) (by omega) ⟨by simpa using hh, ?_⟩
      rw [show r.length - 1 + 1 = r.length by omega, Nat.mod_self]
      exact hother 0 hp h0
    | succ d ih =>
      intro hd
      have h1 := ih (by omega)
      refine hother _ (by omega) fun hh => ?_
      refine hno (r.length - 1 - (d + 1)) (by omega) ⟨hh, ?_⟩
      rw [show r.length - 1 - (d + 1) + 1 = r.length - 1 - d by omega, Nat.mod_eq_of_lt (by omega)]
      exact h1
  intro i hi
  have := hback (r.length - 1 - i) (by omega)
  rwa [show r.length - 1 - (r.length - 1 - i) = i by omega] at this
/-- a round that can't be made longer: some set beats all others -/
theorem stuck_over (hC : IsC n M) {r : List Nat} (h : Cyc n M r) (hlt : r.length < n)
    (hno : ∀ v, v < n → v ∉ r → ∀ i, i < r.length → ¬ (M (r.getD i 0) v = 1 ∧ M v (r.getD ((i + 1) % r.length) 0) = 1))
    (hno2 : ∀ v w, v < n → w < n → v ∉ r → w ∉ r → M (r.getD 0 0) v = 1 → ¬ M (r.getD 0 0) w = 1 → ¬ M v w = 1) : ∃ A, Over n M A := by
  have hp := h.pos
  by_cases hO : ∃ w, w < n ∧ w ∉ r ∧ ¬ M (r.getD 0 0) w = 1
  · refine ⟨(List.range n).filter fun w => decide (w ∉ r ∧ ¬ M (r.getD 0 0) w = 1), List.nodup_range.sublist List.filter_sublist, fun x hx => List.mem_range.1 (List.mem_filter.1 hx).1, ?_, ?_, ?_⟩
    · obtain ⟨w, h1, h2, h3⟩ := hO
      exact List.length_pos_of_mem (List.mem_filter.2 ⟨List.mem_range.2 h1, decide_eq_true ⟨h2, h3⟩⟩)
    · have hr0 : r.getD 0 0 ∈ r := getD_mem hp
      have hle := sub_len (A := r.getD 0 0 :: (List.range n).filter fun w => decide (w ∉ r ∧ ¬ M (r.getD 0 0) w = 1)) (B := List.range n)
        (List.nodup_cons.2 ⟨fun hh => by have := (List.mem_filter.1 hh).2; simp only [decide_eq_true_eq] at this; exact this.1 hr0, List.nodup_range.sublist List.filter_sublist⟩) List.nodup_range
        (fun x hx => by
          rcases List.mem_cons.1 hx with rfl | hx
          · exact List.mem_range.2 (h.lt _ hr0)
          · exact (List.mem_filter.1 hx).1)
      rw [List.length_cons, List.length_range] at hle
      omega
    · intro w hw j hj hjn
      have hw1 := List.mem_range.1 (List.mem_filter.1 hw).1
      have hw2 := (List.mem_filter.1 hw).2
      simp only [decide_eq_true_eq] at hw2
      by_cases hjr : j ∈ r
      · obtain ⟨i, hi, rfl⟩ := getD_of_mem hjr
        exact ring_won hC h hw1 hw2.1 (hno w hw1 hw2.1) hw2.2 i hi
      · have hj1 : M (r.getD 0 0) j = 1 := Classical.byContradiction fun hc => hjn (List.mem_filter.2 ⟨List.mem_range.2 hj, decide_eq_true ⟨hjr, hc⟩⟩)
        have h1 := hno2 j w hj hw1 hjr hw2.1 hj1 hw2.2
        have := hC.two hj hw1 (fun e => hw2.2 (by rw [← e]; exact hj1))
        omega
  · refine ⟨r, h.nodup, h.lt, hp, hlt, fun i hi j hj hjr => ?_⟩
    obtain ⟨k, hk, rfl⟩ := getD_of_mem hi
    have hj1 : M (r.getD 0 0) j = 1 := Classical.byContradiction fun hc => hO ⟨j, hj, hjr, hc⟩
    exact ring_lost hC h hj hjr (hno j hj hjr) hj1 k hk
/-- no three players in a circle: one beats all others -/
theorem no_three (hC : IsC n M) (hn : 2 ≤ n) (hno : ∀ i j k, i < n → j < n → k < n → ¬ M i j + M j k + M k i = 3) : ∃ A, Over n M A := by
  -- one with the greatest score
  have hmax : ∀ m, 0 < m → m ≤ n → ∃ v, v < m ∧ ∀ u, u < m → sc n M u ≤ sc n M v := by
    intro m
    induction m with
    | zero => intro h; omega
    | succ m ih =>
      intro _ hm
      by_cases h0 : m = 0
      · subst h0
        exact ⟨0, by omega, fun u hu => by rw [show u = 0 by omega]; exact Int.le_refl _⟩
      · obtain ⟨v, hv, hv2⟩ := ih (by omega) (by omega)
        by_cases hc : sc n M m ≤ sc n M v
        · exact ⟨v, by omega, fun u hu => by
            by_cases e : u = m
            · subst e; exact hc
            · exact hv2 u (by omega)⟩
        · exact ⟨m, by omega, fun u hu => by
            by_cases e : u = m
            · subst e; omega
            · have := hv2 u (by omega); omega⟩
  obtain ⟨v, hv, hv2⟩ := hmax n (by omega) (Nat.le_refl _)
  refine ⟨[v], by simp, fun x hx => by simp at hx; omega, by simp, by simp; omega, ?_⟩
  intro i hi u hu hui
  simp only [List.mem_singleton] at hi hui
  subst hi
  apply Classical.byContradiction
  intro hc
  have hvu := hC.two hv hu (fun e => hui e.symm)
  have huv : M u i = 1 := by omega
  have hle : ∀ x ∈ List.range n, M i x + (if x = i then 1 else 0) ≤ M u x := by
    intro x hx
    have hx := List.mem_range.1 hx
    by_cases e : x = i
    · subst e
      rw [if_pos rfl, hC.self hv]
      omega
    · rw [if_neg e]
      by_cases e2 : x = u
      · subst e2
        rw [hC.self hu]
        omega
      · have h1 := hno i x u hv hx hu
        have h2 := hC.two hv hx (fun e' => e e'.symm)
        have h3 := hC.two hu hx (fun e' => e2 e'.symm)
        omega
  have h1 := ls_le hle
  rw [ls_add] at h1
  have h2 : ls (List.range n) (fun x => if x = i then 1 else 0) = 1 := by
    have hp := List.perm_cons_erase (List.mem_range.2 hv)
    rw [ls_perm hp, ls_cons, if_pos rfl]
    have : ls ((List.range n).erase i) (fun x => if x = i then (1 : Int) else 0) = ls ((List.range n).erase i) (fun _ => 0) := ls_congr fun x hx => if_neg fun e => by
      subst e
      exact (List.Nodup.not_mem_erase List.nodup_range) hx
    rw [this, ls_const]
    omega
  have := hv2 u hu
  unfold sc at this
  omega
end
end Go.Proofs.Sz
end
/- part Zpg -/
section
/- Contests with given scores: one after the other beats those with the fewest. -/
namespace Go.Proofs.Sz
open Go Go.Ax
theorem ls_upd {L : List Nat} (hL : L.Nodup) {b : Nat} (hb : b ∈ L) (f : Nat → Int) (x : Int) : ls L (fun j => if j = b then x else f j) = ls L f - f b + x := by
  have hp := List.perm_cons_erase hb
  rw [ls_perm hp, ls_perm hp f, ls_cons, ls_cons, if_pos rfl]
  have : ls (L.erase b) (fun j => if j = b then x else f j) = ls (L.erase b) f := ls_congr fun y hy => if_neg fun e => by
    subst e
    exact (List.Nodup.not_mem_erase hL) hy
  rw [this]
  omega
/-- a game turned around -/
def flipG (M : Nat → Nat → Int) (a b : Nat) : Nat → Nat → Int := fun i j => if i = a ∧ j = b then 0 else if i = b ∧ j = a then 1 else M i j
section
variable {n : Nat} {M : Nat → Nat → Int}
theorem flip_isC (h : IsC n M) {a b : Nat} (hne : a ≠ b) : IsC n (flipG M a b) := by
  intro i j hi hj
  have h0 := h i j hi hj
  refine ⟨fun e => ?_, fun e => ?_⟩
  · subst e
    unfold flipG
    rw [if_neg (by omega), if_neg (by omega)]
    exact h0.1 rfl
  · have h1 := h0.2 e
    unfold flipG
    by_cases c1 : i = a ∧ j = b
    · rw [if_pos c1, if_neg (by omega), if_pos (by omega)]; omega
    · by_cases c2 : i = b ∧ j = a
      · rw [if_neg c1, if_pos c2, if_pos (by omega)]; omega
      · rw [if_neg c1, if_neg c2, if_neg (by omega), if_neg (by omega)]; exact h1
theorem flip_sc (h : IsC n M) {a b : Nat} (ha : a < n) (hb : b < n) (hne : a ≠ b) (hab : M a b = 1) {i : Nat} (hi : i < n) : sc n (flipG M a b) i = sc n M i - (if i = a then 1 else 0) + (if i = b then 1 else 0) := by
  unfold sc
  have h2 := h.two ha hb hne
  by_cases c1 : i = a
  · subst c1
    have : ls (List.range n) (flipG M i b i) = ls (List.range n) (fun j => if j = b then 0 else M i j) := ls_congr fun j _ => by
      unfold flipG
      by_cases e : j = b
      · simp [e]
      · rw [if_neg (by omega), if_neg (by omega), if_neg e]
    rw [this, ls_upd List.nodup_range (List.mem_range.2 hb), if_pos rfl, if_neg hne]
    omega
  · by_cases c2 : i = b
    · subst c2
      have : ls (List.range n) (flipG M a i i) = ls (List.range n) (fun j => if j = a then 1 else M i j) := ls_congr fun j _ => by
        unfold flipG
        by_cases e : j = a
        · rw [if_neg (by omega), if_pos ⟨rfl, e⟩, if_pos e]
        · rw [if_neg (by omega), if_neg (by omega), if_neg e]
      rw [this, ls_upd List.nodup_range (List.mem_range.2 ha), if_neg c1, if_pos rfl]
      omega
    · rw [if_neg c1, if_neg c2]
      have : ls (List.range n) (flipG M a b i) = ls (List.range n) (M i) := ls_congr fun j _ => by
        unfold flipG
        rw [if_neg (by omega), if_neg (by omega)]
      rw [this]
      omega
/-- p beats those of F alone, all scores as they were -/
theorem exchange {p : Nat} (hp : p < n) {F : List Nat} (hF : F.Nodup) (hFn : ∀ x ∈ F, x < n ∧ x ≠ p) : ∀ (c : Nat) (T : Nat → Nat → Int), IsC n T → (F.filter fun w => decide (T p w ≠ 1)).length = c → sc n T p = F.length → (∀ w ∈ F, ∀ u, u < n → u ≠ p → u ∉ F → sc n T w ≤ sc n T u) →
    ∃ T', IsC n T' ∧ (∀ i, i < n → sc n T' i = sc n T i) ∧ ∀ x, x < n → x ≠ p → (T' p x = 1 ↔ x ∈ F) := by
  intro c
  induction c with
  | zero =>
    intro T hT hc hs _
    have hall : ∀ w ∈ F, T p w = 1 := by
      intro w hw
      apply Classical.byContradiction
      intro hne
      have := List.length_pos_of_mem (List.mem_filter.2 ⟨hw, decide_eq_true hne⟩ : w ∈ F.filter fun w => decide (T p w ≠ 1))
      omega
    refine ⟨T, hT, fun _ _ => rfl, fun x hx hxp => ⟨fun h1 => ?_, fun h => hall x h⟩⟩
    apply Classical.byContradiction
    intro hxF
    have hsub := ls_perm (f := T p) (split_rest (A := x :: F) (B := List.range n) (List.nodup_cons.2 ⟨hxF, hF⟩) List.nodup_range (fun y hy => by
      rcases List.mem_cons.1 hy with rfl | hy
      · exact List.mem_range.2 hx
      · exact List.mem_range.2 (hFn y hy).1)).choose_spec.1
    rw [ls_append, ls_cons] at hsub
    have h2 : ls F (T p) = ls F (fun _ => 1) := ls_congr fun y hy => hall y hy
    rw [ls_const] at h2
    have h3 := (split_rest (A := x :: F) (B := List.range n) (List.nodup_cons.2 ⟨hxF, hF⟩) List.nodup_range (fun y hy => by
      rcases List.mem_cons.1 hy with rfl | hy
      · exact List.mem_range.2 hx
      · exact List.mem_range.2 (hFn y hy).1)).choose_spec.2.2
    have h4 := ls_nonneg (L := (split_rest (A := x :: F) (B := List.range n) (List.nodup_cons.2 ⟨hxF, hF⟩) List.nodup_range (fun y hy => by
      rcases List.mem_cons.1 hy with rfl | hy
      · exact List.mem_range.2 hx
      · exact List.mem_range.2 (hFn y hy).1)).choose) (f := T p) fun y hy => (hT.bit hp (List.mem_range.1 ((h3 y).1 hy).1)).1
    unfold sc at hs
    omega
  | succ c ih =>
    intro T hT hc hs hord
    -- one of F that p does not beat
    have hw : ∃ w ∈ F, T p w ≠ 1 := by
      have hpos : 0 < (F.filter fun w => decide (T p w ≠ 1)).length := by omega
      obtain ⟨w, hw⟩ := List.exists_mem_of_length_pos hpos
      exact ⟨w, (List.mem_filter.1 hw).1, of_decide_eq_true (List.mem_filter.1 hw).2⟩
    obtain ⟨w, hwF, hw1⟩ := hw
    have hwn := (hFn w hwF).1
    have hwp := (hFn w hwF).2
    have hwp2 := hT.two hp hwn (fun e => hwp e.symm)
    -- one beyond F that p beats
    obtain ⟨R, r1, r2, r3⟩ := split_rest (A := F) (B := List.range n) hF List.nodup_range fun y hy => List.mem_range.2 (hFn y hy).1
    have hu : ∃ u ∈ R, T p u = 1 := by
      apply Classical.byContradiction
      intro hno
      have h1 : ls R (T p) = ls R (fun _ => 0) := ls_congr fun x hx => by
        have hb := hT.bit hp (List.mem_range.1 ((r3 x).1 hx).1)
        have : ¬ T p x = 1 := fun e => hno ⟨x, hx, e⟩
        omega
      rw [ls_const] at h1
      have h2 : ls F (T p) < F.length := by
        have hpm := List.perm_cons_erase hwF
        rw [ls_perm hpm, ls_cons]
        have := ls_le (L := F.erase w) (f := T p) (g := fun _ => 1) fun x hx => (hT.bit hp (hFn x (List.mem_of_mem_erase hx)).1).2
        rw [ls_const, List.length_erase_of_mem hwF] at this
        have := List.length_pos_of_mem hwF
        omega
      unfold sc at hs
      rw [ls_perm r1, ls_append] at hs
      omega
    obtain ⟨u, huR, hu1⟩ := hu
    have hun : u < n := List.mem_range.1 ((r3 u).1 huR).1
    have huF : u ∉ F := ((r3 u).1 huR).2
    have hup : u ≠ p := fun e => by rw [e, hT.self hp] at hu1; omega
    have huw : u ≠ w := fun e => huF (by rw [e]; exact hwF)
    have hup2 := hT.two hp hun (fun e => hup e.symm)
    have hle := hord w hwF u hun hup huF
    -- what is gained by a turn
    have gain : ∀ T', IsC n T' → (∀ i, i < n → sc n T' i = sc n T i) → (∀ x, x ≠ p → T' p x = if x = w then 1 else if x = u then 0 else T p x) →
        ∃ T'', IsC n T'' ∧ (∀ i, i < n → sc n T'' i = sc n T i) ∧ ∀ x, x < n → x ≠ p → (T'' p x = 1 ↔ x ∈ F) := by
      intro T' g1 g2 g3
      have hcnt : (F.filter fun x => decide (T' p x ≠ 1)).length = c := by
        have e1 : (F.filter fun x => decide (T' p x ≠ 1)) = (F.filter fun x => decide (T p x ≠ 1)).erase w := by
          rw [(hF.sublist List.filter_sublist).erase_eq_filter, List.filter_filter]
          apply List.filter_congr
          intro x hx
          have hxp := (hFn x hx).2
          rw [g3 x hxp]
          have hxu : x ≠ u := fun e => huF (by rw [← e]; exact hx)
          by_cases e : x = w
          · subst e; simp
          · rw [if_neg e, if_neg hxu]
            simp [e]
        rw [e1, List.length_erase_of_mem (List.mem_filter.2 ⟨hwF, decide_eq_true hw1⟩), hc]
        rfl
      obtain ⟨T'', k1, k2, k3⟩ := ih T' g1 hcnt (by rw [g2 p hp]; exact hs) (fun a ha b hb hbp hbF => by rw [g2 a (hFn a ha).1, g2 b hb]; exact hord a ha b hb hbp hbF)
      exact ⟨T'', k1, fun i hi => by rw [k2 i hi, g2 i hi], k3⟩
    by_cases huw1 : T u w = 1
    · -- p > u > w > p
      have f1 : IsC n (flipG T p u) := flip_isC hT (fun e => hup e.symm)
      have f2 : IsC n (flipG (flipG T p u) u w) := flip_isC f1 huw
      have f3 : IsC n (flipG (flipG (flipG T p u) u w) w p) := flip_isC f2 hwp
      have v1 : flipG T p u u w = 1 := by
        unfold flipG
        rw [if_neg (by omega), if_neg (by omega)]
        exact huw1
      have v2 : flipG (flipG T p u) u w w p = 1 := by
        unfold flipG
        rw [if_neg (by omega), if_neg (by omega), if_neg (by omega), if_neg (by omega)]
        omega
      refine gain _ f3 (fun i hi => ?_) (fun x hxp => ?_)
      · rw [flip_sc f2 hwn hp hwp v2 hi, flip_sc f1 hun hwn huw v1 hi, flip_sc hT hp hun (fun e => hup e.symm) hu1 hi]
        omega
      · unfold flipG
        by_cases e1 : x = w
        · rw [if_neg (by omega), if_pos (by omega), if_pos e1]
        · by_cases e2 : x = u
          · rw [if_neg (by omega), if_neg (by omega), if_neg (by omega), if_neg (by omega), if_pos (by omega), if_neg e1, if_pos e2]
          · rw [if_neg (by omega), if_neg (by omega), if_neg (by omega), if_neg (by omega), if_neg (by omega), if_neg (by omega), if_neg e1, if_neg e2]
    · have hx : ∃ x, x < n ∧ x ≠ p ∧ x ≠ u ∧ x ≠ w ∧ T u x = 1 ∧ T x w = 1 := by
        apply Classical.byContradiction
        intro hno
        have hwu := hT.two hun hwn huw
        have hle2 : ∀ x ∈ List.range n, T u x + ((if x = u then 1 else 0) + (if x = p then 1 else 0)) ≤ T w x := by
          intro x hx
          have hx := List.mem_range.1 hx
          by_cases e1 : x = u
          · subst e1
            rw [if_pos rfl, if_neg hup, hT.self hun]
            omega
          · by_cases e2 : x = p
            · subst e2
              rw [if_neg e1, if_pos rfl]
              omega
            · rw [if_neg e1, if_neg e2]
              by_cases e3 : x = w
              · subst e3
                rw [hT.self hwn]
                omega
              · have h1 := hT.two hun hx (fun e => e1 e.symm)
                have h2 := hT.two hwn hx (fun e => e3 e.symm)
                have h3 : ¬ (T u x = 1 ∧ T x w = 1) := fun hh => hno ⟨x, hx, e2, e1, e3, hh⟩
                omega
        have h1 := ls_le hle2
        rw [ls_add, ls_add] at h1
        have one : ∀ a, a < n → ls (List.range n) (fun x => if x = a then (1 : Int) else 0) = 1 := by
          intro a ha
          have := ls_upd (L := List.range n) List.nodup_range (List.mem_range.2 ha) (fun _ => 0) 1
          rw [this, ls_const]
          omega
        rw [one u hun, one p hp] at h1
        unfold sc at hle
        omega
      obtain ⟨x, hxn, hxp, hxu, hxw, hux, hxw1⟩ := hx
      -- p > u > x > w > p
      have f1 : IsC n (flipG T p u) := flip_isC hT (fun e => hup e.symm)
      have f2 : IsC n (flipG (flipG T p u) u x) := flip_isC f1 (fun e => hxu e.symm)
      have f3 : IsC n (flipG (flipG (flipG T p u) u x) x w) := flip_isC f2 hxw
      have f4 : IsC n (flipG (flipG (flipG (flipG T p u) u x) x w) w p) := flip_isC f3 hwp
      have v1 : flipG T p u u x = 1 := by
        unfold flipG
        rw [if_neg (by omega), if_neg (by omega)]
        exact hux
      have v2 : flipG (flipG T p u) u x x w = 1 := by
        unfold flipG
        rw [if_neg (by omega), if_neg (by omega), if_neg (by omega), if_neg (by omega)]
        exact hxw1
      have v3 : flipG (flipG (flipG T p u) u x) x w w p = 1 := by
        unfold flipG
        rw [if_neg (by omega), if_neg (by omega), if_neg (by omega), if_neg (by omega), if_neg (by omega), if_neg (by omega)]
        omega
      refine gain _ f4 (fun i hi => ?_) (fun y hyp => ?_)
      · rw [flip_sc f3 hwn hp hwp v3 hi, flip_sc f2 hxn hwn hxw v2 hi, flip_sc f1 hun hxn (fun e => hxu e.symm) v1 hi, flip_sc hT hp hun (fun e => hup e.symm) hu1 hi]
        omega
      · unfold flipG
        by_cases e1 : y = w
        · rw [if_neg (by omega), if_pos (by omega), if_pos e1]
        · by_cases e2 : y = u
          · rw [if_neg (by omega), if_neg (by omega), if_neg (by omega), if_neg (by omega), if_neg (by omega), if_neg (by omega), if_pos (by omega), if_neg e1, if_pos e2]
          · rw [if_neg (by omega), if_neg (by omega), if_neg (by omega), if_neg (by omega), if_neg (by omega), if_neg (by omega), if_neg (by omega), if_neg (by omega), if_neg e1, if_neg e2]
end
end Go.Proofs.Sz
end
/- part Zph -/
section
/- Contests with given scores: the stages. -/
namespace Go.Proofs.Sz
open Go Go.Ax
/-- the games of one player, as far as the first q -/
def gM (M : Nat → Nat → Int) (p : Nat) (d : Int) (at' : List Nat) : Nat → (Nat → Nat → Int)
  | 0 => M
  | q + 1 => if (q : Int) < d then setM (gM M p d at' q) p (at'.getD q 0) 1 else setM (gM M p d at' q) (at'.getD q 0) p 1
def gL (ys : List Int) (d : Int) (at' : List Nat) : Nat → List Int
  | 0 => ys
  | q + 1 => if (q : Int) < d then gL ys d at' q else (gL ys d at' q).set (at'.getD q 0) ((gL ys d at' q).getD (at'.getD q 0) 0 - 1)
theorem gL_len (ys : List Int) (d : Int) (at' : List Nat) (q : Nat) : (gL ys d at' q).length = ys.length := by
  induction q with
  | zero => rfl
  | succ q ih =>
    unfold gL
    split
    · exact ih
    · rw [List.length_set, ih]
theorem take_one {at' : List Nat} {q : Nat} (h : q < at'.length) : at'.take (q + 1) = at'.take q ++ [at'.getD q 0] := by
  rw [List.take_succ_eq_append_getElem h, List.getD_eq_getElem?_getD, List.getElem?_eq_getElem h]
  rfl
theorem drop_take_one {at' : List Nat} {q D : Nat} (h : q < at'.length) (hD : D ≤ q) : (at'.take (q + 1)).drop D = (at'.take q).drop D ++ [at'.getD q 0] := by
  rw [take_one h, List.drop_append_of_le_length (by rw [List.length_take]; omega)]
theorem gM_eq {M : Nat → Nat → Int} {p D : Nat} {at' : List Nat} : ∀ q, q ≤ at'.length → ∀ i j, gM M p D at' q i j = if i = p ∧ j ∈ at'.take (min q D) then 1 else if j = p ∧ i ∈ (at'.take q).drop D then 1 else M i j := by
  intro q
  induction q with
  | zero => intro _ i j; simp [gM]
  | succ q ih =>
    intro hq i j
    have ih := ih (by omega) i j
    unfold gM
    by_cases h : q < D
    · rw [if_pos (by omega)]
      unfold setM
      rw [ih]
      have e1 : min (q + 1) D = q + 1 := by omega
      have e2 : min q D = q := by omega
      have e3 : (at'.take (q + 1)).drop D = [] := List.drop_eq_nil_of_le (by rw [List.length_take]; omega)
      have e4 : (at'.take q).drop D = [] := List.drop_eq_nil_of_le (by rw [List.length_take]; omega)
      rw [e1, e2, e3, e4, take_one hq]
      simp only [List.mem_append, List.mem_singleton, List.not_mem_nil, and_false, if_false]
      by_cases c1 : i = p
      · by_cases c2 : j = at'.getD q 0
        · rw [if_pos ⟨c1, c2⟩, if_pos ⟨c1, .inr c2⟩]
        · rw [if_neg (fun hh => c2 hh.2)]
          by_cases c3 : j ∈ at'.take q
          · rw [if_pos ⟨c1, c3⟩, if_pos ⟨c1, .inl c3⟩]
          · rw [if_neg (fun hh => c3 hh.2), if_neg (fun hh => hh.2.elim c3 c2)]
      · rw [if_neg (fun hh => c1 hh.1), if_neg (fun hh => c1 hh.1), if_neg (fun hh => c1 hh.1)]
    · rw [if_neg (by omega)]
      unfold setM
      rw [ih]
      have e1 : min (q + 1) D = D := by omega
      have e2 : min q D = D := by omega
      rw [e1, e2, drop_take_one hq (by omega)]
      simp only [List.mem_append, List.mem_singleton]
      by_cases c0 : i = p ∧ j ∈ at'.take D
      · rw [if_pos c0, if_pos c0]
        split <;> rfl
      · rw [if_neg c0, if_neg c0]
        by_cases c1 : j = p
        · by_cases c2 : i = at'.getD q 0
          · rw [if_pos ⟨c2, c1⟩, if_pos ⟨c1, .inr c2⟩]
          · rw [if_neg (fun hh => c2 hh.1)]
            by_cases c3 : i ∈ (at'.take q).drop D
            · rw [if_pos ⟨c1, c3⟩, if_pos ⟨c1, .inl c3⟩]
            · rw [if_neg (fun hh => c3 hh.2), if_neg (fun hh => hh.2.elim c3 c2)]
        · rw [if_neg (fun hh => c1 hh.2), if_neg (fun hh => c1 hh.1), if_neg (fun hh => c1 hh.1)]
theorem gL_eq {ys : List Int} {D : Nat} {at' : List Nat} (hnd : at'.Nodup) (hlt : ∀ x ∈ at', x < ys.length) : ∀ q, q ≤ at'.length → ∀ i, (gL ys D at' q).getD i 0 = ys.getD i 0 - if i ∈ (at'.take q).drop D then 1 else 0 := by
  intro q
  induction q with
  | zero => intro _ i; simp [gL]
  | succ q ih =>
    intro hq i
    have ih := ih (by omega)
    unfold gL
    by_cases h : q < D
    · rw [if_pos (by omega), ih]
      have e3 : (at'.take (q + 1)).drop D = [] := List.drop_eq_nil_of_le (by rw [List.length_take]; omega)
      have e4 : (at'.take q).drop D = [] := List.drop_eq_nil_of_le (by rw [List.length_take]; omega)
      rw [e3, e4]
    · rw [if_neg (by omega), drop_take_one hq (by omega)]
      have hx : at'.getD q 0 ∈ at' := by
        rw [List.getD_eq_getElem?_getD, List.getElem?_eq_getElem hq]
        exact List.getElem_mem hq
      have hxl := hlt _ hx
      have hnew : at'.getD q 0 ∉ (at'.take q).drop D := by
        intro hh
        have h1 := List.mem_of_mem_drop hh
        have h2 : (at'.take q ++ [at'.getD q 0]).Nodup := by rw [← take_one hq]; exact hnd.sublist (List.take_sublist _ _)
        rw [List.nodup_append] at h2
        exact h2.2.2 _ h1 _ (by simp) rfl
      rw [List.getD_eq_getElem?_getD, List.getElem?_set]
      by_cases e : at'.getD q 0 = i
      · rw [if_pos e, if_pos (by rw [gL_len]; omega), Option.getD_some, ih, e, if_neg (by rw [← e]; exact hnew), if_pos (by simp)]
        omega
      · rw [if_neg e, ← List.getD_eq_getElem?_getD, ih]
        congr 1
        simp only [List.mem_append, List.mem_singleton]
        by_cases c : i ∈ (at'.take q).drop D
        · rw [if_pos c, if_pos (.inl c)]
        · rw [if_neg c, if_neg (fun hh => hh.elim c fun h => e h.symm)]
/-- m players are left, with what is left of their scores -/
structure Stage (n m : Nat) (s : Nat → Int) (out : Nat → Nat → Int) (left : Nat → Int) : Prop where
  le : m ≤ n
  rest : ∃ T, IsC m T ∧ ∀ i, i < m → left i = sc m T i
  free : ∀ i j, i < m → j < m → out i j = 0
  self : ∀ i, i < n → out i i = 0
  done : ∀ i j, i < n → j < n → i ≠ j → ¬ (i < m ∧ j < m) → (out i j = 0 ∨ out i j = 1) ∧ out i j + out j i = 1
  sum : ∀ i, i < n → (if i < m then left i else 0) + sc n out i = s i
theorem Stage.init {n : Nat} {M : Nat → Nat → Int} (h : IsC n M) : Stage n n (sc n M) (fun _ _ => 0) (sc n M) where
  le := Nat.le_refl _
  rest := ⟨M, h, fun _ _ => rfl⟩
  free := fun _ _ _ _ => rfl
  self := fun _ _ => rfl
  done := fun i j hi hj _ hn => absurd ⟨hi, hj⟩ hn
  sum := fun i hi => by
    rw [if_pos hi]
    have : sc n (fun _ _ => 0) i = 0 := by
      unfold sc
      have := ls_const (List.range n) 0
      rw [this]
      simp
    omega
theorem Stage.fin {n : Nat} {s : Nat → Int} {out : Nat → Nat → Int} {left : Nat → Int} (h : Stage n 0 s out left) : IsC n out ∧ ∀ i, i < n → sc n out i = s i := by
  refine ⟨fun i j hi hj => ⟨fun e => by subst e; exact h.self i hi, fun e => h.done i j hi hj e (by omega)⟩, fun i hi => ?_⟩
  have := h.sum i hi
  rw [if_neg (by omega)] at this
  omega
/-- what is left of one's score -/
theorem Stage.bnd {n p : Nat} {s : Nat → Int} {out : Nat → Nat → Int} {left : Nat → Int} (h : Stage n (p + 1) s out left) {i : Nat} (hi : i < p + 1) : 0 ≤ left i ∧ left i ≤ p := by
  obtain ⟨T, hT, hl⟩ := h.rest
  rw [hl i hi]
  have h1 := sc_bnd hT hi
  refine ⟨h1.1, ?_⟩
  have hp := List.perm_cons_erase (List.mem_range.2 hi)
  unfold sc
  rw [ls_perm hp, ls_cons, hT.self hi]
  have := ls_le (L := (List.range (p + 1)).erase i) (f := T i) (g := fun _ => 1) fun x hx => (hT.bit hi (List.mem_range.1 (List.mem_of_mem_erase hx))).2
  rw [ls_const, List.length_erase_of_mem (List.mem_range.2 hi), List.length_range] at this
  omega
theorem Stage.step {n p : Nat} {s : Nat → Int} {out : Nat → Nat → Int} {ys : List Int} (h : Stage n (p + 1) s out (fun i => ys.getD i 0)) (hyl : ys.length = n) {at' : List Nat} (hp : at'.Perm (List.range p)) (hs : at'.Pairwise (fun x y => ys.getD x 0 ≤ ys.getD y 0)) {D : Nat} (hD : ys.getD p 0 = D) :
    Stage n p s (gM out p D at' p) (fun i => (gL ys D at' p).getD i 0) := by
  have hpn := h.le
  have hal : at'.length = p := by rw [hp.length_eq, List.length_range]
  have hnd : at'.Nodup := hp.nodup_iff.2 List.nodup_range
  have hmem : ∀ x, x ∈ at' ↔ x < p := fun x => by rw [hp.mem_iff, List.mem_range]
  have hDp : D ≤ p := by have := (h.bnd (Nat.lt_succ_self p)).2; omega
  obtain ⟨T, hT, hl⟩ := h.rest
  have hF : (at'.take D).Nodup := hnd.sublist (List.take_sublist _ _)
  have hFl : (at'.take D).length = D := by rw [List.length_take]; omega
  have hFn : ∀ x ∈ at'.take D, x < p + 1 ∧ x ≠ p := fun x hx => by have := (hmem x).1 (List.mem_of_mem_take hx); omega
  have hcut : ∀ x, x < p → x ∉ at'.take D → x ∈ at'.drop D := fun x hx hn => by
    have := (hmem x).2 hx
    rw [← List.take_append_drop D at'] at this
    exact (List.mem_append.1 this).resolve_left hn
  have hnot : ∀ x, x ∈ at'.drop D → x ∉ at'.take D := fun x hx ht => by
    rw [← List.take_append_drop D at', List.nodup_append] at hnd
    exact hnd.2.2 x ht x hx rfl
  have hsF := hs
  rw [← List.take_append_drop D at', List.pairwise_append] at hsF
  obtain ⟨T', g1, g2, g3⟩ := exchange (Nat.lt_succ_self p) hF hFn _ T hT rfl (by rw [← hl p (by omega), hFl]; exact hD) (fun w hw u hu hup huF => by
    rw [← hl w (hFn w hw).1, ← hl u hu]
    exact hsF.2.2 w hw u (hcut u (by omega) huF))
  -- F in closed form
  have hM : ∀ i j, gM out p D at' p i j = if i = p ∧ j ∈ at'.take D then 1 else if j = p ∧ i ∈ at'.drop D then 1 else out i j := by
    intro i j
    rw [gM_eq p (by omega), Nat.min_eq_right hDp, List.take_of_length_le (show at'.length ≤ p by omega)]
  have hL : ∀ i, (gL ys D at' p).getD i 0 = ys.getD i 0 - if i ∈ at'.drop D then 1 else 0 := by
    intro i
    rw [gL_eq hnd (fun x hx => by have := (hmem x).1 hx; omega) p (by omega), List.take_of_length_le (show at'.length ≤ p by omega)]
  have hTp : ∀ i, i < p → T' i p = if i ∈ at'.drop D then 1 else 0 := by
    intro i hi
    have h1 := g3 i (by omega) (by omega)
    have h2 := g1.two (Nat.lt_succ_self p) (show i < p + 1 by omega) (by omega)
    by_cases c : i ∈ at'.drop D
    · rw [if_pos c]
      have : ¬ T' p i = 1 := fun e => hnot i c (h1.1 e)
      omega
    · rw [if_neg c]
      have : T' p i = 1 := h1.2 (Classical.byContradiction fun hn => c (hcut i hi hn))
      omega
  have hrange : ∀ f : Nat → Int, ls (List.range (p + 1)) f = ls (List.range p) f + f p := fun f => by
    rw [List.range_succ, ls_append, ls_cons, ls_nil]; omega
  refine ⟨by omega, ⟨T', g1.mono (by omega), fun i hi => ?_⟩, fun i j hi hj => ?_, fun i hi => ?_, fun i j hi hj hne hnn => ?_, fun i hi => ?_⟩
  · show (gL ys D at' p).getD i 0 = _
    rw [hL]
    have h1 := g2 i (show i < p + 1 by omega)
    rw [← hl i (by omega)] at h1
    unfold sc at h1 ⊢
    rw [hrange, hTp i hi] at h1
    omega
  · rw [hM, if_neg (by omega), if_neg (by omega)]
    exact h.free i j (by omega) (by omega)
  · rw [hM]
    by_cases e : i = p
    · subst e
      rw [if_neg (fun hh => by have := (hmem i).1 (List.mem_of_mem_take hh.2); omega), if_neg (fun hh => by have := (hmem i).1 (List.mem_of_mem_drop hh.2); omega)]
      exact h.self i hi
    · rw [if_neg (fun hh => e hh.1), if_neg (fun hh => e hh.1)]
      exact h.self i hi
  · rw [hM, hM]
    by_cases c1 : i = p
    · subst c1
      by_cases c2 : j < i
      · have f1 := h.free i j (by omega) (by omega)
        have f2 := h.free j i (by omega) (by omega)
        by_cases c3 : j ∈ at'.take D
        · rw [if_pos ⟨rfl, c3⟩, if_neg (fun hh => hne hh.1.symm), if_neg (fun hh => hnot j hh.2 c3)]
          omega
        · rw [if_neg (fun hh => c3 hh.2), if_neg (fun hh => hne hh.1.symm), if_neg (fun hh => hne hh.1.symm), if_pos ⟨rfl, hcut j c2 c3⟩]
          omega
      · have := h.done i j hi hj hne (by omega)
        rw [if_neg (fun hh => by have := (hmem j).1 (List.mem_of_mem_take hh.2); omega), if_neg (fun hh => hne hh.1.symm), if_neg (fun hh => hne hh.1.symm), if_neg (fun hh => by have := (hmem j).1 (List.mem_of_mem_drop hh.2); omega)]
        exact this
    · by_cases c1' : j = p
      · subst c1'
        by_cases c2 : i < j
        · have f1 := h.free i j (by omega) (by omega)
          have f2 := h.free j i (by omega) (by omega)
          by_cases c3 : i ∈ at'.take D
          · rw [if_neg (fun hh => c1 hh.1), if_neg (fun hh => hnot i hh.2 c3), if_pos ⟨rfl, c3⟩]
            omega
          · rw [if_neg (fun hh => c1 hh.1), if_pos ⟨rfl, hcut i c2 c3⟩, if_neg (fun hh => c3 hh.2), if_neg (fun hh => c1 hh.1)]
            omega
        · have := h.done i j hi hj hne (by omega)
          rw [if_neg (fun hh => c1 hh.1), if_neg (fun hh => by have := (hmem i).1 (List.mem_of_mem_drop hh.2); omega), if_neg (fun hh => by have := (hmem i).1 (List.mem_of_mem_take hh.2); omega), if_neg (fun hh => c1 hh.1)]
          exact this
      · rw [if_neg (fun hh => c1 hh.1), if_neg (fun hh => c1' hh.1), if_neg (fun hh => c1' hh.1), if_neg (fun hh => c1 hh.1)]
        exact h.done i j hi hj hne (by omega)
  · have hsum := h.sum i hi
    show (if i < p then (gL ys D at' p).getD i 0 else 0) + _ = _
    by_cases c1 : i = p
    · subst c1
      rw [if_pos (by omega)] at hsum
      rw [if_neg (by omega)]
      have e1 : sc n (gM out i D at' i) i = sc n out i + D := by
        unfold sc
        have hsub : ls (List.range n) (gM out i D at' i i) = ls (List.range n) (fun j => out i j + if j ∈ at'.take D then 1 else 0) := ls_congr fun j hj => by
          rw [hM]
          by_cases c3 : j ∈ at'.take D
          · rw [if_pos ⟨rfl, c3⟩, if_pos c3, h.free i j (by omega) (by have := (hmem j).1 (List.mem_of_mem_take c3); omega)]
            rfl
          · rw [if_neg (fun hh => c3 hh.2), if_neg c3]
            rw [if_neg (fun hh => by obtain ⟨rfl, hh⟩ := hh; have := (hmem j).1 (List.mem_of_mem_drop hh); omega)]
            omega
        rw [hsub, ls_add]
        congr 1
        obtain ⟨R, r1, _, r3⟩ := split_rest (A := at'.take D) (B := List.range n) hF List.nodup_range fun x hx => List.mem_range.2 (by have := (hmem x).1 (List.mem_of_mem_take hx); omega)
        rw [ls_perm r1, ls_append]
        have q1 : ls (at'.take D) (fun j => if j ∈ at'.take D then (1 : Int) else 0) = ls (at'.take D) (fun _ => 1) := ls_congr fun j hj => if_pos hj
        have q2 : ls R (fun j => if j ∈ at'.take D then (1 : Int) else 0) = ls R (fun _ => 0) := ls_congr fun j hj => if_neg ((r3 j).1 hj).2
        rw [q1, q2, ls_const, ls_const, hFl]
        omega
      have hD' : (fun i => ys.getD i 0) i = (D : Int) := hD
      omega
    · by_cases c2 : i < p
      · rw [if_pos (by omega)] at hsum
        rw [if_pos c2, hL]
        have e1 : sc n (gM out p D at' p) i = sc n out i + (if i ∈ at'.drop D then 1 else 0) := by
          unfold sc
          have hsub : ls (List.range n) (gM out p D at' p i) = ls (List.range n) (fun j => if j = p then (out i p + if i ∈ at'.drop D then 1 else 0) else out i j) := ls_congr fun j hj => by
            rw [hM, if_neg (fun hh => c1 hh.1)]
            by_cases c3 : j = p
            · subst c3
              rw [if_pos rfl]
              by_cases c4 : i ∈ at'.drop D
              · rw [if_pos ⟨rfl, c4⟩, if_pos c4, h.free i j (by omega) (by omega)]
                rfl
              · rw [if_neg (fun hh => c4 hh.2), if_neg c4]
                omega
            · rw [if_neg (fun hh => c3 hh.1), if_neg c3]
          rw [hsub, ls_upd List.nodup_range (List.mem_range.2 (by omega))]
          omega
        omega
      · rw [if_neg (by omega)] at hsum
        rw [if_neg c2]
        have e1 : sc n (gM out p D at' p) i = sc n out i := by
          unfold sc
          refine ls_congr fun j hj => ?_
          rw [hM, if_neg (fun hh => c1 hh.1), if_neg (fun hh => by have := (hmem i).1 (List.mem_of_mem_drop hh.2); omega)]
        omega
end Go.Proofs.Sz
end
/- part Zkb -/
section
namespace Go.Proofs.Sz
open Go Go.Ax Go.Proofs Go.RowKit
set_option maxHeartbeats 4000000 in
/-- SortStableFunc by a key, of 20 or fewer -/
theorem stableKey_call {S : St} (hok : S.ok) {b : Nat} {va : Value} {xs : List Int} (hx : RowW S b va xs) (hl : xs.length ≤ 20) {g : FuncId} {cs : List Value} {K : Int → Int}
    (hcmp : ∀ S', (S'.ok ∧ S'.n = S.n ∧ S'.mono = S.mono ∧ ∀ j, j ≠ b → S'.get j = S.get j) → ∀ x y, x ∈ xs → y ∈ xs → CallW PP g ([.int .i64 x, .int .i64 y] ++ cs) S' (fun v S3 => v = .int .i64 (cmpI (K x) (K y)) ∧ S3 = S')) :
    CallW PP 51 [va, .func (.func g) #[] cs.toArray] S (fun v S' => v = .tuple #[] ∧ (∃ ys : List Int, ys.Perm xs ∧ Ord K ys ys.length ∧ RowW S' b va ys) ∧ S'.ok ∧ S'.n = S.n ∧ S'.mono = S.mono ∧ ∀ j, j ≠ b → S'.get j = S.get j) := by
  have h71 : CallW PP 71 [va, .int .i64 xs.length, .func (.func g) #[] cs.toArray] S (fun v S' => v = .tuple #[] ∧ (∃ ys : List Int, ys.Perm xs ∧ Ord K ys ys.length ∧ RowW S' b va ys) ∧ S'.ok ∧ S'.n = S.n ∧ S'.mono = S.mono ∧ ∀ j, j ≠ b → S'.get j = S.get j) := by
    refine CallW_of hTT fn71 rfl (by simp [Tryz.f71]) ?_
    unfold Tryz.f71
    have e2 : decide ((20 : Int) < xs.length) = false := decide_eq_false (by omega)
    have hw40 : IntKind.i64.wrap (20 + 20) = 40 := rfl
    repeat (first | with_reducible (first | refine W_seq ?_ | refine W_scope ?_ | refine W_regionV hTT ?_ | refine W_condV ?_ | refine W_ret ?_ | refine W_exit ?_ | refine W_skip ?_ | refine W_label ?_ | refine W_drawV hTT (by kernel_rfl) ?_) | simp only [H0, J86, J87, und3, und4, und22, und26, und29, und45, und64, info3, info4, info22, info26, info29, info45, info64, info50, und50, aggT, gv, dstAt, aop, evalsA, partsA, evalO, updO, ofArgs, binV, intBin, unV, mmV, builtinA, Nat.reduceLT, Nat.reduceEqDiff, Nat.reduceAdd, Nat.reduceSub, Nat.reduceMul, ↓reduceIte, reduceCtorEq])
    refine W_block ?_
    refine W_loopI (fun m τ ds S' => ds = [] ∧ τ 0 = va ∧ τ 1 = .int .i64 xs.length ∧ τ 2 = .func (.func g) #[] cs.toArray ∧ τ 6 = .int .i64 20 ∧
      ((m = 1 ∧ S' = S ∧ τ 7 = .int .i64 (0 : Nat) ∧ τ 8 = .int .i64 20) ∨ (m = 0 ∧ xs.length = 20 ∧ τ 7 = .int .i64 xs.length ∧ τ 8 = .int .i64 40 ∧ (∃ ys : List Int, ys.Perm xs ∧ Ord K ys ys.length ∧ RowW S' b va ys) ∧ S'.ok ∧ S'.n = S.n ∧ S'.mono = S.mono ∧ ∀ j, j ≠ b → S'.get j = S.get j))) 1 ?_ ?_
    · refine ⟨rfl, ?_, ?_, ?_, ?_, .inl ⟨rfl, rfl, ?_, ?_⟩⟩ <;> first | rfl | simp only [H0, J86, J87, und3, und4, und22, und26, und29, und45, und64, info3, info4, info22, info26, info29, info45, info64, info50, und50, aggT, gv, dstAt, aop, evalsA, partsA, evalO, updO, ofArgs, binV, intBin, unV, mmV, builtinA, Nat.reduceLT, Nat.reduceEqDiff, Nat.reduceAdd, Nat.reduceSub, Nat.reduceMul, ↓reduceIte, reduceCtorEq]
    · rintro m τ ds S' ⟨rfl, t0, t1, t2, t6, ⟨rfl, rfl, t7, t8⟩ | ⟨rfl, hn20, t7, t8, ⟨ys, hp, hO, hR⟩, h1, h2, h3, h4⟩⟩
      · by_cases hn : xs.length = 20
        · have e1 : decide ((20 : Int) ≤ xs.length) = true := decide_eq_true (by omega)
          repeat (first | with_reducible (first | refine W_seq ?_ | refine W_block ?_ | refine W_scope ?_ | refine W_regionV hTT ?_ | refine W_condV ?_ | refine W_ret ?_ | refine W_exit ?_ | refine W_skip ?_ | refine W_label ?_ | refine W_drawV hTT (by kernel_rfl) ?_) | simp only [H0, J86, J87, und3, und4, und22, und26, und29, und45, und64, info3, info4, info22, info26, info29, info45, info64, info50, und50, aggT, gv, dstAt, aop, evalsA, partsA, evalO, updO, ofArgs, binV, intBin, unV, mmV, builtinA, Nat.reduceLT, Nat.reduceEqDiff, Nat.reduceAdd, Nat.reduceSub, Nat.reduceMul, ↓reduceIte, reduceCtorEq, t0, t1, t2, t6, t7, t8, e1])
          have hins := insKey_call hok hx (by omega) (g := g) (cs := cs) (K := K) (a0 := 0) (.inl rfl) hcmp
          rw [show ((xs.length : Nat) : Int) = 20 by omega] at hins
          refine VCall_intro hins ?_
          rintro v S2 ⟨rfl, ⟨ys, hp, hO, _, hR⟩, h1, h2, h3, h4⟩
          repeat (first | with_reducible (first | refine W_seq ?_ | refine W_block ?_ | refine W_scope ?_ | refine W_regionV hTT ?_ | refine W_condV ?_ | refine W_ret ?_ | refine W_exit ?_ | refine W_skip ?_ | refine W_label ?_ | refine W_drawV hTT (by kernel_rfl) ?_) | simp only [H0, J86, J87, und3, und4, und22, und26, und29, und45, und64, info3, info4, info22, info26, info29, info45, info64, info50, und50, aggT, gv, dstAt, aop, evalsA, partsA, evalO, updO, ofArgs, binV, intBin, unV, mmV, builtinA, Nat.reduceLT, Nat.reduceEqDiff, Nat.reduceAdd, Nat.reduceSub, Nat.reduceMul, ↓reduceIte, reduceCtorEq, t0, t1, t2, t6, t7, t8, hw40])
          refine LoopQ_intro 0 (by omega) ⟨rfl, by simp only [H0, J86, J87, und3, und4, und22, und26, und29, und45, und64, info3, info4, info22, info26, info29, info45, info64, info50, und50, aggT, gv, dstAt, aop, evalsA, partsA, evalO, updO, ofArgs, binV, intBin, unV, mmV, builtinA, Nat.reduceLT, Nat.reduceEqDiff, Nat.reduceAdd, Nat.reduceSub, Nat.reduceMul, ↓reduceIte, reduceCtorEq, t0], by simp only [H0, J86, J87, und3, und4, und22, und26, und29, und45, und64, info3, info4, info22, info26, info29, info45, info64, info50, und50, aggT, gv, dstAt, aop, evalsA, partsA, evalO, updO, ofArgs, binV, intBin, unV, mmV, builtinA, Nat.reduceLT, Nat.reduceEqDiff, Nat.reduceAdd, Nat.reduceSub, Nat.reduceMul, ↓reduceIte, reduceCtorEq, t1], by simp only [H0, J86, J87, und3, und4, und22, und26, und29, und45, und64, info3, info4, info22, info26, info29, info45, info64, info50, und50, aggT, gv, dstAt, aop, evalsA, partsA, evalO, updO, ofArgs, binV, intBin, unV, mmV, builtinA, Nat.reduceLT, Nat.reduceEqDiff, Nat.reduceAdd, Nat.reduceSub, Nat.reduceMul, ↓reduceIte, reduceCtorEq, t2], by simp only [H0, J86, J87, und3, und4, und22, und26, und29, und45, und64, info3, info4, info22, info26, info29, info45, info64, info50, und50, aggT, gv, dstAt, aop, evalsA, partsA, evalO, updO, ofArgs, binV, intBin, unV, mmV, builtinA, Nat.reduceLT, Nat.reduceEqDiff, Nat.reduceAdd, Nat.reduceSub, Nat.reduceMul, ↓reduceIte, reduceCtorEq, t6], .inr ⟨rfl, hn, ?_, by simp only [H0, J86, J87, und3, und4, und22, und26, und29, und45, und64, info3, info4, info22, info26, info29, info45, info64, info50, und50, aggT, gv, dstAt, aop, evalsA, partsA, evalO, updO, ofArgs, binV, intBin, unV, mmV, builtinA, Nat.reduceLT, Nat.reduceEqDiff, Nat.reduceAdd, Nat.reduceSub, Nat.reduceMul, ↓reduceIte, reduceCtorEq, t8, hw40], ⟨ys, hp, hO rfl, hR⟩, h1, h2, h3, h4⟩⟩
          rw [show ((xs.length : Nat) : Int) = 20 by omega]
          simp only [H0, J86, J87, und3, und4, und22, und26, und29, und45, und64, info3, info4, info22, info26, info29, info45, info64, info50, und50, aggT, gv, dstAt, aop, evalsA, partsA, evalO, updO, ofArgs, binV, intBin, unV, mmV, builtinA, Nat.reduceLT, Nat.reduceEqDiff, Nat.reduceAdd, Nat.reduceSub, Nat.reduceMul, ↓reduceIte, reduceCtorEq, t8]
        · have e1 : decide ((20 : Int) ≤ xs.length) = false := decide_eq_false (by omega)
          repeat (first | with_reducible (first | refine W_seq ?_ | refine W_block ?_ | refine W_scope ?_ | refine W_regionV hTT ?_ | refine W_condV ?_ | refine W_ret ?_ | refine W_exit ?_ | refine W_skip ?_ | refine W_label ?_ | refine W_drawV hTT (by kernel_rfl) ?_) | simp only [H0, J86, J87, und3, und4, und22, und26, und29, und45, und64, info3, info4, info22, info26, info29, info45, info64, info50, und50, aggT, gv, dstAt, aop, evalsA, partsA, evalO, updO, ofArgs, binV, intBin, unV, mmV, builtinA, Nat.reduceLT, Nat.reduceEqDiff, Nat.reduceAdd, Nat.reduceSub, Nat.reduceMul, ↓reduceIte, reduceCtorEq, t0, t1, t2, t6, t7, t8, e1])
          refine VCall_intro (insKey_call hok hx (by omega) (a0 := 0) (.inl rfl) hcmp) ?_
          rintro v S2 ⟨rfl, ⟨ys, hp, hO, _, hR⟩, h2⟩
          repeat (first | with_reducible (first | refine W_seq ?_ | refine W_scope ?_ | refine W_regionV hTT ?_ | refine W_condV ?_ | refine W_ret ?_ | refine W_exit ?_ | refine W_skip ?_ | refine W_label ?_ | refine W_drawV hTT (by kernel_rfl) ?_) | simp only [H0, J86, J87, und3, und4, und22, und26, und29, und45, und64, info3, info4, info22, info26, info29, info45, info64, info50, und50, aggT, gv, dstAt, aop, evalsA, partsA, evalO, updO, ofArgs, binV, intBin, unV, mmV, builtinA, Nat.reduceLT, Nat.reduceEqDiff, Nat.reduceAdd, Nat.reduceSub, Nat.reduceMul, ↓reduceIte, reduceCtorEq, t0, t1, t2, t6, t7, t8])
          refine W_block ?_
          refine W_loopI (fun m τ ds S' => S' = S2 ∧ ds = [] ∧ τ 1 = .int .i64 xs.length ∧ τ 6 = .int .i64 20) 0 ?_ ?_
          · refine ⟨rfl, rfl, ?_, ?_⟩ <;> first | rfl | simp only [H0, J86, J87, und3, und4, und22, und26, und29, und45, und64, info3, info4, info22, info26, info29, info45, info64, info50, und50, aggT, gv, dstAt, aop, evalsA, partsA, evalO, updO, ofArgs, binV, intBin, unV, mmV, builtinA, Nat.reduceLT, Nat.reduceEqDiff, Nat.reduceAdd, Nat.reduceSub, Nat.reduceMul, ↓reduceIte, reduceCtorEq, t1, t6]
          · rintro m τ ds S3 ⟨rfl, rfl, t1, t6⟩
            repeat (first | with_reducible (first | refine W_seq ?_ | refine W_block ?_ | refine W_scope ?_ | refine W_regionV hTT ?_ | refine W_condV ?_ | refine W_ret ?_ | refine W_exit ?_ | refine W_skip ?_ | refine W_label ?_ | refine W_drawV hTT (by kernel_rfl) ?_) | simp only [H0, J86, J87, und3, und4, und22, und26, und29, und45, und64, info3, info4, info22, info26, info29, info45, info64, info50, und50, aggT, gv, dstAt, aop, evalsA, partsA, evalO, updO, ofArgs, binV, intBin, unV, mmV, builtinA, Nat.reduceLT, Nat.reduceEqDiff, Nat.reduceAdd, Nat.reduceSub, Nat.reduceMul, ↓reduceIte, reduceCtorEq, t1, t6, e2])
            exact ⟨rfl, ⟨ys, hp, hO rfl, hR⟩, h2⟩
      · have e1 : decide ((40 : Int) ≤ xs.length) = false := decide_eq_false (by omega)
        have hyl := hp.length_eq
        have hins := insKey_call h1 hR (by omega) (g := g) (cs := cs) (K := K) (a0 := ys.length) (.inr rfl) (fun S9 h9 x y hx9 hy9 => hcmp S9 ⟨h9.1, by rw [h9.2.1, h2], by rw [h9.2.2.1, h3], fun j hj => by rw [h9.2.2.2 j hj, h4 j hj]⟩ x y (hp.mem_iff.1 hx9) (hp.mem_iff.1 hy9))
        rw [hyl] at hins
        repeat (first | with_reducible (first | refine W_seq ?_ | refine W_block ?_ | refine W_scope ?_ | refine W_regionV hTT ?_ | refine W_condV ?_ | refine W_ret ?_ | refine W_exit ?_ | refine W_skip ?_ | refine W_label ?_ | refine W_drawV hTT (by kernel_rfl) ?_) | simp only [H0, J86, J87, und3, und4, und22, und26, und29, und45, und64, info3, info4, info22, info26, info29, info45, info64, info50, und50, aggT, gv, dstAt, aop, evalsA, partsA, evalO, updO, ofArgs, binV, intBin, unV, mmV, builtinA, Nat.reduceLT, Nat.reduceEqDiff, Nat.reduceAdd, Nat.reduceSub, Nat.reduceMul, ↓reduceIte, reduceCtorEq, t0, t1, t2, t6, t7, t8, e1])
        refine VCall_intro hins ?_
        rintro v S2 ⟨rfl, ⟨zs, hzp, _, hzs, hzR⟩, g1, g2, g3, g4⟩
        have hzy := hzs (by omega)
        subst hzy
        repeat (first | with_reducible (first | refine W_seq ?_ | refine W_scope ?_ | refine W_regionV hTT ?_ | refine W_condV ?_ | refine W_ret ?_ | refine W_exit ?_ | refine W_skip ?_ | refine W_label ?_ | refine W_drawV hTT (by kernel_rfl) ?_) | simp only [H0, J86, J87, und3, und4, und22, und26, und29, und45, und64, info3, info4, info22, info26, info29, info45, info64, info50, und50, aggT, gv, dstAt, aop, evalsA, partsA, evalO, updO, ofArgs, binV, intBin, unV, mmV, builtinA, Nat.reduceLT, Nat.reduceEqDiff, Nat.reduceAdd, Nat.reduceSub, Nat.reduceMul, ↓reduceIte, reduceCtorEq, t0, t1, t2, t6, t7, t8])
        refine W_block ?_
        refine W_loopI (fun m τ ds S' => S' = S2 ∧ ds = [] ∧ τ 1 = .int .i64 xs.length ∧ τ 6 = .int .i64 20) 0 ?_ ?_
        · refine ⟨rfl, rfl, ?_, ?_⟩ <;> first | rfl | simp only [H0, J86, J87, und3, und4, und22, und26, und29, und45, und64, info3, info4, info22, info26, info29, info45, info64, info50, und50, aggT, gv, dstAt, aop, evalsA, partsA, evalO, updO, ofArgs, binV, intBin, unV, mmV, builtinA, Nat.reduceLT, Nat.reduceEqDiff, Nat.reduceAdd, Nat.reduceSub, Nat.reduceMul, ↓reduceIte, reduceCtorEq, t1, t6]
        · rintro m τ ds S3 ⟨rfl, rfl, t1, t6⟩
          repeat (first | with_reducible (first | refine W_seq ?_ | refine W_block ?_ | refine W_scope ?_ | refine W_regionV hTT ?_ | refine W_condV ?_ | refine W_ret ?_ | refine W_exit ?_ | refine W_skip ?_ | refine W_label ?_ | refine W_drawV hTT (by kernel_rfl) ?_) | simp only [H0, J86, J87, und3, und4, und22, und26, und29, und45, und64, info3, info4, info22, info26, info29, info45, info64, info50, und50, aggT, gv, dstAt, aop, evalsA, partsA, evalO, updO, ofArgs, binV, intBin, unV, mmV, builtinA, Nat.reduceLT, Nat.reduceEqDiff, Nat.reduceAdd, Nat.reduceSub, Nat.reduceMul, ↓reduceIte, reduceCtorEq, t1, t6, e2])
          exact ⟨rfl, ⟨zs, hp, hO, hzR⟩, g1, by rw [g2, h2], by rw [g3, h3], fun j hj => by rw [g4 j hj, h4 j hj]⟩
  have hla := hx.len
  refine CallW_of hTT fn51 rfl (by simp [Tryz.f51]) ?_
  unfold Tryz.f51
  repeat (first | with_reducible (first | refine W_seq ?_ | refine W_block ?_ | refine W_scope ?_ | refine W_regionV hTT ?_ | refine W_condV ?_ | refine W_ret ?_ | refine W_exit ?_ | refine W_skip ?_ | refine W_label ?_ | refine W_drawV hTT (by kernel_rfl) ?_) | simp only [H0, J86, J87, und3, und4, und22, und26, und29, und45, und64, info3, info4, info22, info26, info29, info45, info64, info50, und50, aggT, gv, dstAt, aop, evalsA, partsA, evalO, updO, ofArgs, binV, intBin, unV, mmV, builtinA, Nat.reduceLT, Nat.reduceEqDiff, Nat.reduceAdd, Nat.reduceSub, Nat.reduceMul, ↓reduceIte, reduceCtorEq, hla])
  refine VCall_intro h71 ?_
  rintro v S2 ⟨rfl, h2⟩
  repeat (first | with_reducible (first | refine W_seq ?_ | refine W_block ?_ | refine W_scope ?_ | refine W_regionV hTT ?_ | refine W_condV ?_ | refine W_ret ?_ | refine W_exit ?_ | refine W_skip ?_ | refine W_label ?_ | refine W_drawV hTT (by kernel_rfl) ?_) | simp only [H0, J86, J87, und3, und4, und22, und26, und29, und45, und64, info3, info4, info22, info26, info29, info45, info64, info50, und50, aggT, gv, dstAt, aop, evalsA, partsA, evalO, updO, ofArgs, binV, intBin, unV, mmV, builtinA, Nat.reduceLT, Nat.reduceEqDiff, Nat.reduceAdd, Nat.reduceSub, Nat.reduceMul, ↓reduceIte, reduceCtorEq])
  exact ⟨rfl, h2⟩
/-- numbers as ints -/
def nl (l : List Nat) : List Int := l.map fun v : Nat => (v : Int)
theorem nl_len (l : List Nat) : (nl l).length = l.length := by simp [nl]
theorem nl_get (l : List Nat) (i : Nat) : (nl l)[i]? = (l[i]?).map fun v : Nat => (v : Int) := by simp [nl]
theorem nl_getD (l : List Nat) (i : Nat) : (nl l).getD i 0 = (l.getD i 0 : Nat) := by
  simp only [List.getD_eq_getElem?_getD, nl_get]
  cases l[i]? <;> rfl
theorem upto_nl (n : Nat) : upto n = nl (List.range n) := rfl
/-- a row in another order is a list of numbers in another order -/
theorem perm_nl {ys : List Int} {l : List Nat} (h : ys.Perm (nl l)) : ∃ l', ys = nl l' ∧ l'.Perm l := by
  refine ⟨ys.map Int.toNat, ?_, ?_⟩
  · unfold nl
    rw [List.map_map]
    have : ∀ x ∈ ys, ((fun v : Nat => (v : Int)) ∘ Int.toNat) x = x := by
      intro x hx
      have := h.mem_iff.1 hx
      unfold nl at this
      rw [List.mem_map] at this
      obtain ⟨v, _, rfl⟩ := this
      rfl
    rw [List.map_congr_left this]
    simp
  · have := h.map Int.toNat
    unfold nl at this
    rw [List.map_map] at this
    have e : l.map (Int.toNat ∘ fun v : Nat => (v : Int)) = l := by
      have : ∀ x ∈ l, (Int.toNat ∘ fun v : Nat => (v : Int)) x = x := fun x _ => rfl
      rw [List.map_congr_left this]
      simp
    rwa [e] at this
/-- sorted: the places by their keys, of 20 or fewer -/
theorem sortedKey_call {S : St} (hok : S.ok) {n : Nat} (hn : n ≤ 20) {g : FuncId} {cs : List Value} (hg : g ≠ 53) {K : Int → Int} (hby : ∀ S', Ext S S' → ∀ i : Nat, i < n → CallW PP g ([.int .i64 (i : Int)] ++ cs) S' (fun v S3 => v = .int .i64 (K i) ∧ S3 = S')) :
    CallW PP 29 [.int .i64 n, .func (.func g) #[] cs.toArray] S (fun v S' => (∃ at' : List Nat, at'.Perm (List.range n) ∧ at'.Pairwise (fun (x y : Nat) => K (x : Int) ≤ K (y : Int)) ∧ Mine S' 3 1 S.n v (iv (nl at')) n) ∧ Ext S S') := by
  have hE0 : Ext S (S.push (.cells [.func (.func g) #[] cs.toArray] 50 0)) := (Ext.refl hok).push _
  have hl : (S.push (.cells [.func (.func g) #[] cs.toArray] 50 0)).get S.n = some (.cells [.func (.func g) #[] cs.toArray] 50 0) := get_push_new _ rfl
  refine CallW_of hTT fn29 rfl (by simp [Tryz.f29]) ?_
  unfold Tryz.f29
  repeat (first | with_reducible (first | refine W_seq ?_ | refine W_scope ?_ | refine W_regionV hTT ?_ | refine W_condV ?_ | refine W_ret ?_ | refine W_exit ?_ | refine W_skip ?_ | refine W_label ?_ | refine W_drawV hTT (by kernel_rfl) ?_) | simp only [H0, J86, J87, und3, und4, und22, und26, und29, und45, und64, info3, info4, info22, info26, info29, info45, info64, info50, und50, aggT, gv, dstAt, aop, evalsA, partsA, evalO, updO, ofArgs, binV, intBin, unV, mmV, builtinA, Nat.reduceLT, Nat.reduceEqDiff, Nat.reduceAdd, Nat.reduceSub, Nat.reduceMul, ↓reduceIte, reduceCtorEq, boxA, Value.cells])
  refine W_cut (fun τ ds S' => ds = [] ∧ Ext (S.push (.cells [.func (.func g) #[] cs.toArray] 50 0)) S' ∧ τ 3 = .pointer (some ⟨S.n, 0, none⟩) ∧ ∃ v, τ 5 = v ∧ Mine S' 3 1 (S.n + 1) v (iv (upto n)) n) ?_ ?_
  · refine W_block ?_
    refine W_loopI (fun m τ ds S' => ds = [] ∧ Ext (S.push (.cells [.func (.func g) #[] cs.toArray] 50 0)) S' ∧ ∃ k v, m = n - k ∧ k ≤ n ∧ τ 3 = .pointer (some ⟨S.n, 0, none⟩) ∧ τ 5 = v ∧ τ 7 = .int .i64 n ∧ τ 8 = .int .i64 (k : Nat) ∧ Mine S' 3 1 (S.n + 1) v (iv (upto k)) k) n ?_ ?_
    · refine ⟨rfl, Ext.refl (by rw [ok_push_iff]; exact hok), 0, .slice none 0 0, by omega, by omega, ?_, ?_, ?_, ?_, .nil _ _ _ _⟩ <;> first | rfl | simp only [H0, J86, J87, und3, und4, und22, und26, und29, und45, und64, info3, info4, info22, info26, info29, info45, info64, info50, und50, aggT, gv, dstAt, aop, evalsA, partsA, evalO, updO, ofArgs, binV, intBin, unV, mmV, builtinA, Nat.reduceLT, Nat.reduceEqDiff, Nat.reduceAdd, Nat.reduceSub, Nat.reduceMul, ↓reduceIte, reduceCtorEq]
    · rintro m τ ds S' ⟨rfl, hE, k, v, rfl, hk, t3, t5, t7, t8, hM⟩
      have hw := wrap_succ (k := k) (by omega)
      have hSn := hE.n
      rw [push_n] at hSn
      by_cases hlt : k < n
      · have e1 : decide ((k : Int) < n) = true := by simpa using hlt
        have b1 := bs_one (T := TT) (S := S') (x := .int .i64 k) und26 info3 rfl rfl rfl
        obtain ⟨v', S4, a1, a2, a3, a4⟩ := hM.push_one (T := TT) (x := .int .i64 k) hE.ok (by omega) und26 info3 rfl rfl (by omega) (by omega)
        have hE4 := a3.ext hE fun b hb => by rw [push_n]; exact (hM.base hb).1
        repeat (first | with_reducible (first | refine W_seq ?_ | refine W_block ?_ | refine W_scope ?_ | refine W_regionV hTT ?_ | refine W_condV ?_ | refine W_ret ?_ | refine W_exit ?_ | refine W_skip ?_ | refine W_label ?_ | refine W_drawV hTT (by kernel_rfl) ?_) | simp only [H0, J86, J87, und3, und4, und22, und26, und29, und45, und64, info3, info4, info22, info26, info29, info45, info64, info50, und50, aggT, gv, dstAt, aop, evalsA, partsA, evalO, updO, ofArgs, binV, intBin, unV, mmV, builtinA, Nat.reduceLT, Nat.reduceEqDiff, Nat.reduceAdd, Nat.reduceSub, Nat.reduceMul, ↓reduceIte, reduceCtorEq, t3, t5, t7, t8, e1, b1, a1, hw])
        refine LoopQ_intro (n - (k + 1)) (by omega) ⟨rfl, hE4, k + 1, v', rfl, by omega, by simp only [H0, J86, J87, und3, und4, und22, und26, und29, und45, und64, info3, info4, info22, info26, info29, info45, info64, info50, und50, aggT, gv, dstAt, aop, evalsA, partsA, evalO, updO, ofArgs, binV, intBin, unV, mmV, builtinA, Nat.reduceLT, Nat.reduceEqDiff, Nat.reduceAdd, Nat.reduceSub, Nat.reduceMul, ↓reduceIte, reduceCtorEq, t3], by simp only [H0, J86, J87, und3, und4, und22, und26, und29, und45, und64, info3, info4, info22, info26, info29, info45, info64, info50, und50, aggT, gv, dstAt, aop, evalsA, partsA, evalO, updO, ofArgs, binV, intBin, unV, mmV, builtinA, Nat.reduceLT, Nat.reduceEqDiff, Nat.reduceAdd, Nat.reduceSub, Nat.reduceMul, ↓reduceIte, reduceCtorEq], by simp only [H0, J86, J87, und3, und4, und22, und26, und29, und45, und64, info3, info4, info22, info26, info29, info45, info64, info50, und50, aggT, gv, dstAt, aop, evalsA, partsA, evalO, updO, ofArgs, binV, intBin, unV, mmV, builtinA, Nat.reduceLT, Nat.reduceEqDiff, Nat.reduceAdd, Nat.reduceSub, Nat.reduceMul, ↓reduceIte, reduceCtorEq, t7], by simp only [H0, J86, J87, und3, und4, und22, und26, und29, und45, und64, info3, info4, info22, info26, info29, info45, info64, info50, und50, aggT, gv, dstAt, aop, evalsA, partsA, evalO, updO, ofArgs, binV, intBin, unV, mmV, builtinA, Nat.reduceLT, Nat.reduceEqDiff, Nat.reduceAdd, Nat.reduceSub, Nat.reduceMul, ↓reduceIte, reduceCtorEq, t8, hw], ?_⟩
        rw [upto_succ, ← iv_append]
        exact a2
      · have e1 : decide ((k : Int) < n) = false := by simpa using hlt
        have hkk : k = n := by omega
        subst hkk
        repeat (first | with_reducible (first | refine W_seq ?_ | refine W_block ?_ | refine W_scope ?_ | refine W_regionV hTT ?_ | refine W_condV ?_ | refine W_ret ?_ | refine W_exit ?_ | refine W_skip ?_ | refine W_label ?_ | refine W_drawV hTT (by kernel_rfl) ?_) | simp only [H0, J86, J87, und3, und4, und22, und26, und29, und45, und64, info3, info4, info22, info26, info29, info45, info64, info50, und50, aggT, gv, dstAt, aop, evalsA, partsA, evalO, updO, ofArgs, binV, intBin, unV, mmV, builtinA, Nat.reduceLT, Nat.reduceEqDiff, Nat.reduceAdd, Nat.reduceSub, Nat.reduceMul, ↓reduceIte, reduceCtorEq, t3, t5, t7, t8, e1])
        refine NQ_intro ⟨rfl, hE, ?_, v, ?_, hM⟩
        · simp only [H0, J86, J87, und3, und4, und22, und26, und29, und45, und64, info3, info4, info22, info26, info29, info45, info64, info50, und50, aggT, gv, dstAt, aop, evalsA, partsA, evalO, updO, ofArgs, binV, intBin, unV, mmV, builtinA, Nat.reduceLT, Nat.reduceEqDiff, Nat.reduceAdd, Nat.reduceSub, Nat.reduceMul, ↓reduceIte, reduceCtorEq, t3]
        · simp only [H0, J86, J87, und3, und4, und22, und26, und29, und45, und64, info3, info4, info22, info26, info29, info45, info64, info50, und50, aggT, gv, dstAt, aop, evalsA, partsA, evalO, updO, ofArgs, binV, intBin, unV, mmV, builtinA, Nat.reduceLT, Nat.reduceEqDiff, Nat.reduceAdd, Nat.reduceSub, Nat.reduceMul, ↓reduceIte, reduceCtorEq, t5]
  · rintro τ ds S1 ⟨rfl, hE, t3, v, t5, hM⟩
    have hSn := hE.n
    rw [push_n] at hSn
    have hE1 : Ext S S1 := hE0.trans hE
    have hl1 := hE.get hl
    rcases hM with ⟨rfl, hnil, rfl⟩ | ⟨b, rfl, hlo, hget, hlen⟩
    · repeat (first | with_reducible (first | refine W_seq ?_ | refine W_block ?_ | refine W_scope ?_ | refine W_regionV hTT ?_ | refine W_condV ?_ | refine W_ret ?_ | refine W_exit ?_ | refine W_skip ?_ | refine W_label ?_ | refine W_drawV hTT (by kernel_rfl) ?_) | simp only [H0, J86, J87, und3, und4, und22, und26, und29, und45, und64, info3, info4, info22, info26, info29, info45, info64, info50, und50, aggT, gv, dstAt, aop, evalsA, partsA, evalO, updO, ofArgs, binV, intBin, unV, mmV, builtinA, Nat.reduceLT, Nat.reduceEqDiff, Nat.reduceAdd, Nat.reduceSub, Nat.reduceMul, ↓reduceIte, reduceCtorEq, t3, t5, fnOk_func])
      refine VCall_intro (stableNil_call S1 _) ?_
      rintro v S2 ⟨rfl, rfl⟩
      repeat (first | with_reducible (first | refine W_seq ?_ | refine W_block ?_ | refine W_scope ?_ | refine W_regionV hTT ?_ | refine W_condV ?_ | refine W_ret ?_ | refine W_exit ?_ | refine W_skip ?_ | refine W_label ?_ | refine W_drawV hTT (by kernel_rfl) ?_) | simp only [H0, J86, J87, und3, und4, und22, und26, und29, und45, und64, info3, info4, info22, info26, info29, info45, info64, info50, und50, aggT, gv, dstAt, aop, evalsA, partsA, evalO, updO, ofArgs, binV, intBin, unV, mmV, builtinA, Nat.reduceLT, Nat.reduceEqDiff, Nat.reduceAdd, Nat.reduceSub, Nat.reduceMul, ↓reduceIte, reduceCtorEq, t3, t5])
      exact ⟨⟨[], by simp, .nil, .inl ⟨rfl, rfl, rfl⟩⟩, hE1⟩
    · have hx : RowW S1 b (.slice (some ⟨b, 0, none⟩) n BIG) (upto n) := ⟨⟨BIG, 1, by rw [upto_len], .inr ⟨rfl, rfl⟩, hget, .inr rfl⟩⟩
      repeat (first | with_reducible (first | refine W_seq ?_ | refine W_block ?_ | refine W_scope ?_ | refine W_regionV hTT ?_ | refine W_condV ?_ | refine W_ret ?_ | refine W_exit ?_ | refine W_skip ?_ | refine W_label ?_ | refine W_drawV hTT (by kernel_rfl) ?_) | simp only [H0, J86, J87, und3, und4, und22, und26, und29, und45, und64, info3, info4, info22, info26, info29, info45, info64, info50, und50, aggT, gv, dstAt, aop, evalsA, partsA, evalO, updO, ofArgs, binV, intBin, unV, mmV, builtinA, Nat.reduceLT, Nat.reduceEqDiff, Nat.reduceAdd, Nat.reduceSub, Nat.reduceMul, ↓reduceIte, reduceCtorEq, t3, t5, fnOk_func])
      refine VCall_intro (stableKey_call hE1.ok hx (by rw [upto_len]; exact hn) (g := 52) (cs := [.pointer (some ⟨S.n, 0, none⟩)]) (K := K) ?_) ?_
      · rintro S' ⟨h1, h2, h3, h4⟩ x y hxm hym
        obtain ⟨i, hi, rfl⟩ := upto_mem hxm
        obtain ⟨j, hj, rfl⟩ := upto_mem hym
        have hE' : Ext S S' := ⟨h1, by rw [h2]; omega, fun a ha => by rw [h4 a (by omega), hE1.same a ha], h3.trans hE1.mono⟩
        have hl2 : S'.get S.n = some (.cells [.func (.func g) #[] cs.toArray] 50 0) := by rw [h4 _ (by omega)]; exact hl1
        exact key_call hl2 hg (hby S' hE' i hi) (hby S' hE' j hj)
      · rintro v S2 ⟨rfl, ⟨ys, hp, hO, hR⟩, h1, h2, h3, h4⟩
        repeat (first | with_reducible (first | refine W_seq ?_ | refine W_block ?_ | refine W_scope ?_ | refine W_regionV hTT ?_ | refine W_condV ?_ | refine W_ret ?_ | refine W_exit ?_ | refine W_skip ?_ | refine W_label ?_ | refine W_drawV hTT (by kernel_rfl) ?_) | simp only [H0, J86, J87, und3, und4, und22, und26, und29, und45, und64, info3, info4, info22, info26, info29, info45, info64, info50, und50, aggT, gv, dstAt, aop, evalsA, partsA, evalO, updO, ofArgs, binV, intBin, unV, mmV, builtinA, Nat.reduceLT, Nat.reduceEqDiff, Nat.reduceAdd, Nat.reduceSub, Nat.reduceMul, ↓reduceIte, reduceCtorEq, t3, t5])
        obtain ⟨at', rfl, hpa⟩ := perm_nl (l := List.range n) hp
        have hal : at'.length = n := by rw [hpa.length_eq, List.length_range]
        refine ⟨⟨at', hpa, ?_, ?_⟩, ⟨h1, by rw [h2]; omega, fun a ha => by rw [h4 a (by omega), hE1.same a ha], h3.trans hE1.mono⟩⟩
        · have hpw := hO.pair
          unfold nl at hpw
          rw [List.pairwise_map] at hpw
          exact hpw
        · obtain ⟨⟨c, g', hc1, hc2, hg1, hg2⟩⟩ := hR
          rw [nl_len, hal] at hc1
          cases hc1
          rcases hc2 with ⟨hc2, _⟩ | ⟨_, rfl⟩
          · omega
          · exact .inr ⟨b, rfl, by omega, hg1, by rw [iv_len, nl_len, hal, Nat.mul_one]⟩
end Go.Proofs.Sz
end
/- part Zkc -/
section
namespace Go.Proofs.Sz
open Go Go.Ax Go.Proofs Go.RowKit
theorem take_sum_bnd {xs : List Int} (hb : ∀ x ∈ xs, 0 ≤ x ∧ x < 1000) (k : Nat) (hk : k ≤ xs.length) : 0 ≤ (xs.take k).sum ∧ (xs.take k).sum ≤ 1000 * k := by
  induction k with
  | zero => simp
  | succ k ih =>
    have ih := ih (by omega)
    rw [List.take_succ_eq_append_getElem (by omega), List.sum_append]
    have := hb xs[k] (List.getElem_mem _)
    simp only [List.sum_cons, List.sum_nil]
    omega
/-- sum -/
theorem sumX_call {S : St} {va : Value} {xs : List Int} (ha : Sl S 1 va (iv xs) xs.length) (hl : xs.length < 1000) (hb : ∀ x ∈ xs, 0 ≤ x ∧ x < 1000) :
    CallW PP 26 [va] S (fun v S' => v = .int .i64 xs.sum ∧ S' = S) := by
  have hla := ha.len (T := TT) und26
  refine CallW_of hTT fn26 rfl (by simp [Tryz.f26]) ?_
  unfold Tryz.f26
  repeat (first | with_reducible (first | refine W_seq ?_ | refine W_block ?_ | refine W_scope ?_ | refine W_regionV hTT ?_ | refine W_condV ?_ | refine W_ret ?_ | refine W_exit ?_ | refine W_skip ?_ | refine W_label ?_ | refine W_drawV hTT (by kernel_rfl) ?_) | simp only [H0, J86, J87, und3, und4, und22, und26, und29, und45, und64, info3, info4, info22, info26, info29, info45, info64, info50, und50, aggT, gv, dstAt, aop, evalsA, partsA, evalO, updO, ofArgs, binV, intBin, unV, mmV, builtinA, Nat.reduceLT, Nat.reduceEqDiff, Nat.reduceAdd, Nat.reduceSub, Nat.reduceMul, ↓reduceIte, reduceCtorEq, hla])
  refine W_loopI (fun m τ ds S' => S' = S ∧ ds = [] ∧ ∃ (k : Nat), m = xs.length - k ∧ k ≤ xs.length ∧ τ 6 = va ∧ τ 3 = .int .i64 (xs.take k).sum ∧ τ 7 = .int .i64 xs.length ∧ τ 8 = .int .i64 k) xs.length ?_ ?_
  · refine ⟨rfl, rfl, 0, by simp, by simp, ?_, ?_, ?_, ?_⟩ <;> first | rfl | simp only [H0, J86, J87, und3, und4, und22, und26, und29, und45, und64, info3, info4, info22, info26, info29, info45, info64, info50, und50, aggT, gv, dstAt, aop, evalsA, partsA, evalO, updO, ofArgs, binV, intBin, unV, mmV, builtinA, Nat.reduceLT, Nat.reduceEqDiff, Nat.reduceAdd, Nat.reduceSub, Nat.reduceMul, ↓reduceIte, reduceCtorEq]
  · rintro m τ ds S' ⟨rfl, rfl, k, rfl, hk, t6, t3, t7, t8⟩
    by_cases hlt : k < xs.length
    · have e1 : decide ((k : Int) < xs.length) = true := by simpa using hlt
      obtain ⟨q, p1, p2, _⟩ := ha.at1 (T := TT) (k := .i64) und26 info3 und3 rfl rfl hlt
      rw [iv_get, List.getElem?_eq_getElem hlt] at p2
      have hw := wrap_succ (k := k) (by omega)
      have hs : (xs.take (k + 1)).sum = (xs.take k).sum + xs[k] := by rw [List.take_succ_eq_append_getElem hlt, List.sum_append]; simp
      have hb1 := take_sum_bnd hb (k + 1) (by omega)
      have hw2 : IntKind.i64.wrap ((xs.take k).sum + xs[k]) = (xs.take (k + 1)).sum := by rw [← hs]; exact wrap_id (by omega) (by omega)
      repeat (first | with_reducible (first | refine W_seq ?_ | refine W_block ?_ | refine W_scope ?_ | refine W_regionV hTT ?_ | refine W_condV ?_ | refine W_ret ?_ | refine W_exit ?_ | refine W_skip ?_ | refine W_label ?_ | refine W_drawV hTT (by kernel_rfl) ?_) | simp only [H0, J86, J87, und3, und4, und22, und26, und29, und45, und64, info3, info4, info22, info26, info29, info45, info64, info50, und50, aggT, gv, dstAt, aop, evalsA, partsA, evalO, updO, ofArgs, binV, intBin, unV, mmV, builtinA, Nat.reduceLT, Nat.reduceEqDiff, Nat.reduceAdd, Nat.reduceSub, Nat.reduceMul, ↓reduceIte, reduceCtorEq, hla, t6, t3, t7, t8, e1, p1, p2, hw, hw2])
      refine LoopQ_intro (xs.length - (k + 1)) (by omega) ⟨rfl, rfl, k + 1, rfl, by omega, by simp only [H0, J86, J87, und3, und4, und22, und26, und29, und45, und64, info3, info4, info22, info26, info29, info45, info64, info50, und50, aggT, gv, dstAt, aop, evalsA, partsA, evalO, updO, ofArgs, binV, intBin, unV, mmV, builtinA, Nat.reduceLT, Nat.reduceEqDiff, Nat.reduceAdd, Nat.reduceSub, Nat.reduceMul, ↓reduceIte, reduceCtorEq, t6], by simp only [H0, J86, J87, und3, und4, und22, und26, und29, und45, und64, info3, info4, info22, info26, info29, info45, info64, info50, und50, aggT, gv, dstAt, aop, evalsA, partsA, evalO, updO, ofArgs, binV, intBin, unV, mmV, builtinA, Nat.reduceLT, Nat.reduceEqDiff, Nat.reduceAdd, Nat.reduceSub, Nat.reduceMul, ↓reduceIte, reduceCtorEq, t3, hw2], by simp only [H0, J86, J87, und3, und4, und22, und26, und29, und45, und64, info3, info4, info22, info26, info29, info45, info64, info50, und50, aggT, gv, dstAt, aop, evalsA, partsA, evalO, updO, ofArgs, binV, intBin, unV, mmV, builtinA, Nat.reduceLT, Nat.reduceEqDiff, Nat.reduceAdd, Nat.reduceSub, Nat.reduceMul, ↓reduceIte, reduceCtorEq, t7], by simp only [H0, J86, J87, und3, und4, und22, und26, und29, und45, und64, info3, info4, info22, info26, info29, info45, info64, info50, und50, aggT, gv, dstAt, aop, evalsA, partsA, evalO, updO, ofArgs, binV, intBin, unV, mmV, builtinA, Nat.reduceLT, Nat.reduceEqDiff, Nat.reduceAdd, Nat.reduceSub, Nat.reduceMul, ↓reduceIte, reduceCtorEq, t8]⟩
    · have e1 : decide ((k : Int) < xs.length) = false := by simpa using hlt
      have hkk : k = xs.length := by omega
      subst hkk
      repeat (first | with_reducible (first | refine W_seq ?_ | refine W_block ?_ | refine W_scope ?_ | refine W_regionV hTT ?_ | refine W_condV ?_ | refine W_ret ?_ | refine W_exit ?_ | refine W_skip ?_ | refine W_label ?_ | refine W_drawV hTT (by kernel_rfl) ?_) | simp only [H0, J86, J87, und3, und4, und22, und26, und29, und45, und64, info3, info4, info22, info26, info29, info45, info64, info50, und50, aggT, gv, dstAt, aop, evalsA, partsA, evalO, updO, ofArgs, binV, intBin, unV, mmV, builtinA, Nat.reduceLT, Nat.reduceEqDiff, Nat.reduceAdd, Nat.reduceSub, Nat.reduceMul, ↓reduceIte, reduceCtorEq, hla, t6, t3, t7, t8, e1])
      rw [List.take_length]
theorem IsC.rowB {n : Nat} {M : Nat → Nat → Int} (h : IsC n M) {i : Nat} (hi : i < n) : ∀ x ∈ mrow n (M i), 0 ≤ x ∧ x < 1000 := by
  intro x hx
  have := h.row hi x hx
  omega
theorem fn65 : TT.fn 65 = some Tryz.f65 := by kernel_rfl
/-- above's closure: a player's score, turned around -/
theorem minus_call {S : St} {vl : Value} {n : Nat} {M : Nat → Nat → Int} (hx : Mat S vl (mrows n n M)) (hn : n < 31) (hC : IsC n M) {bl : Nat} (hl : S.get bl = some (.cells [vl] 22 0)) {i : Nat} (hi : i < n) :
    CallW PP 65 [.int .i64 i, .pointer (some ⟨bl, 0, none⟩)] S (fun v S' => v = .int .i64 (-(sc n M i)) ∧ S' = S) := by
  have r1 := load_one (o := 0) und22 info22 rfl hl
  simp only [List.getElem?_cons_zero] at r1
  obtain ⟨p, rv, p1, p2, hrow, _⟩ := hx.row (T := TT) (k := .i64) und22 info26 und26 rfl (i := i) (by rw [mrows_len]; exact hi)
  rw [mrows_get] at hrow
  have hb := sc_bnd hC hi
  have hw : IntKind.i64.wrap (0 - sc n M i) = -(sc n M i) := by rw [wrap_id (by omega) (by omega)]; omega
  refine CallW_of hTT fn65 rfl (by simp [Tryz.f65]) ?_
  unfold Tryz.f65
  repeat (first | with_reducible (first | refine W_seq ?_ | refine W_block ?_ | refine W_scope ?_ | refine W_regionV hTT ?_ | refine W_condV ?_ | refine W_ret ?_ | refine W_exit ?_ | refine W_skip ?_ | refine W_label ?_ | refine W_drawV hTT (by kernel_rfl) ?_) | simp only [H0, J86, J87, und3, und4, und22, und26, und29, und45, und64, info3, info4, info22, info26, info29, info45, info64, info50, und50, aggT, gv, dstAt, aop, evalsA, partsA, evalO, updO, ofArgs, binV, intBin, unV, mmV, builtinA, Nat.reduceLT, Nat.reduceEqDiff, Nat.reduceAdd, Nat.reduceSub, Nat.reduceMul, ↓reduceIte, reduceCtorEq, r1, p1, p2])
  refine VCall_intro (sumX_call hrow (by rw [mrow_len]; omega) (hC.rowB hi)) ?_
  rintro v S' ⟨rfl, rfl⟩
  repeat (first | with_reducible (first | refine W_seq ?_ | refine W_block ?_ | refine W_scope ?_ | refine W_regionV hTT ?_ | refine W_condV ?_ | refine W_ret ?_ | refine W_exit ?_ | refine W_skip ?_ | refine W_label ?_ | refine W_drawV hTT (by kernel_rfl) ?_) | simp only [H0, J86, J87, und3, und4, und22, und26, und29, und45, und64, info3, info4, info22, info26, info29, info45, info64, info50, und50, aggT, gv, dstAt, aop, evalsA, partsA, evalO, updO, ofArgs, binV, intBin, unV, mmV, builtinA, Nat.reduceLT, Nat.reduceEqDiff, Nat.reduceAdd, Nat.reduceSub, Nat.reduceMul, ↓reduceIte, reduceCtorEq, sc_sum, hw])
/-- Values, of any slice -/
theorem valuesC_call {S : St} {va : Value} (hcp : va.cells = #[va]) :
    CallW PP 50 [va] S (fun v S' => v = .func (.func 70) #[] #[.pointer (some ⟨S.n, 0, none⟩)] ∧ S' = S.push (.cells [va] 26 0)) := by
  refine CallW_of hTT fn50 rfl (by simp [Tryz.f50]) ?_
  unfold Tryz.f50
  repeat (first | with_reducible (first | refine W_seq ?_ | refine W_block ?_ | refine W_scope ?_ | refine W_regionV hTT ?_ | refine W_condV ?_ | refine W_ret ?_ | refine W_exit ?_ | refine W_skip ?_ | refine W_label ?_ | refine W_drawV hTT (by kernel_rfl) ?_) | simp only [H0, J86, J87, und3, und4, und22, und26, und29, und45, und64, info3, info4, info22, info26, info29, info45, info64, info50, und50, aggT, gv, dstAt, aop, evalsA, partsA, evalO, updO, ofArgs, binV, intBin, unV, mmV, builtinA, Nat.reduceLT, Nat.reduceEqDiff, Nat.reduceAdd, Nat.reduceSub, Nat.reduceMul, ↓reduceIte, reduceCtorEq, boxA, hcp, fnOk_func])
theorem slCells {S : St} {sz n : Nat} {v : Value} {cs : List Value} (h : Sl S sz v cs n) : v.cells = #[v] := by
  rcases h with ⟨rfl, _⟩ | ⟨_, _, _, _, rfl, _⟩ | ⟨b, o, c, o0, all, rfl, _⟩ <;> rfl
/-- Sorted, of Values -/
theorem sortedOfX_call {S : St} (hok : S.ok) {bl : Nat} {va : Value} {xs : List Int} (hl : S.get bl = some (.cells [va] 26 0)) (hx : Sl S 1 va (iv xs) xs.length) (hn : xs.length < 1000) (hn0 : 0 < xs.length) :
    CallW PP 49 [.func (.func 70) #[] #[.pointer (some ⟨bl, 0, none⟩)]] S (fun v S' => Mine S' 3 1 S.n v (iv (msort xs)) xs.length ∧ Ext S S') := by
  refine CallW_of hTT fn49 rfl (by simp [Tryz.f49]) ?_
  unfold Tryz.f49
  repeat (first | with_reducible (first | refine W_seq ?_ | refine W_block ?_ | refine W_scope ?_ | refine W_regionV hTT ?_ | refine W_condV ?_ | refine W_ret ?_ | refine W_exit ?_ | refine W_skip ?_ | refine W_label ?_ | refine W_drawV hTT (by kernel_rfl) ?_) | simp only [H0, J86, J87, und3, und4, und22, und26, und29, und45, und64, info3, info4, info22, info26, info29, info45, info64, info50, und50, aggT, gv, dstAt, aop, evalsA, partsA, evalO, updO, ofArgs, binV, intBin, unV, mmV, builtinA, Nat.reduceLT, Nat.reduceEqDiff, Nat.reduceAdd, Nat.reduceSub, Nat.reduceMul, ↓reduceIte, reduceCtorEq])
  refine VCall_intro (collect_call hok hl hx (by omega)) ?_
  rintro v S1 ⟨hM, hE⟩
  rcases hM with ⟨_, _, h0⟩ | ⟨b, rfl, hlo, hget, hlen⟩
  · omega
  · have hR : RowW S1 b (.slice (some ⟨b, 0, none⟩) xs.length BIG) xs := ⟨⟨BIG, 1, rfl, .inr ⟨rfl, rfl⟩, hget, .inr rfl⟩⟩
    repeat (first | with_reducible (first | refine W_seq ?_ | refine W_block ?_ | refine W_scope ?_ | refine W_regionV hTT ?_ | refine W_condV ?_ | refine W_ret ?_ | refine W_exit ?_ | refine W_skip ?_ | refine W_label ?_ | refine W_drawV hTT (by kernel_rfl) ?_) | simp only [H0, J86, J87, und3, und4, und22, und26, und29, und45, und64, info3, info4, info22, info26, info29, info45, info64, info50, und50, aggT, gv, dstAt, aop, evalsA, partsA, evalO, updO, ofArgs, binV, intBin, unV, mmV, builtinA, Nat.reduceLT, Nat.reduceEqDiff, Nat.reduceAdd, Nat.reduceSub, Nat.reduceMul, ↓reduceIte, reduceCtorEq])
    refine VCall_intro (sortI_call hE.ok hR hn) ?_
    rintro v S2 ⟨rfl, hR2, h1, h2, h3, h4⟩
    repeat (first | with_reducible (first | refine W_seq ?_ | refine W_block ?_ | refine W_scope ?_ | refine W_regionV hTT ?_ | refine W_condV ?_ | refine W_ret ?_ | refine W_exit ?_ | refine W_skip ?_ | refine W_label ?_ | refine W_drawV hTT (by kernel_rfl) ?_) | simp only [H0, J86, J87, und3, und4, und22, und26, und29, und45, und64, info3, info4, info22, info26, info29, info45, info64, info50, und50, aggT, gv, dstAt, aop, evalsA, partsA, evalO, updO, ofArgs, binV, intBin, unV, mmV, builtinA, Nat.reduceLT, Nat.reduceEqDiff, Nat.reduceAdd, Nat.reduceSub, Nat.reduceMul, ↓reduceIte, reduceCtorEq])
    obtain ⟨⟨c, g', hc1, hc2, hg1, hg2⟩⟩ := hR2
    have hyl := msort_len xs
    simp only [Value.slice.injEq, true_and] at hc1
    obtain ⟨_, rfl⟩ := hc1
    rcases hc2 with ⟨hc2, _⟩ | ⟨_, rfl⟩
    · omega
    · exact ⟨.inr ⟨b, rfl, by omega, hg1, by rw [iv_len, hyl, Nat.mul_one]⟩, ⟨h1, by rw [h2]; exact hE.n, fun i hi => by rw [h4 i (by omega), hE.same i hi], by rw [h3, hE.mono]⟩⟩
theorem tri_le {k : Nat} (h : k ≤ 31) : tri k ≤ 31 * k := by
  induction k with
  | zero => simp [tri]
  | succ k ih => have := ih (by omega); unfold tri; omega
theorem ls_nl (l : List Nat) (f : Nat → Int) : (l.map f).sum = ls l f := rfl
theorem fn40 : TT.fn 40 = some Tryz.f40 := by kernel_rfl
theorem above_wraps {n k : Nat} (hn : n ≤ 30) (hk0 : 0 < k) (hk : k < n) :
    IntKind.i64.wrap ((k : Int) - 1) = ((k - 1 : Nat) : Int) ∧ IntKind.i64.wrap ((k : Int) * ((k - 1 : Nat) : Int)) = 2 * tri k ∧ IntKind.i64.wrap ((2 * tri k).tdiv 2) = tri k ∧ IntKind.i64.wrap ((n : Int) - k) = ((n - k : Nat) : Int) ∧ IntKind.i64.wrap ((k : Int) * ((n - k : Nat) : Int)) = k * ((n : Int) - k) ∧ IntKind.i64.wrap (tri k + k * ((n : Int) - k)) = tri k + k * ((n : Int) - k) := by
  have h1 := tri_le (k := k) (by omega)
  have h2 := tri_nonneg k
  have h3 := tri_two k
  have h4 : ((k - 1 : Nat) : Int) = (k : Int) - 1 := by omega
  have h5 : ((n - k : Nat) : Int) = (n : Int) - k := by omega
  have h6 : 0 ≤ (k : Int) * ((n : Int) - k) := Int.mul_nonneg (by omega) (by omega)
  have h7 : (k : Int) * ((n : Int) - k) ≤ 30 * 30 := by
    rw [← h5]
    have : k * (n - k) ≤ 30 * 30 := Nat.mul_le_mul (by omega) (by omega)
    exact_mod_cast this
  refine ⟨by rw [wrap_id (by omega) (by omega)]; omega, by rw [h4, ← h3]; exact wrap_id (by omega) (by omega), ?_, by rw [wrap_id (by omega) (by omega)]; omega, by rw [h5]; exact wrap_id (by omega) (by omega), wrap_id (by omega) (by omega)⟩
  rw [h3, tri_tdiv]
  exact wrap_id (by omega) (by omega)
set_option maxHeartbeats 4000000 in
/-- above -/
theorem above_call {S : St} (hok : S.ok) {vl : Value} {n : Nat} {M : Nat → Nat → Int} (hx0 : Mat S vl (mrows n n M)) (hpl : Plain vl n) (hn : n ≤ 20) (hC : IsC n M) :
    CallW PP 40 [vl] S (fun v S' => Ext S S' ∧ ∃ at' : List Nat, at'.Perm (List.range n) ∧ at'.Pairwise (fun (x y : Nat) => sc n M y ≤ sc n M x) ∧
      ((∃ k, 0 < k ∧ k < n ∧ ls (at'.take k) (sc n M) = tri k + k * ((n : Int) - k) ∧ Mine S' 3 1 S.n v (iv (msort (nl (at'.take k)))) k) ∨ (v = .slice none 0 0 ∧ ∀ k, 0 < k → k < n → ¬ ls (at'.take k) (sc n M) = tri k + k * ((n : Int) - k)))) := by
  have hcp := hpl.cells
  have hE0 : Ext S (S.push (.cells [vl] 22 0)) := (Ext.refl hok).push _
  have hx := hx0.extd hE0
  have hla := hx.len (T := TT) und22
  rw [mrows_len] at hla
  have hl : (S.push (.cells [vl] 22 0)).get S.n = some (.cells [vl] 22 0) := get_push_new _ rfl
  have r1 := load_one (o := 0) und22 info22 rfl hl
  simp only [List.getElem?_cons_zero] at r1
  refine CallW_of hTT fn40 rfl (by simp [Tryz.f40]) ?_
  unfold Tryz.f40
  repeat (first | with_reducible (first | refine W_seq ?_ | refine W_block ?_ | refine W_scope ?_ | refine W_regionV hTT ?_ | refine W_condV ?_ | refine W_ret ?_ | refine W_exit ?_ | refine W_skip ?_ | refine W_label ?_ | refine W_drawV hTT (by kernel_rfl) ?_) | simp only [H0, J86, J87, und3, und4, und22, und26, und29, und45, und64, info3, info4, info22, info26, info29, info45, info64, info50, und50, aggT, gv, dstAt, aop, evalsA, partsA, evalO, updO, ofArgs, binV, intBin, unV, mmV, builtinA, Nat.reduceLT, Nat.reduceEqDiff, Nat.reduceAdd, Nat.reduceSub, Nat.reduceMul, ↓reduceIte, reduceCtorEq, boxA, hcp.1, r1, hla, fnOk_func])
  refine VCall_intro (sortedKey_call hE0.ok hn (g := 65) (cs := [.pointer (some ⟨S.n, 0, none⟩)]) (by decide) (K := fun x => -(sc n M x.toNat)) ?_) ?_
  · intro S' hE' i hi
    exact minus_call (hx.extd hE') (by omega) hC (hE'.get hl) hi
  rintro va S1 ⟨⟨at', hp, hs, hM⟩, hE1⟩
  have hs' : at'.Pairwise (fun (x y : Nat) => sc n M y ≤ sc n M x) := hs.imp fun h => by simp only [Int.toNat_natCast] at h; omega
  have hal : at'.length = n := by rw [hp.length_eq, List.length_range]
  have hl1 := hE1.get hl
  have hx1 := hx.extd hE1
  have r2 := load_one (o := 0) und22 info22 rfl hl1
  simp only [List.getElem?_cons_zero] at r2
  have hE01 := hE0.trans hE1
  have hn1 := hE1.n
  rw [push_n] at hn1
  have hbnd : ∀ k, 0 ≤ ls (at'.take k) (sc n M) ∧ ls (at'.take k) (sc n M) ≤ 20 * 20 := by
    intro k
    constructor
    · exact ls_nonneg fun x hx => (sc_bnd hC (List.mem_range.1 (hp.mem_iff.1 (List.mem_of_mem_take hx)))).1
    · have := ls_le (L := at'.take k) (f := sc n M) (g := fun _ => 20) fun x hx => by
        have := (sc_bnd hC (List.mem_range.1 (hp.mem_iff.1 (List.mem_of_mem_take hx)))).2
        omega
      rw [ls_const, List.length_take] at this
      omega
  repeat (first | with_reducible (first | refine W_seq ?_ | refine W_scope ?_ | refine W_regionV hTT ?_ | refine W_condV ?_ | refine W_ret ?_ | refine W_exit ?_ | refine W_skip ?_ | refine W_label ?_ | refine W_drawV hTT (by kernel_rfl) ?_) | simp only [H0, J86, J87, und3, und4, und22, und26, und29, und45, und64, info3, info4, info22, info26, info29, info45, info64, info50, und50, aggT, gv, dstAt, aop, evalsA, partsA, evalO, updO, ofArgs, binV, intBin, unV, mmV, builtinA, Nat.reduceLT, Nat.reduceEqDiff, Nat.reduceAdd, Nat.reduceSub, Nat.reduceMul, ↓reduceIte, reduceCtorEq])
  refine W_block ?_
  refine W_loopI (fun m τ ds S' => S' = S1 ∧ ds = [] ∧ ∃ k : Nat, m = n - k ∧ 0 < k ∧ (k ≤ n ∨ k = 1) ∧ τ 1 = .pointer (some ⟨S.n, 0, none⟩) ∧ τ 3 = .int .i64 n ∧ τ 4 = va ∧ τ 5 = .int .i64 (ls (at'.take (k - 1)) (sc n M)) ∧ τ 6 = .int .i64 k ∧ ∀ j, 0 < j → j < k → ¬ ls (at'.take j) (sc n M) = tri j + j * ((n : Int) - j)) (n - 1) ?_ ?_
  · refine ⟨rfl, rfl, 1, rfl, by omega, .inr rfl, ?_, ?_, ?_, ?_, ?_, fun j h1 h2 => by omega⟩ <;> first | rfl | simp only [H0, J86, J87, und3, und4, und22, und26, und29, und45, und64, info3, info4, info22, info26, info29, info45, info64, info50, und50, aggT, gv, dstAt, aop, evalsA, partsA, evalO, updO, ofArgs, binV, intBin, unV, mmV, builtinA, Nat.reduceLT, Nat.reduceEqDiff, Nat.reduceAdd, Nat.reduceSub, Nat.reduceMul, ↓reduceIte, reduceCtorEq]
  · rintro m τ ds S' ⟨rfl, rfl, k, rfl, hk0, hk, t1, t3, t4, t5, t6, hno⟩
    by_cases hlt : k < n
    · have e1 : decide ((k : Int) < n) = true := by simpa using hlt
      obtain ⟨w1, w2, w3, w4, w5, w6⟩ := above_wraps (show n ≤ 30 by omega) hk0 hlt
      have hw := wrap_succ (k := k) (by omega)
      have hki : k - 1 < at'.length := by omega
      obtain ⟨p, p1, p2, _⟩ := hM.sl.at1 (T := TT) (k := .i64) und26 info3 und3 rfl rfl (i := k - 1) (by omega)
      rw [iv_get, nl_get, List.getElem?_eq_getElem hki] at p2
      simp only [Option.map_some] at p2
      have hin : at'[k - 1] < n := List.mem_range.1 (hp.mem_iff.1 (List.getElem_mem hki))
      obtain ⟨q, rv, q1, q2, hrow, _⟩ := hx1.row (T := TT) (k := .i64) und22 info26 und26 rfl (i := at'[k - 1]) (by rw [mrows_len]; exact hin)
      rw [mrows_get] at hrow
      have hstep : ls (at'.take k) (sc n M) = ls (at'.take (k - 1)) (sc n M) + sc n M at'[k - 1] := by
        have : at'.take k = at'.take (k - 1) ++ [at'[k - 1]] := by
          rw [← List.take_succ_eq_append_getElem hki]
          congr 1
          omega
        rw [this, ls_append, ls_cons, ls_nil]
        omega
      have hb1 := hbnd k
      have w7 : IntKind.i64.wrap (ls (at'.take (k - 1)) (sc n M) + sc n M at'[k - 1]) = ls (at'.take k) (sc n M) := by rw [← hstep]; exact wrap_id (by omega) (by omega)
      have e2 : ((2 : Int) = 0) = False := by simp
      repeat (first | with_reducible (first | refine W_seq ?_ | refine W_block ?_ | refine W_scope ?_ | refine W_regionV hTT ?_ | refine W_condV ?_ | refine W_ret ?_ | refine W_exit ?_ | refine W_skip ?_ | refine W_label ?_ | refine W_drawV hTT (by kernel_rfl) ?_) | simp only [H0, J86, J87, und3, und4, und22, und26, und29, und45, und64, info3, info4, info22, info26, info29, info45, info64, info50, und50, aggT, gv, dstAt, aop, evalsA, partsA, evalO, updO, ofArgs, binV, intBin, unV, mmV, builtinA, Nat.reduceLT, Nat.reduceEqDiff, Nat.reduceAdd, Nat.reduceSub, Nat.reduceMul, ↓reduceIte, reduceCtorEq, t1, t3, t4, t5, t6, e1, r2, w1, p1, p2, q1, q2])
      refine VCall_intro (sumX_call hrow (by rw [mrow_len]; omega) (hC.rowB hin)) ?_
      rintro v S2 ⟨rfl, rfl⟩
      repeat (first | with_reducible (first | refine W_seq ?_ | refine W_block ?_ | refine W_scope ?_ | refine W_regionV hTT ?_ | refine W_condV ?_ | refine W_ret ?_ | refine W_exit ?_ | refine W_skip ?_ | refine W_label ?_ | refine W_drawV hTT (by kernel_rfl) ?_) | simp only [H0, J86, J87, und3, und4, und22, und26, und29, und45, und64, info3, info4, info22, info26, info29, info45, info64, info50, und50, aggT, gv, dstAt, aop, evalsA, partsA, evalO, updO, ofArgs, binV, intBin, unV, mmV, builtinA, Nat.reduceLT, Nat.reduceEqDiff, Nat.reduceAdd, Nat.reduceSub, Nat.reduceMul, ↓reduceIte, reduceCtorEq, t1, t3, t4, t5, t6, sc_sum, w7, w1, w2, w3, w4, w5, w6, e2])
      refine VIf_split (fun h1 => ?_) (fun h1 => ?_)
      · obtain ⟨u, u1, u2, _⟩ := hM.sl.cut (T := TT) (ty := 26) (lo := 0) (hi := k) (l := none) (r := some (.int .i64 k)) und26 info3 rfl (by omega) (.inl ⟨rfl, rfl⟩) (.inr ⟨.i64, rfl⟩) (by omega) (by omega) hM.plain
        have hu : ((iv (nl at')).take (k * 1)).drop (0 * 1) = iv (nl (at'.take k)) := by simp [iv, nl, List.map_take]
        have hkl : (nl (at'.take k)).length = k := by rw [nl_len, List.length_take]; omega
        rw [hu, Nat.sub_zero] at u2
        have u3 : Sl S2 1 u (iv (nl (at'.take k))) (nl (at'.take k)).length := by rw [hkl]; exact u2
        repeat (first | with_reducible (first | refine W_seq ?_ | refine W_block ?_ | refine W_scope ?_ | refine W_regionV hTT ?_ | refine W_condV ?_ | refine W_ret ?_ | refine W_exit ?_ | refine W_skip ?_ | refine W_label ?_ | refine W_drawV hTT (by kernel_rfl) ?_) | simp only [H0, J86, J87, und3, und4, und22, und26, und29, und45, und64, info3, info4, info22, info26, info29, info45, info64, info50, und50, aggT, gv, dstAt, aop, evalsA, partsA, evalO, updO, ofArgs, binV, intBin, unV, mmV, builtinA, Nat.reduceLT, Nat.reduceEqDiff, Nat.reduceAdd, Nat.reduceSub, Nat.reduceMul, ↓reduceIte, reduceCtorEq, t1, t3, t4, t5, t6, u1])
        refine VCall_intro (valuesC_call (slCells u3)) ?_
        rintro v S3 ⟨rfl, rfl⟩
        repeat (first | with_reducible (first | refine W_seq ?_ | refine W_block ?_ | refine W_scope ?_ | refine W_regionV hTT ?_ | refine W_condV ?_ | refine W_ret ?_ | refine W_exit ?_ | refine W_skip ?_ | refine W_label ?_ | refine W_drawV hTT (by kernel_rfl) ?_) | simp only [H0, J86, J87, und3, und4, und22, und26, und29, und45, und64, info3, info4, info22, info26, info29, info45, info64, info50, und50, aggT, gv, dstAt, aop, evalsA, partsA, evalO, updO, ofArgs, binV, intBin, unV, mmV, builtinA, Nat.reduceLT, Nat.reduceEqDiff, Nat.reduceAdd, Nat.reduceSub, Nat.reduceMul, ↓reduceIte, reduceCtorEq])
        have hE3 : Ext S2 (S2.push (.cells [u] 26 0)) := (Ext.refl hE1.ok).push _
        refine VCall_intro (sortedOfX_call hE3.ok (get_push_new _ rfl) (u3.extd hE3) (by omega) (by omega)) ?_
        rintro v S4 ⟨hM4, hE4⟩
        repeat (first | with_reducible (first | refine W_seq ?_ | refine W_block ?_ | refine W_scope ?_ | refine W_regionV hTT ?_ | refine W_condV ?_ | refine W_ret ?_ | refine W_exit ?_ | refine W_skip ?_ | refine W_label ?_ | refine W_drawV hTT (by kernel_rfl) ?_) | simp only [H0, J86, J87, und3, und4, und22, und26, und29, und45, und64, info3, info4, info22, info26, info29, info45, info64, info50, und50, aggT, gv, dstAt, aop, evalsA, partsA, evalO, updO, ofArgs, binV, intBin, unV, mmV, builtinA, Nat.reduceLT, Nat.reduceEqDiff, Nat.reduceAdd, Nat.reduceSub, Nat.reduceMul, ↓reduceIte, reduceCtorEq])
        rw [hkl] at hM4
        exact ⟨hE01.trans (hE3.trans hE4), at', hp, hs', .inl ⟨k, hk0, hlt, of_decide_eq_true (by simpa using h1), hM4.mono (by rw [push_n]; omega)⟩⟩
      · repeat (first | with_reducible (first | refine W_seq ?_ | refine W_block ?_ | refine W_scope ?_ | refine W_regionV hTT ?_ | refine W_condV ?_ | refine W_ret ?_ | refine W_exit ?_ | refine W_skip ?_ | refine W_label ?_ | refine W_drawV hTT (by kernel_rfl) ?_) | simp only [H0, J86, J87, und3, und4, und22, und26, und29, und45, und64, info3, info4, info22, info26, info29, info45, info64, info50, und50, aggT, gv, dstAt, aop, evalsA, partsA, evalO, updO, ofArgs, binV, intBin, unV, mmV, builtinA, Nat.reduceLT, Nat.reduceEqDiff, Nat.reduceAdd, Nat.reduceSub, Nat.reduceMul, ↓reduceIte, reduceCtorEq, t1, t3, t4, t5, t6, hw])
        refine LoopQ_intro (n - (k + 1)) (by omega) ⟨rfl, rfl, k + 1, rfl, by omega, .inl (by omega), by simp only [H0, J86, J87, und3, und4, und22, und26, und29, und45, und64, info3, info4, info22, info26, info29, info45, info64, info50, und50, aggT, gv, dstAt, aop, evalsA, partsA, evalO, updO, ofArgs, binV, intBin, unV, mmV, builtinA, Nat.reduceLT, Nat.reduceEqDiff, Nat.reduceAdd, Nat.reduceSub, Nat.reduceMul, ↓reduceIte, reduceCtorEq, t1], by simp only [H0, J86, J87, und3, und4, und22, und26, und29, und45, und64, info3, info4, info22, info26, info29, info45, info64, info50, und50, aggT, gv, dstAt, aop, evalsA, partsA, evalO, updO, ofArgs, binV, intBin, unV, mmV, builtinA, Nat.reduceLT, Nat.reduceEqDiff, Nat.reduceAdd, Nat.reduceSub, Nat.reduceMul, ↓reduceIte, reduceCtorEq, t3], by simp only [H0, J86, J87, und3, und4, und22, und26, und29, und45, und64, info3, info4, info22, info26, info29, info45, info64, info50, und50, aggT, gv, dstAt, aop, evalsA, partsA, evalO, updO, ofArgs, binV, intBin, unV, mmV, builtinA, Nat.reduceLT, Nat.reduceEqDiff, Nat.reduceAdd, Nat.reduceSub, Nat.reduceMul, ↓reduceIte, reduceCtorEq, t4], by rw [Nat.add_sub_cancel]; simp only [H0, J86, J87, und3, und4, und22, und26, und29, und45, und64, info3, info4, info22, info26, info29, info45, info64, info50, und50, aggT, gv, dstAt, aop, evalsA, partsA, evalO, updO, ofArgs, binV, intBin, unV, mmV, builtinA, Nat.reduceLT, Nat.reduceEqDiff, Nat.reduceAdd, Nat.reduceSub, Nat.reduceMul, ↓reduceIte, reduceCtorEq], by simp only [H0, J86, J87, und3, und4, und22, und26, und29, und45, und64, info3, info4, info22, info26, info29, info45, info64, info50, und50, aggT, gv, dstAt, aop, evalsA, partsA, evalO, updO, ofArgs, binV, intBin, unV, mmV, builtinA, Nat.reduceLT, Nat.reduceEqDiff, Nat.reduceAdd, Nat.reduceSub, Nat.reduceMul, ↓reduceIte, reduceCtorEq, t6, hw], ?_⟩
        intro j h1j h2j
        by_cases e : j = k
        · subst e
          simpa using h1
        · exact hno j h1j (by omega)
    · have e1 : decide ((k : Int) < n) = false := by simpa using hlt
      repeat (first | with_reducible (first | refine W_seq ?_ | refine W_block ?_ | refine W_scope ?_ | refine W_regionV hTT ?_ | refine W_condV ?_ | refine W_ret ?_ | refine W_exit ?_ | refine W_skip ?_ | refine W_label ?_ | refine W_drawV hTT (by kernel_rfl) ?_) | simp only [H0, J86, J87, und3, und4, und22, und26, und29, und45, und64, info3, info4, info22, info26, info29, info45, info64, info50, und50, aggT, gv, dstAt, aop, evalsA, partsA, evalO, updO, ofArgs, binV, intBin, unV, mmV, builtinA, Nat.reduceLT, Nat.reduceEqDiff, Nat.reduceAdd, Nat.reduceSub, Nat.reduceMul, ↓reduceIte, reduceCtorEq, t1, t3, t4, t5, t6, e1])
      exact ⟨hE01, at', hp, hs', .inr fun j h1 h2 => hno j h1 (by omega)⟩
end Go.Proofs.Sz
end
/- part Zke -/
section
namespace Go.Proofs.Sz
open Go Go.Ax Go.Proofs Go.RowKit
theorem fn78 : TT.fn 78 = some Tryz.f78 := by kernel_rfl
theorem fn66 : TT.fn 66 = some Tryz.f66 := by kernel_rfl
theorem fn41 : TT.fn 41 = some Tryz.f41 := by kernel_rfl
/-- Index -/
theorem index_call {S : St} {va : Value} {xs : List Int} (ha : Sl S 1 va (iv xs) xs.length) (hbig : xs.length < 4611686018427387904) (y : Int) :
    CallW PP 78 [va, .int .i64 y] S (fun v S' => v = .int .i64 (idx (fun x => y == x) xs) ∧ S' = S) := by
  have hla := ha.len (T := TT) und26
  refine CallW_of hTT fn78 rfl (by simp [Tryz.f78]) ?_
  unfold Tryz.f78
  repeat (first | with_reducible (first | refine W_seq ?_ | refine W_block ?_ | refine W_scope ?_ | refine W_regionV hTT ?_ | refine W_condV ?_ | refine W_ret ?_ | refine W_exit ?_ | refine W_skip ?_ | refine W_label ?_ | refine W_drawV hTT (by kernel_rfl) ?_) | simp only [H0, J86, J87, und3, und4, und22, und26, und29, und45, und64, info3, info4, info22, info26, info29, info45, info64, info50, und50, aggT, gv, dstAt, aop, evalsA, partsA, evalO, updO, ofArgs, binV, intBin, unV, mmV, builtinA, Nat.reduceLT, Nat.reduceEqDiff, Nat.reduceAdd, Nat.reduceSub, Nat.reduceMul, ↓reduceIte, reduceCtorEq, hla])
  refine W_loopI (fun m τ ds S' => S' = S ∧ ds = [] ∧ ∃ k : Nat, m = xs.length - k ∧ k ≤ xs.length ∧ τ 0 = va ∧ τ 1 = .int .i64 y ∧ τ 7 = .int .i64 xs.length ∧ τ 8 = .int .i64 k ∧ ∀ i (h : i < xs.length), i < k → (y == xs[i]) = false) xs.length ?_ ?_
  · refine ⟨rfl, rfl, 0, by simp, by simp, ?_, ?_, ?_, ?_, by simp⟩ <;> first | rfl | simp only [H0, J86, J87, und3, und4, und22, und26, und29, und45, und64, info3, info4, info22, info26, info29, info45, info64, info50, und50, aggT, gv, dstAt, aop, evalsA, partsA, evalO, updO, ofArgs, binV, intBin, unV, mmV, builtinA, Nat.reduceLT, Nat.reduceEqDiff, Nat.reduceAdd, Nat.reduceSub, Nat.reduceMul, ↓reduceIte, reduceCtorEq]
  · rintro m τ ds S' ⟨rfl, rfl, k, rfl, hk, t0, t1, t7, t8, hb⟩
    by_cases hlt : k < xs.length
    · have e1 : decide ((k : Int) < xs.length) = true := by simpa using hlt
      obtain ⟨q, p1, p2, _⟩ := ha.at1 (T := TT) (k := .i64) und26 info3 und3 rfl rfl hlt
      rw [iv_get, List.getElem?_eq_getElem hlt] at p2
      have hw := wrap_succ (k := k) (by omega)
      repeat (first | with_reducible (first | refine W_seq ?_ | refine W_block ?_ | refine W_scope ?_ | refine W_regionV hTT ?_ | refine W_condV ?_ | refine W_ret ?_ | refine W_exit ?_ | refine W_skip ?_ | refine W_label ?_ | refine W_drawV hTT (by kernel_rfl) ?_) | simp only [H0, J86, J87, und3, und4, und22, und26, und29, und45, und64, info3, info4, info22, info26, info29, info45, info64, info50, und50, aggT, gv, dstAt, aop, evalsA, partsA, evalO, updO, ofArgs, binV, intBin, unV, mmV, builtinA, Nat.reduceLT, Nat.reduceEqDiff, Nat.reduceAdd, Nat.reduceSub, Nat.reduceMul, ↓reduceIte, reduceCtorEq, hla, t0, t1, t7, t8, e1, p1, p2, hw])
      refine VIf_split (fun h2 => ?_) (fun h2 => ?_)
      · repeat (first | with_reducible (first | refine W_seq ?_ | refine W_block ?_ | refine W_scope ?_ | refine W_regionV hTT ?_ | refine W_condV ?_ | refine W_ret ?_ | refine W_exit ?_ | refine W_skip ?_ | refine W_label ?_ | refine W_drawV hTT (by kernel_rfl) ?_) | simp only [H0, J86, J87, und3, und4, und22, und26, und29, und45, und64, info3, info4, info22, info26, info29, info45, info64, info50, und50, aggT, gv, dstAt, aop, evalsA, partsA, evalO, updO, ofArgs, binV, intBin, unV, mmV, builtinA, Nat.reduceLT, Nat.reduceEqDiff, Nat.reduceAdd, Nat.reduceSub, Nat.reduceMul, ↓reduceIte, reduceCtorEq, t8])
        congr 1
        exact (idx_at (p := fun x => y == x) hlt h2 hb).symm
      · repeat (first | with_reducible (first | refine W_seq ?_ | refine W_block ?_ | refine W_scope ?_ | refine W_regionV hTT ?_ | refine W_condV ?_ | refine W_ret ?_ | refine W_exit ?_ | refine W_skip ?_ | refine W_label ?_ | refine W_drawV hTT (by kernel_rfl) ?_) | simp only [H0, J86, J87, und3, und4, und22, und26, und29, und45, und64, info3, info4, info22, info26, info29, info45, info64, info50, und50, aggT, gv, dstAt, aop, evalsA, partsA, evalO, updO, ofArgs, binV, intBin, unV, mmV, builtinA, Nat.reduceLT, Nat.reduceEqDiff, Nat.reduceAdd, Nat.reduceSub, Nat.reduceMul, ↓reduceIte, reduceCtorEq, t0, t1, t7, t8, hw])
        refine LoopQ_intro (xs.length - (k + 1)) (by omega) ⟨rfl, rfl, k + 1, rfl, by omega, by simp only [H0, J86, J87, und3, und4, und22, und26, und29, und45, und64, info3, info4, info22, info26, info29, info45, info64, info50, und50, aggT, gv, dstAt, aop, evalsA, partsA, evalO, updO, ofArgs, binV, intBin, unV, mmV, builtinA, Nat.reduceLT, Nat.reduceEqDiff, Nat.reduceAdd, Nat.reduceSub, Nat.reduceMul, ↓reduceIte, reduceCtorEq, t0], by simp only [H0, J86, J87, und3, und4, und22, und26, und29, und45, und64, info3, info4, info22, info26, info29, info45, info64, info50, und50, aggT, gv, dstAt, aop, evalsA, partsA, evalO, updO, ofArgs, binV, intBin, unV, mmV, builtinA, Nat.reduceLT, Nat.reduceEqDiff, Nat.reduceAdd, Nat.reduceSub, Nat.reduceMul, ↓reduceIte, reduceCtorEq, t1], by simp only [H0, J86, J87, und3, und4, und22, und26, und29, und45, und64, info3, info4, info22, info26, info29, info45, info64, info50, und50, aggT, gv, dstAt, aop, evalsA, partsA, evalO, updO, ofArgs, binV, intBin, unV, mmV, builtinA, Nat.reduceLT, Nat.reduceEqDiff, Nat.reduceAdd, Nat.reduceSub, Nat.reduceMul, ↓reduceIte, reduceCtorEq, t7], by simp only [H0, J86, J87, und3, und4, und22, und26, und29, und45, und64, info3, info4, info22, info26, info29, info45, info64, info50, und50, aggT, gv, dstAt, aop, evalsA, partsA, evalO, updO, ofArgs, binV, intBin, unV, mmV, builtinA, Nat.reduceLT, Nat.reduceEqDiff, Nat.reduceAdd, Nat.reduceSub, Nat.reduceMul, ↓reduceIte, reduceCtorEq, t8], ?_⟩
        intro i hi hik
        by_cases e : i = k
        · subst e; exact h2
        · exact hb i hi (by omega)
    · have e1 : decide ((k : Int) < xs.length) = false := by simpa using hlt
      repeat (first | with_reducible (first | refine W_seq ?_ | refine W_block ?_ | refine W_scope ?_ | refine W_regionV hTT ?_ | refine W_condV ?_ | refine W_ret ?_ | refine W_exit ?_ | refine W_skip ?_ | refine W_label ?_ | refine W_drawV hTT (by kernel_rfl) ?_) | simp only [H0, J86, J87, und3, und4, und22, und26, und29, und45, und64, info3, info4, info22, info26, info29, info45, info64, info50, und50, aggT, gv, dstAt, aop, evalsA, partsA, evalO, updO, ofArgs, binV, intBin, unV, mmV, builtinA, Nat.reduceLT, Nat.reduceEqDiff, Nat.reduceAdd, Nat.reduceSub, Nat.reduceMul, ↓reduceIte, reduceCtorEq, hla, t0, t1, t7, t8, e1])
      rw [idx_none (p := fun x => y == x) (fun i hi => hb i hi (by omega))]
theorem idx_ge (p : Int → Bool) (l : List Int) : decide (idx p l ≥ 0) = l.any p := by
  unfold idx
  cases h : l.findIdx? p with
  | none =>
    rw [List.findIdx?_eq_none_iff] at h
    have : l.any p = false := by
      rw [List.any_eq_false]
      intro x hx
      rw [h x hx]
      simp
    rw [this]
    rfl
  | some i =>
    rw [List.findIdx?_eq_some_iff_getElem] at h
    obtain ⟨hi, h1, _⟩ := h
    have : l.any p = true := List.any_eq_true.2 ⟨_, List.getElem_mem hi, h1⟩
    rw [this]
    simp
/-- Contains -/
theorem contains_call {S : St} {va : Value} {xs : List Int} (ha : Sl S 1 va (iv xs) xs.length) (hbig : xs.length < 4611686018427387904) (y : Int) :
    CallW PP 66 [va, .int .i64 y] S (fun v S' => v = .bool (decide (y ∈ xs)) ∧ S' = S) := by
  have hany : xs.any (fun x => y == x) = decide (y ∈ xs) := by
    rw [Bool.eq_iff_iff, List.any_eq_true, decide_eq_true_iff]
    constructor
    · rintro ⟨x, hx, h⟩
      rw [beq_iff_eq] at h
      rw [h]; exact hx
    · intro h
      exact ⟨y, h, by simp⟩
  refine CallW_of hTT fn66 rfl (by simp [Tryz.f66]) ?_
  unfold Tryz.f66
  repeat (first | with_reducible (first | refine W_seq ?_ | refine W_block ?_ | refine W_scope ?_ | refine W_regionV hTT ?_ | refine W_condV ?_ | refine W_ret ?_ | refine W_exit ?_ | refine W_skip ?_ | refine W_label ?_ | refine W_drawV hTT (by kernel_rfl) ?_) | simp only [H0, J86, J87, und3, und4, und22, und26, und29, und45, und64, info3, info4, info22, info26, info29, info45, info64, info50, und50, aggT, gv, dstAt, aop, evalsA, partsA, evalO, updO, ofArgs, binV, intBin, unV, mmV, builtinA, Nat.reduceLT, Nat.reduceEqDiff, Nat.reduceAdd, Nat.reduceSub, Nat.reduceMul, ↓reduceIte, reduceCtorEq])
  refine VCall_intro (index_call ha hbig y) ?_
  rintro v S' ⟨rfl, rfl⟩
  repeat (first | with_reducible (first | refine W_seq ?_ | refine W_block ?_ | refine W_scope ?_ | refine W_regionV hTT ?_ | refine W_condV ?_ | refine W_ret ?_ | refine W_exit ?_ | refine W_skip ?_ | refine W_label ?_ | refine W_drawV hTT (by kernel_rfl) ?_) | simp only [H0, J86, J87, und3, und4, und22, und26, und29, und45, und64, info3, info4, info22, info26, info29, info45, info64, info50, und50, aggT, gv, dstAt, aop, evalsA, partsA, evalO, updO, ofArgs, binV, intBin, unV, mmV, builtinA, Nat.reduceLT, Nat.reduceEqDiff, Nat.reduceAdd, Nat.reduceSub, Nat.reduceMul, ↓reduceIte, reduceCtorEq, idx_ge, hany])
/-- one game, read -/
theorem game {S : St} {v : Value} {n : Nat} {M : Nat → Nat → Int} (hx : Mat S v (mrows n n M)) {i j : Nat} (hi : i < n) (hj : j < n) : ∃ p rv q, indexAddrA TT 22 (.int .i64 i) v = some p ∧ loadA TT S 26 p = some rv ∧ indexAddrA TT 26 (.int .i64 j) rv = some q ∧ loadA TT S 3 q = some (.int .i64 (M i j)) := by
  obtain ⟨p, rv, p1, p2, hrow, _⟩ := hx.row (T := TT) (k := .i64) und22 info26 und26 rfl (i := i) (by rw [mrows_len]; exact hi)
  rw [mrows_get] at hrow
  obtain ⟨q, q1, q2, _⟩ := hrow.at1 (T := TT) (k := .i64) und26 info3 und3 rfl rfl (i := j) (by rw [mrow_len]; exact hj)
  rw [iv_get, mrow_get _ hj] at q2
  exact ⟨p, rv, q, p1, p2, q1, q2⟩
theorem bs_three {S : St} {x y z : Int} : buildSliceA TT S 26 3 [(0, .int .i64 x), (1, .int .i64 y), (2, .int .i64 z)] = some (.slice (some ⟨S.n, 0, none⟩) 3 3, S.push (.cells [.int .i64 x, .int .i64 y, .int .i64 z] 3 0)) := by
  have h1 : zeroRow (.int .i64 0) (3 * 1) = #[.int .i64 0, .int .i64 0, .int .i64 0] := by
    apply Array.ext'
    rw [zeroRow_one rfl]
    rfl
  have h2 : Instr.fill (fun j => some (j * 1, 1)) (zeroRow (.int .i64 0) (3 * 1)) [(0, .int .i64 x), (1, .int .i64 y), (2, .int .i64 z)] = some #[.int .i64 x, .int .i64 y, .int .i64 z] := by
    rw [h1]
    simp [Instr.fill, Value.cells]
  simp only [buildSliceA, und26, info3, h2]
  rw [if_pos ⟨by rw [zeroRow_one rfl]; rfl, by omega⟩, if_pos (by unfold BIG; omega)]
theorem RowW.sl {S : St} {b : Nat} {v : Value} {xs : List Int} (h : RowW S b v xs) : Sl S 1 v (iv xs) xs.length := by
  obtain ⟨⟨c, g, rfl, hc, hg, hg2⟩⟩ := h
  rcases hc with ⟨h1, h2⟩ | ⟨rfl, rfl⟩
  · exact Sl.of_cells hg (by rw [iv_len, Nat.mul_one]) h1 h2
  · exact Mine.sl (lo := 0) (.inr ⟨b, rfl, Nat.zero_le _, hg, by rw [iv_len, Nat.mul_one]⟩)
set_option maxHeartbeats 4000000 in
/-- three -/
theorem three_call {S : St} (hok : S.ok) {vl : Value} {n : Nat} {M : Nat → Nat → Int} (hx : Mat S vl (mrows n n M)) (hn : n ≤ 30) (hC : IsC n M) :
    CallW PP 41 [vl] S (fun v S' => Ext S S' ∧ ((∃ i j k b, i < n ∧ j < n ∧ k < n ∧ M i j + M j k + M k i = 3 ∧ S.n ≤ b ∧ RowW S' b v (nl [i, j, k])) ∨ (v = .slice none 0 0 ∧ ∀ i j k, i < n → j < n → k < n → ¬ M i j + M j k + M k i = 3))) := by
  have hla := hx.len (T := TT) und22
  rw [mrows_len] at hla
  refine CallW_of hTT fn41 rfl (by simp [Tryz.f41]) ?_
  unfold Tryz.f41
  repeat (first | with_reducible (first | refine W_seq ?_ | refine W_scope ?_ | refine W_regionV hTT ?_ | refine W_condV ?_ | refine W_ret ?_ | refine W_exit ?_ | refine W_skip ?_ | refine W_label ?_ | refine W_drawV hTT (by kernel_rfl) ?_) | simp only [H0, J86, J87, und3, und4, und22, und26, und29, und45, und64, info3, info4, info22, info26, info29, info45, info64, info50, und50, aggT, gv, dstAt, aop, evalsA, partsA, evalO, updO, ofArgs, binV, intBin, unV, mmV, builtinA, Nat.reduceLT, Nat.reduceEqDiff, Nat.reduceAdd, Nat.reduceSub, Nat.reduceMul, ↓reduceIte, reduceCtorEq, hla])
  refine W_block ?_
  refine W_loopI (fun m τ ds S' => S' = S ∧ ds = [] ∧ ∃ i : Nat, m = n - i ∧ i ≤ n ∧ τ 0 = vl ∧ τ 7 = .int .i64 n ∧ τ 8 = .int .i64 i ∧ ∀ a j k, a < i → j < n → k < n → ¬ M a j + M j k + M k a = 3) n ?_ ?_
  · refine ⟨rfl, rfl, 0, by omega, by omega, ?_, ?_, ?_, fun a j k h => by omega⟩ <;> first | rfl | simp only [H0, J86, J87, und3, und4, und22, und26, und29, und45, und64, info3, info4, info22, info26, info29, info45, info64, info50, und50, aggT, gv, dstAt, aop, evalsA, partsA, evalO, updO, ofArgs, binV, intBin, unV, mmV, builtinA, Nat.reduceLT, Nat.reduceEqDiff, Nat.reduceAdd, Nat.reduceSub, Nat.reduceMul, ↓reduceIte, reduceCtorEq]
  rintro m τ ds S' ⟨rfl, rfl, i, rfl, hi, t0, t7, t8, hno⟩
  by_cases hin : i < n
  · have e1 : decide ((i : Int) < n) = true := by simpa using hin
    have hw := wrap_succ (k := i) (by omega)
    repeat (first | with_reducible (first | refine W_seq ?_ | refine W_scope ?_ | refine W_regionV hTT ?_ | refine W_condV ?_ | refine W_ret ?_ | refine W_exit ?_ | refine W_skip ?_ | refine W_label ?_ | refine W_drawV hTT (by kernel_rfl) ?_) | simp only [H0, J86, J87, und3, und4, und22, und26, und29, und45, und64, info3, info4, info22, info26, info29, info45, info64, info50, und50, aggT, gv, dstAt, aop, evalsA, partsA, evalO, updO, ofArgs, binV, intBin, unV, mmV, builtinA, Nat.reduceLT, Nat.reduceEqDiff, Nat.reduceAdd, Nat.reduceSub, Nat.reduceMul, ↓reduceIte, reduceCtorEq, t0, t7, t8, e1])
    refine W_block ?_
    repeat (first | with_reducible (first | refine W_seq ?_ | refine W_scope ?_ | refine W_regionV hTT ?_ | refine W_condV ?_ | refine W_ret ?_ | refine W_exit ?_ | refine W_skip ?_ | refine W_label ?_ | refine W_drawV hTT (by kernel_rfl) ?_) | simp only [H0, J86, J87, und3, und4, und22, und26, und29, und45, und64, info3, info4, info22, info26, info29, info45, info64, info50, und50, aggT, gv, dstAt, aop, evalsA, partsA, evalO, updO, ofArgs, binV, intBin, unV, mmV, builtinA, Nat.reduceLT, Nat.reduceEqDiff, Nat.reduceAdd, Nat.reduceSub, Nat.reduceMul, ↓reduceIte, reduceCtorEq, t0, t7, t8, hla])
    refine W_block ?_
    refine W_loopI (fun m τ ds S2 => S2 = S' ∧ ds = [] ∧ ∃ j : Nat, m = n - j ∧ j ≤ n ∧ τ 0 = vl ∧ τ 7 = .int .i64 n ∧ τ 8 = .int .i64 i ∧ τ 3 = .int .i64 i ∧ τ 12 = .int .i64 n ∧ τ 13 = .int .i64 j ∧ ∀ a k, a < j → k < n → ¬ M i a + M a k + M k i = 3) n ?_ ?_
    · refine ⟨rfl, rfl, 0, by omega, by omega, ?_, ?_, ?_, ?_, ?_, ?_, fun a k h => by omega⟩ <;> first | rfl | simp only [H0, J86, J87, und3, und4, und22, und26, und29, und45, und64, info3, info4, info22, info26, info29, info45, info64, info50, und50, aggT, gv, dstAt, aop, evalsA, partsA, evalO, updO, ofArgs, binV, intBin, unV, mmV, builtinA, Nat.reduceLT, Nat.reduceEqDiff, Nat.reduceAdd, Nat.reduceSub, Nat.reduceMul, ↓reduceIte, reduceCtorEq, t0, t7, t8]
    rintro m τ ds S2 ⟨rfl, rfl, j, rfl, hj, t0, t7, t8, t3, t12, t13, hno2⟩
    by_cases hjn : j < n
    · have e2 : decide ((j : Int) < n) = true := by simpa using hjn
      have hw2 := wrap_succ (k := j) (by omega)
      repeat (first | with_reducible (first | refine W_seq ?_ | refine W_scope ?_ | refine W_regionV hTT ?_ | refine W_condV ?_ | refine W_ret ?_ | refine W_exit ?_ | refine W_skip ?_ | refine W_label ?_ | refine W_drawV hTT (by kernel_rfl) ?_) | simp only [H0, J86, J87, und3, und4, und22, und26, und29, und45, und64, info3, info4, info22, info26, info29, info45, info64, info50, und50, aggT, gv, dstAt, aop, evalsA, partsA, evalO, updO, ofArgs, binV, intBin, unV, mmV, builtinA, Nat.reduceLT, Nat.reduceEqDiff, Nat.reduceAdd, Nat.reduceSub, Nat.reduceMul, ↓reduceIte, reduceCtorEq, t0, t7, t8, t3, t12, t13, e2])
      refine W_block ?_
      repeat (first | with_reducible (first | refine W_seq ?_ | refine W_scope ?_ | refine W_regionV hTT ?_ | refine W_condV ?_ | refine W_ret ?_ | refine W_exit ?_ | refine W_skip ?_ | refine W_label ?_ | refine W_drawV hTT (by kernel_rfl) ?_) | simp only [H0, J86, J87, und3, und4, und22, und26, und29, und45, und64, info3, info4, info22, info26, info29, info45, info64, info50, und50, aggT, gv, dstAt, aop, evalsA, partsA, evalO, updO, ofArgs, binV, intBin, unV, mmV, builtinA, Nat.reduceLT, Nat.reduceEqDiff, Nat.reduceAdd, Nat.reduceSub, Nat.reduceMul, ↓reduceIte, reduceCtorEq, t0, t7, t8, t3, t12, t13, hla])
      refine W_block ?_
      refine W_loopI (fun m τ ds S3 => S3 = S2 ∧ ds = [] ∧ ∃ k : Nat, m = n - k ∧ k ≤ n ∧ τ 0 = vl ∧ τ 7 = .int .i64 n ∧ τ 8 = .int .i64 i ∧ τ 3 = .int .i64 i ∧ τ 12 = .int .i64 n ∧ τ 13 = .int .i64 j ∧ τ 4 = .int .i64 j ∧ τ 17 = .int .i64 n ∧ τ 18 = .int .i64 k ∧ ∀ a, a < k → ¬ M i j + M j a + M a i = 3) n ?_ ?_
      · refine ⟨rfl, rfl, 0, by omega, by omega, ?_, ?_, ?_, ?_, ?_, ?_, ?_, ?_, ?_, fun a h => by omega⟩ <;> first | rfl | simp only [H0, J86, J87, und3, und4, und22, und26, und29, und45, und64, info3, info4, info22, info26, info29, info45, info64, info50, und50, aggT, gv, dstAt, aop, evalsA, partsA, evalO, updO, ofArgs, binV, intBin, unV, mmV, builtinA, Nat.reduceLT, Nat.reduceEqDiff, Nat.reduceAdd, Nat.reduceSub, Nat.reduceMul, ↓reduceIte, reduceCtorEq, t0, t7, t8, t3, t12, t13]
      rintro m τ ds S3 ⟨rfl, rfl, k, rfl, hk, t0, t7, t8, t3, t12, t13, t4, t17, t18, hno3⟩
      by_cases hkn : k < n
      · have e3 : decide ((k : Int) < n) = true := by simpa using hkn
        have hw3 := wrap_succ (k := k) (by omega)
        obtain ⟨p1, r1, q1, a1, a2, a3, a4⟩ := game hx hin hjn
        obtain ⟨p2, r2, q2, b1, b2, b3, b4⟩ := game hx hjn hkn
        obtain ⟨p3, r3, q3, c1, c2, c3, c4⟩ := game hx hkn hin
        have x1 := hC.bit hin hjn
        have x2 := hC.bit hjn hkn
        have x3 := hC.bit hkn hin
        have w1 : IntKind.i64.wrap (M i j + M j k) = M i j + M j k := wrap_id (by omega) (by omega)
        have w2 : IntKind.i64.wrap (M i j + M j k + M k i) = M i j + M j k + M k i := wrap_id (by omega) (by omega)
        repeat (first | with_reducible (first | refine W_seq ?_ | refine W_block ?_ | refine W_scope ?_ | refine W_regionV hTT ?_ | refine W_condV ?_ | refine W_ret ?_ | refine W_exit ?_ | refine W_skip ?_ | refine W_label ?_ | refine W_drawV hTT (by kernel_rfl) ?_) | simp only [H0, J86, J87, und3, und4, und22, und26, und29, und45, und64, info3, info4, info22, info26, info29, info45, info64, info50, und50, aggT, gv, dstAt, aop, evalsA, partsA, evalO, updO, ofArgs, binV, intBin, unV, mmV, builtinA, Nat.reduceLT, Nat.reduceEqDiff, Nat.reduceAdd, Nat.reduceSub, Nat.reduceMul, ↓reduceIte, reduceCtorEq, t0, t7, t8, t3, t12, t13, t4, t17, t18, e3, a1, a2, a3, a4, b1, b2, b3, b4, c1, c2, c3, c4, w1, w2])
        refine VIf_split (fun h1 => ?_) (fun h1 => ?_)
        · have h3 : M i j + M j k + M k i = 3 := by simpa using h1
          have bs := bs_three (S := S3) (x := i) (y := j) (z := k)
          repeat (first | with_reducible (first | refine W_seq ?_ | refine W_block ?_ | refine W_scope ?_ | refine W_regionV hTT ?_ | refine W_condV ?_ | refine W_ret ?_ | refine W_exit ?_ | refine W_skip ?_ | refine W_label ?_ | refine W_drawV hTT (by kernel_rfl) ?_) | simp only [H0, J86, J87, und3, und4, und22, und26, und29, und45, und64, info3, info4, info22, info26, info29, info45, info64, info50, und50, aggT, gv, dstAt, aop, evalsA, partsA, evalO, updO, ofArgs, binV, intBin, unV, mmV, builtinA, Nat.reduceLT, Nat.reduceEqDiff, Nat.reduceAdd, Nat.reduceSub, Nat.reduceMul, ↓reduceIte, reduceCtorEq, t0, t3, t4, bs])
          refine ⟨(Ext.refl hok).push _, .inl ⟨i, j, k, S3.n, hin, hjn, hkn, h3, Nat.le_refl _, ⟨⟨3, 0, rfl, .inl ⟨by unfold BIG; omega, Nat.le_refl _⟩, get_push_new _ rfl, .inl rfl⟩⟩⟩⟩
        · repeat (first | with_reducible (first | refine W_seq ?_ | refine W_block ?_ | refine W_scope ?_ | refine W_regionV hTT ?_ | refine W_condV ?_ | refine W_ret ?_ | refine W_exit ?_ | refine W_skip ?_ | refine W_label ?_ | refine W_drawV hTT (by kernel_rfl) ?_) | simp only [H0, J86, J87, und3, und4, und22, und26, und29, und45, und64, info3, info4, info22, info26, info29, info45, info64, info50, und50, aggT, gv, dstAt, aop, evalsA, partsA, evalO, updO, ofArgs, binV, intBin, unV, mmV, builtinA, Nat.reduceLT, Nat.reduceEqDiff, Nat.reduceAdd, Nat.reduceSub, Nat.reduceMul, ↓reduceIte, reduceCtorEq, t0, t7, t8, t3, t12, t13, t4, t17, t18, hw3])
          refine LoopQ_intro (n - (k + 1)) (by omega) ⟨rfl, rfl, k + 1, rfl, by omega, by simp only [H0, J86, J87, und3, und4, und22, und26, und29, und45, und64, info3, info4, info22, info26, info29, info45, info64, info50, und50, aggT, gv, dstAt, aop, evalsA, partsA, evalO, updO, ofArgs, binV, intBin, unV, mmV, builtinA, Nat.reduceLT, Nat.reduceEqDiff, Nat.reduceAdd, Nat.reduceSub, Nat.reduceMul, ↓reduceIte, reduceCtorEq, t0], by simp only [H0, J86, J87, und3, und4, und22, und26, und29, und45, und64, info3, info4, info22, info26, info29, info45, info64, info50, und50, aggT, gv, dstAt, aop, evalsA, partsA, evalO, updO, ofArgs, binV, intBin, unV, mmV, builtinA, Nat.reduceLT, Nat.reduceEqDiff, Nat.reduceAdd, Nat.reduceSub, Nat.reduceMul, ↓reduceIte, reduceCtorEq, t7], by simp only [H0, J86, J87, und3, und4, und22, und26, und29, und45, und64, info3, info4, info22, info26, info29, info45, info64, info50, und50, aggT, gv, dstAt, aop, evalsA, partsA, evalO, updO, ofArgs, binV, intBin, unV, mmV, builtinA, Nat.reduceLT, Nat.reduceEqDiff, Nat.reduceAdd, Nat.reduceSub, Nat.reduceMul, ↓reduceIte, reduceCtorEq, t8], by simp only [H0, J86, J87, und3, und4, und22, und26, und29, und45, und64, info3, info4, info22, info26, info29, info45, info64, info50, und50, aggT, gv, dstAt, aop, evalsA, partsA, evalO, updO, ofArgs, binV, intBin, unV, mmV, builtinA, Nat.reduceLT, Nat.reduceEqDiff, Nat.reduceAdd, Nat.reduceSub, Nat.reduceMul, ↓reduceIte, reduceCtorEq, t3], by simp only [H0, J86, J87, und3, und4, und22, und26, und29, und45, und64, info3, info4, info22, info26, info29, info45, info64, info50, und50, aggT, gv, dstAt, aop, evalsA, partsA, evalO, updO, ofArgs, binV, intBin, unV, mmV, builtinA, Nat.reduceLT, Nat.reduceEqDiff, Nat.reduceAdd, Nat.reduceSub, Nat.reduceMul, ↓reduceIte, reduceCtorEq, t12], by simp only [H0, J86, J87, und3, und4, und22, und26, und29, und45, und64, info3, info4, info22, info26, info29, info45, info64, info50, und50, aggT, gv, dstAt, aop, evalsA, partsA, evalO, updO, ofArgs, binV, intBin, unV, mmV, builtinA, Nat.reduceLT, Nat.reduceEqDiff, Nat.reduceAdd, Nat.reduceSub, Nat.reduceMul, ↓reduceIte, reduceCtorEq, t13], by simp only [H0, J86, J87, und3, und4, und22, und26, und29, und45, und64, info3, info4, info22, info26, info29, info45, info64, info50, und50, aggT, gv, dstAt, aop, evalsA, partsA, evalO, updO, ofArgs, binV, intBin, unV, mmV, builtinA, Nat.reduceLT, Nat.reduceEqDiff, Nat.reduceAdd, Nat.reduceSub, Nat.reduceMul, ↓reduceIte, reduceCtorEq, t4], by simp only [H0, J86, J87, und3, und4, und22, und26, und29, und45, und64, info3, info4, info22, info26, info29, info45, info64, info50, und50, aggT, gv, dstAt, aop, evalsA, partsA, evalO, updO, ofArgs, binV, intBin, unV, mmV, builtinA, Nat.reduceLT, Nat.reduceEqDiff, Nat.reduceAdd, Nat.reduceSub, Nat.reduceMul, ↓reduceIte, reduceCtorEq, t17], by simp only [H0, J86, J87, und3, und4, und22, und26, und29, und45, und64, info3, info4, info22, info26, info29, info45, info64, info50, und50, aggT, gv, dstAt, aop, evalsA, partsA, evalO, updO, ofArgs, binV, intBin, unV, mmV, builtinA, Nat.reduceLT, Nat.reduceEqDiff, Nat.reduceAdd, Nat.reduceSub, Nat.reduceMul, ↓reduceIte, reduceCtorEq, t18, hw3], ?_⟩
          intro a ha
          by_cases e : a = k
          · subst e; simpa using h1
          · exact hno3 a (by omega)
      · have e3 : decide ((k : Int) < n) = false := by simpa using hkn
        repeat (first | with_reducible (first | refine W_seq ?_ | refine W_block ?_ | refine W_scope ?_ | refine W_regionV hTT ?_ | refine W_condV ?_ | refine W_ret ?_ | refine W_exit ?_ | refine W_skip ?_ | refine W_label ?_ | refine W_drawV hTT (by kernel_rfl) ?_) | simp only [H0, J86, J87, und3, und4, und22, und26, und29, und45, und64, info3, info4, info22, info26, info29, info45, info64, info50, und50, aggT, gv, dstAt, aop, evalsA, partsA, evalO, updO, ofArgs, binV, intBin, unV, mmV, builtinA, Nat.reduceLT, Nat.reduceEqDiff, Nat.reduceAdd, Nat.reduceSub, Nat.reduceMul, ↓reduceIte, reduceCtorEq, t0, t7, t8, t3, t12, t13, t4, t17, t18, e3, hw2])
        refine LoopQ_intro (n - (j + 1)) (by omega) ⟨rfl, rfl, j + 1, rfl, by omega, by simp only [H0, J86, J87, und3, und4, und22, und26, und29, und45, und64, info3, info4, info22, info26, info29, info45, info64, info50, und50, aggT, gv, dstAt, aop, evalsA, partsA, evalO, updO, ofArgs, binV, intBin, unV, mmV, builtinA, Nat.reduceLT, Nat.reduceEqDiff, Nat.reduceAdd, Nat.reduceSub, Nat.reduceMul, ↓reduceIte, reduceCtorEq, t0], by simp only [H0, J86, J87, und3, und4, und22, und26, und29, und45, und64, info3, info4, info22, info26, info29, info45, info64, info50, und50, aggT, gv, dstAt, aop, evalsA, partsA, evalO, updO, ofArgs, binV, intBin, unV, mmV, builtinA, Nat.reduceLT, Nat.reduceEqDiff, Nat.reduceAdd, Nat.reduceSub, Nat.reduceMul, ↓reduceIte, reduceCtorEq, t7], by simp only [H0, J86, J87, und3, und4, und22, und26, und29, und45, und64, info3, info4, info22, info26, info29, info45, info64, info50, und50, aggT, gv, dstAt, aop, evalsA, partsA, evalO, updO, ofArgs, binV, intBin, unV, mmV, builtinA, Nat.reduceLT, Nat.reduceEqDiff, Nat.reduceAdd, Nat.reduceSub, Nat.reduceMul, ↓reduceIte, reduceCtorEq, t8], by simp only [H0, J86, J87, und3, und4, und22, und26, und29, und45, und64, info3, info4, info22, info26, info29, info45, info64, info50, und50, aggT, gv, dstAt, aop, evalsA, partsA, evalO, updO, ofArgs, binV, intBin, unV, mmV, builtinA, Nat.reduceLT, Nat.reduceEqDiff, Nat.reduceAdd, Nat.reduceSub, Nat.reduceMul, ↓reduceIte, reduceCtorEq, t3], by simp only [H0, J86, J87, und3, und4, und22, und26, und29, und45, und64, info3, info4, info22, info26, info29, info45, info64, info50, und50, aggT, gv, dstAt, aop, evalsA, partsA, evalO, updO, ofArgs, binV, intBin, unV, mmV, builtinA, Nat.reduceLT, Nat.reduceEqDiff, Nat.reduceAdd, Nat.reduceSub, Nat.reduceMul, ↓reduceIte, reduceCtorEq, t12], by simp only [H0, J86, J87, und3, und4, und22, und26, und29, und45, und64, info3, info4, info22, info26, info29, info45, info64, info50, und50, aggT, gv, dstAt, aop, evalsA, partsA, evalO, updO, ofArgs, binV, intBin, unV, mmV, builtinA, Nat.reduceLT, Nat.reduceEqDiff, Nat.reduceAdd, Nat.reduceSub, Nat.reduceMul, ↓reduceIte, reduceCtorEq, t13, hw2], ?_⟩
        intro a b ha hb
        by_cases e : a = j
        · subst e; exact hno3 b (by omega)
        · exact hno2 a b (by omega) hb
    · have e2 : decide ((j : Int) < n) = false := by simpa using hjn
      repeat (first | with_reducible (first | refine W_seq ?_ | refine W_block ?_ | refine W_scope ?_ | refine W_regionV hTT ?_ | refine W_condV ?_ | refine W_ret ?_ | refine W_exit ?_ | refine W_skip ?_ | refine W_label ?_ | refine W_drawV hTT (by kernel_rfl) ?_) | simp only [H0, J86, J87, und3, und4, und22, und26, und29, und45, und64, info3, info4, info22, info26, info29, info45, info64, info50, und50, aggT, gv, dstAt, aop, evalsA, partsA, evalO, updO, ofArgs, binV, intBin, unV, mmV, builtinA, Nat.reduceLT, Nat.reduceEqDiff, Nat.reduceAdd, Nat.reduceSub, Nat.reduceMul, ↓reduceIte, reduceCtorEq, t0, t7, t8, t3, t12, t13, e2, hw])
      refine LoopQ_intro (n - (i + 1)) (by omega) ⟨rfl, rfl, i + 1, rfl, by omega, by simp only [H0, J86, J87, und3, und4, und22, und26, und29, und45, und64, info3, info4, info22, info26, info29, info45, info64, info50, und50, aggT, gv, dstAt, aop, evalsA, partsA, evalO, updO, ofArgs, binV, intBin, unV, mmV, builtinA, Nat.reduceLT, Nat.reduceEqDiff, Nat.reduceAdd, Nat.reduceSub, Nat.reduceMul, ↓reduceIte, reduceCtorEq, t0], by simp only [H0, J86, J87, und3, und4, und22, und26, und29, und45, und64, info3, info4, info22, info26, info29, info45, info64, info50, und50, aggT, gv, dstAt, aop, evalsA, partsA, evalO, updO, ofArgs, binV, intBin, unV, mmV, builtinA, Nat.reduceLT, Nat.reduceEqDiff, Nat.reduceAdd, Nat.reduceSub, Nat.reduceMul, ↓reduceIte, reduceCtorEq, t7], by simp only [H0, J86, J87, und3, und4, und22, und26, und29, und45, und64, info3, info4, info22, info26, info29, info45, info64, info50, und50, aggT, gv, dstAt, aop, evalsA, partsA, evalO, updO, ofArgs, binV, intBin, unV, mmV, builtinA, Nat.reduceLT, Nat.reduceEqDiff, Nat.reduceAdd, Nat.reduceSub, Nat.reduceMul, ↓reduceIte, reduceCtorEq, t8, hw], ?_⟩
      intro a b c ha hb hc
      by_cases e : a = i
      · subst e; exact hno2 b c (by omega) hc
      · exact hno a b c (by omega) hb hc
  · have e1 : decide ((i : Int) < n) = false := by simpa using hin
    repeat (first | with_reducible (first | refine W_seq ?_ | refine W_block ?_ | refine W_scope ?_ | refine W_regionV hTT ?_ | refine W_condV ?_ | refine W_ret ?_ | refine W_exit ?_ | refine W_skip ?_ | refine W_label ?_ | refine W_drawV hTT (by kernel_rfl) ?_) | simp only [H0, J86, J87, und3, und4, und22, und26, und29, und45, und64, info3, info4, info22, info26, info29, info45, info64, info50, und50, aggT, gv, dstAt, aop, evalsA, partsA, evalO, updO, ofArgs, binV, intBin, unV, mmV, builtinA, Nat.reduceLT, Nat.reduceEqDiff, Nat.reduceAdd, Nat.reduceSub, Nat.reduceMul, ↓reduceIte, reduceCtorEq, t0, t7, t8, e1])
    exact ⟨Ext.refl hok, .inr fun a b c ha hb hc => hno a b c (by omega) hb hc⟩
end Go.Proofs.Sz
end
