/- A run on an abstract store, proved right for every world, and the functions of the law walked by it: part 3 of 7. -/
import Derived.Test.YtiinngafmlbgpaaGreatSp1
import Derived.IntWalk
import Derived.WalkKit
import Derived.ProofKit
import Derived.OpenShut
import Derived.ShutString
import Derived.ChangeOld
import Derived.Below
import Derived.Test.YtiinngafmlbgpaaGreatProg
import Derived.KernelRfl
import Derived.Shelf.Spec.SlicesInsertGrow
import Derived.Laws.Bits64
set_option linter.unusedSimpArgs false
set_option linter.unusedVariables false
/- part We -/
section
/- Slices upon a store that is known in part. -/
namespace Go.Ax
open Go.RowKit

section
variable {P : Program} {n : Nat} {ro : Option Nat} {τ : Nat → Value} {ds : List Nat} {S : St} {Q : Post}
theorem wrap_id {x : Int} (h1 : -9223372036854775808 ≤ x) (h2 : x < 9223372036854775808) : IntKind.i64.wrap x = x := IntWalk.i64_in _ (by omega)
theorem wrap_succ {k : Nat} (h : k < 4611686018427387904) : IntKind.i64.wrap ((k : Int) + 1) = ((k + 1 : Nat) : Int) := by rw [wrap_id (by omega) (by omega)]; rfl
noncomputable abbrev iv (l : List Int) : List Value := l.map (.int .i64)
theorem iv_get (l : List Int) (i : Nat) : (iv l)[i]? = (l[i]?).map (.int .i64) := by simp [iv]
theorem iv_len (l : List Int) : (iv l).length = l.length := by simp [iv]
abbrev Inv := Nat → (Nat → Value) → List Nat → St → Prop
/-- a round's end -/
def LoopQ (I : Inv) (m : Nat) (Q : Post) : Post := fun e τ ds S => match e with
  | .normal => ∃ m', m' < m ∧ I m' τ ds S
  | .exit id => Q (.exit id) τ ds S
  | .ret => Q .ret τ ds S
theorem LoopQ_normal {I : Inv} {m : Nat} : LoopQ I m Q .normal τ ds S = ∃ m', m' < m ∧ I m' τ ds S := Eq.trans rfl rfl
/-- it ends as it should, and so is it then -/
def NQ (R : (Nat → Value) → List Nat → St → Prop) : Post := fun e τ ds S => match e with
  | .normal => R τ ds S
  | _ => False
theorem NQ_intro {R : (Nat → Value) → List Nat → St → Prop} (h : R τ ds S) : NQ R .normal τ ds S := h
theorem NQ_normal {R : (Nat → Value) → List Nat → St → Prop} : NQ R .normal τ ds S = R τ ds S := Eq.trans rfl rfl
theorem W_cut {c : Code} (R : (Nat → Value) → List Nat → St → Prop) (h : W P n ro c τ ds S (NQ R)) (hk : ∀ τ ds S, R τ ds S → Q .normal τ ds S) : W P n ro c τ ds S Q := by
  refine h.mono ?_
  intro e τ' ds' S' h
  cases e with
  | normal => exact hk _ _ _ h
  | exit id => exact h.elim
  | ret => exact h.elim
theorem LoopQ_intro {I : Inv} {m : Nat} (m' : Nat) (h : m' < m) (hI : I m' τ ds S) : LoopQ I m Q .normal τ ds S := ⟨m', h, hI⟩
theorem LoopQ_exit {I : Inv} {m id : Nat} : LoopQ I m Q (.exit id) τ ds S = Q (.exit id) τ ds S := Eq.trans rfl rfl
theorem LoopQ_ret {I : Inv} {m : Nat} : LoopQ I m Q .ret τ ds S = Q .ret τ ds S := Eq.trans rfl rfl
theorem W_loopI {c : Code} (I : Inv) (m : Nat) (h0 : I m τ ds S) (hstep : ∀ m τ ds S, I m τ ds S → W P n ro c τ ds S (LoopQ I m Q)) : W P n ro (.loop c) τ ds S Q := by
  refine W_loop I m h0 fun m τ ds S hI => (hstep m τ ds S hI).mono ?_
  intro e τ' ds' S' h
  cases e <;> exact h
end

section
variable {T : Tab} {S S' : St}

/-- what an object's cells read as, and where they begin -/
noncomputable def view (S : St) (b : Nat) : Option (Nat × List Value) := match S.get b with
  | some (.cells cs _ _) => some (0, cs)
  | some (.ext o cs) => some (o, cs)
  | _ => none
theorem view_lt {b : Nat} {x : Nat × List Value} (h : view S b = some x) : b < S.n := by
  unfold view at h
  split at h
  · rename_i hg; exact lt_of_get hg
  · rename_i hg; exact lt_of_get hg
  · cases h
theorem view_cells {b : Nat} {cs : List Value} {t : TypeId} {g : Nat} (h : S.get b = some (.cells cs t g)) : view S b = some (0, cs) := by unfold view; rw [h]
theorem view_ext {b o : Nat} {cs : List Value} (h : S.get b = some (.ext o cs)) : view S b = some (o, cs) := by unfold view; rw [h]
theorem view_get {b : Nat} (h : S'.get b = S.get b) : view S' b = view S b := by unfold view; rw [h]

/-- a slice of n elements of sz cells each; cs: all its cells -/
def Sl (S : St) (sz : Nat) (v : Value) (cs : List Value) (n : Nat) : Prop :=
  (v = .slice none 0 0 ∧ cs = [] ∧ n = 0) ∨ (∃ b o z c, v = .slice (some ⟨b, o, some z⟩) 0 c ∧ cs = [] ∧ n = 0) ∨ ∃ b o c o0 all, v = .slice (some ⟨b, o, none⟩) n c ∧ view S b = some (o0, all) ∧ o0 ≤ o ∧ cs.length = n * sz ∧ o - o0 + n * sz ≤ all.length ∧ (all.drop (o - o0)).take (n * sz) = cs ∧
    ((c < BIG ∧ n ≤ c) ∨ (∃ t, S.get b = some (.cells all t sz) ∧ BIG ≤ c ∧ o = (c - BIG) * sz))
theorem Sl.length {sz n : Nat} {v : Value} {cs : List Value} (h : Sl S sz v cs n) : cs.length = n * sz := by
  rcases h with ⟨_, rfl, rfl⟩ | ⟨_, _, _, _, _, rfl, rfl⟩ | ⟨b, o, c, o0, all, _, _, _, h, _⟩
  · simp
  · simp
  · exact h
/-- the block that a slice lies in -/
def baseOf : Value → Option Nat
  | .slice (some ⟨b, _, none⟩) _ _ => some b
  | .pointer (some ⟨b, _, none⟩) => some b
  | _ => none
theorem Sl.same {sz n : Nat} {v : Value} {cs : List Value} (h : Sl S sz v cs n) (hs : ∀ b, baseOf v = some b → S'.get b = S.get b) : Sl S' sz v cs n := by
  rcases h with h | h | ⟨b, o, c, o0, all, rfl, h1, h2, h3, h4, h5, h6⟩
  · exact .inl h
  · exact .inr (.inl h)
  · have hb := hs b rfl
    refine .inr (.inr ⟨b, o, c, o0, all, rfl, by rw [view_get hb]; exact h1, h2, h3, h4, h5, ?_⟩)
    rw [hb]
    exact h6
theorem Sl.base {sz n : Nat} {v : Value} {cs : List Value} (h : Sl S sz v cs n) {b : Nat} (hb : baseOf v = some b) : b < S.n := by
  rcases h with ⟨rfl, _⟩ | ⟨_, _, _, _, rfl, _⟩ | ⟨b', o, c, o0, all, rfl, h1, _⟩
  · cases hb
  · cases hb
  · cases hb; exact view_lt h1
theorem Sl.extd {sz n : Nat} {v : Value} {cs : List Value} (h : Sl S sz v cs n) (hE : Ext S S') : Sl S' sz v cs n := h.same fun _ hb => hE.same _ (h.base hb)
theorem Sl.len {sz n : Nat} {v : Value} {cs : List Value} (h : Sl S sz v cs n) {ty e : TypeId} (hu : T.und ty = some (.slice e)) : lenOpA T S ty v = some (.int .i64 n) := by
  rcases h with ⟨rfl, _, rfl⟩ | ⟨_, _, _, _, rfl, _, rfl⟩ | ⟨b, o, c, o0, all, rfl, _⟩
  · simp [lenOpA, hu]
  · simp [lenOpA, hu]
  · simp [lenOpA, hu]
theorem Sl.lenA {sz n : Nat} {v : Value} {cs : List Value} (h : Sl S sz v cs n) : Go.Ax.lenA v = some n := by
  rcases h with ⟨rfl, _, rfl⟩ | ⟨_, _, _, _, rfl, _, rfl⟩ | ⟨b, o, c, o0, all, rfl, _⟩ <;> rfl

theorem drop_take_get {all cs : List Value} {d m i : Nat} (h : (all.drop d).take m = cs) (hi : i < m) : all[d + i]? = cs[i]? := by
  subst h
  rw [List.getElem?_take, if_pos hi, List.getElem?_drop]
theorem load_view {b o o0 : Nat} {all : List Value} (h : view S b = some (o0, all)) (ho : o0 ≤ o) {t : TypeId} {d : TypeDesc} {i : TI} (hd : T.und t = some d) (hi : T.info t = some i) :
    loadA T S t (.pointer (some ⟨b, o, none⟩)) = if aggT d then (if o - o0 + i.size ≤ all.length then some (.agg ((all.drop (o - o0)).take i.size).toArray) else none) else all[o - o0]? := by
  unfold view at h
  unfold loadA
  split at h
  · rename_i cs t' g hg
    cases h
    simp only [hg, hd, hi, Nat.sub_zero]
  · rename_i o1 cs hg
    cases h
    simp only [hg, hd, hi, if_pos ho]
  · cases h
/-- an element's address, and what is there: elements of one cell -/
theorem Sl.at1 {n : Nat} {v : Value} {cs : List Value} (h : Sl S 1 v cs n) {ty e : TypeId} {d : TypeDesc} {ti : TI} (hu : T.und ty = some (.slice e)) (he : T.info e = some ti) (hd : T.und e = some d) (hsz : ti.size = 1) (ha : aggT d = false) {k : IntKind} {i : Nat} (hi : i < n) :
    ∃ p, indexAddrA T ty (.int k i) v = some p ∧ loadA T S e p = cs[i]? ∧ baseOf p = baseOf v := by
  rcases h with ⟨rfl, _, rfl⟩ | ⟨_, _, _, _, rfl, _, rfl⟩ | ⟨b, o, c, o0, all, rfl, h1, h2, h3, h4, h5, h6⟩
  · omega
  · omega
  · refine ⟨.pointer (some ⟨b, o + i, none⟩), ?_, ?_, rfl⟩
    · simp only [indexAddrA, hu, he, hsz]
      rw [if_pos (by omega)]
      simp
    · rw [load_view h1 (by omega) hd he, ha]
      simp only [Bool.false_eq_true, if_false]
      rw [show o + i - o0 = o - o0 + i by omega]
      exact drop_take_get h5 (by omega)
/-- elements that are structs or arrays -/
theorem Sl.atN {sz n : Nat} {v : Value} {cs : List Value} (h : Sl S sz v cs n) {ty e : TypeId} {d : TypeDesc} {ti : TI} (hu : T.und ty = some (.slice e)) (he : T.info e = some ti) (hd : T.und e = some d) (hsz : ti.size = sz) (ha : aggT d = true) {k : IntKind} {i : Nat} (hi : i < n) :
    ∃ p, indexAddrA T ty (.int k i) v = some p ∧ loadA T S e p = some (.agg ((cs.drop (i * sz)).take sz).toArray) ∧ baseOf p = baseOf v := by
  rcases h with ⟨rfl, _, rfl⟩ | ⟨_, _, _, _, rfl, _, rfl⟩ | ⟨b, o, c, o0, all, rfl, h1, h2, h3, h4, h5, h6⟩
  · omega
  · omega
  · have hm : i * sz + sz ≤ n * sz := by rw [← Nat.succ_mul]; exact Nat.mul_le_mul_right _ hi
    refine ⟨.pointer (some ⟨b, o + i * sz, none⟩), ?_, ?_, rfl⟩
    · simp only [indexAddrA, hu, he, hsz]
      rw [if_pos (by omega)]
      simp
    · rw [load_view h1 (by omega) hd he, ha, hsz]
      simp only [if_true]
      rw [if_pos (by omega)]
      congr 3
      rw [← h5, List.drop_take, List.take_take, List.drop_drop, Nat.min_eq_left (by omega)]
      congr 2
      omega
/-- an address within an element: the cell itself -/
theorem Sl.cell {sz n : Nat} {v : Value} {cs : List Value} (h : Sl S sz v cs n) {ty e a f : TypeId} {m : Nat} {d : TypeDesc} {ti fi : TI} (hu : T.und ty = some (.slice e)) (he : T.info e = some ti) (hea : T.und e = some (.array m f)) (hf : T.info f = some fi) (hfd : T.und f = some d) (ha : aggT d = false)
    (hsz : ti.size = sz) (hfs : fi.size = 1) (hms : m ≤ sz) (_ : a = e) {k k' : IntKind} {i j : Nat} (hi : i < n) (hj : j < m) :
    ∃ p q, indexAddrA T ty (.int k i) v = some p ∧ indexAddrA T a (.int k' j) p = some q ∧ loadA T S f q = cs[i * sz + j]? := by
  subst_vars
  rcases h with ⟨rfl, _, rfl⟩ | ⟨_, _, _, _, rfl, _, rfl⟩ | ⟨b, o, c, o0, all, rfl, h1, h2, h3, h4, h5, h6⟩
  · omega
  · omega
  · have hm : i * ti.size + ti.size ≤ n * ti.size := by rw [← Nat.succ_mul]; exact Nat.mul_le_mul_right _ hi
    refine ⟨.pointer (some ⟨b, o + i * ti.size, none⟩), .pointer (some ⟨b, o + i * ti.size + j, none⟩), ?_, ?_, ?_⟩
    · simp only [indexAddrA, hu, he]
      rw [if_pos (by omega)]
      simp
    · simp only [indexAddrA, hea, hf, hfs]
      rw [if_pos (by omega)]
      simp
    · rw [load_view h1 (by omega) hfd hf, ha]
      simp only [Bool.false_eq_true, if_false]
      rw [show o + i * ti.size + j - o0 = o - o0 + (i * ti.size + j) by omega]
      exact drop_take_get h5 (by omega)
theorem Sl.src {sz n : Nat} {v : Value} {cs : List Value} (h : Sl S sz v cs n) : srcA S sz n v = some cs := by
  rcases h with ⟨rfl, rfl, rfl⟩ | ⟨_, _, _, _, rfl, rfl, rfl⟩ | ⟨b, o, c, o0, all, rfl, h1, h2, h3, h4, h5, h6⟩
  · simp [srcA]
  · simp [srcA]
  · unfold view at h1
    unfold srcA
    split at h1
    · rename_i cs' t' g hg
      cases h1
      simp only [hg]
      rw [if_pos (by omega)]
      rw [← h5, Nat.sub_zero]
    · rename_i o1 cs' hg
      cases h1
      simp only [hg]
      rw [if_pos (by omega), h5]
    · cases h1
/-- is it a slice whose address is known -/
def Plain (v : Value) (n : Nat) : Prop := v = .slice none 0 0 ∨ (∃ b o c, v = .slice (some ⟨b, o, none⟩) n c) ∨ ∃ b o z, v = .slice (some ⟨b, o, some z⟩) 0 (BIG + BIG)
theorem Plain.mk {b o n c : Nat} : Plain (.slice (some ⟨b, o, none⟩) n c) n := .inr (.inl ⟨b, o, c, rfl⟩)
theorem bnd_ok {y i : Nat} {k : IntKind} (h : i ≤ y) : bnd y (.int k i) = some i := by
  unfold bnd
  simp only
  rw [if_pos (by omega)]
  simp
/-- a part of a slice -/
theorem Sl.cut {sz n : Nat} {v : Value} {cs : List Value} (h : Sl S sz v cs n) {ty e : TypeId} {ti : TI} (hu : T.und ty = some (.slice e)) (he : T.info e = some ti) (hsz : ti.size = sz) (hpos : 0 < sz) {lo hi : Nat} {l r : Option Value}
    (hl : (l = none ∧ lo = 0) ∨ ∃ k, l = some (.int k lo)) (hr : (r = none ∧ hi = n) ∨ ∃ k, r = some (.int k hi)) (h1 : lo ≤ hi) (h2 : hi ≤ n) (h3 : Plain v n) :
    ∃ u, sliceA T S ty v l r none = some u ∧ Sl S sz u ((cs.take (hi * sz)).drop (lo * sz)) (hi - lo) ∧ (baseOf u = none ∨ baseOf u = baseOf v) := by
  have hbnd : ∀ cap, hi ≤ cap → (n ≤ cap) → boundsA n cap l r none = some (lo, hi, cap) := by
    intro cap hc hnc
    unfold boundsA
    rcases hl with ⟨rfl, rfl⟩ | ⟨k, rfl⟩
    · rcases hr with ⟨rfl, rfl⟩ | ⟨k', rfl⟩
      · rfl
      · simp only [bnd_ok hc]
    · rcases hr with ⟨rfl, rfl⟩ | ⟨k', rfl⟩
      · simp only [bnd_ok h1]
      · simp only [bnd_ok h1, bnd_ok hc]
  rcases h with ⟨rfl, rfl, rfl⟩ | ⟨_, _, _, _, rfl, rfl, rfl⟩ | ⟨b, o, c, o0, all, rfl, g1, g2, g3, g4, g5, g6⟩
  · have h0 : hi = 0 := by omega
    have h0' : lo = 0 := by omega
    subst h0 h0'
    refine ⟨.slice none 0 0, ?_, .inl ⟨rfl, by simp, rfl⟩, .inl rfl⟩
    simp only [sliceA, hu, he, hbnd 0 (Nat.le_refl _) (Nat.le_refl _)]
  · rcases h3 with h3 | ⟨_, _, _, h3⟩ | ⟨b', o', z', h3⟩
    · cases h3
    · cases h3
    · have h0 : hi = 0 := by omega
      have h0' : lo = 0 := by omega
      subst h0 h0'
      rw [h3]
      refine ⟨.slice (some ⟨b', o', some z'⟩) 0 (BIG + BIG), ?_, .inr (.inl ⟨_, _, _, _, rfl, by simp, rfl⟩), .inl rfl⟩
      simp only [sliceA, hu, he, if_true, hbnd 0 (Nat.le_refl _) (Nat.le_refl _)]
  · have hm1 : lo * sz ≤ hi * sz := Nat.mul_le_mul_right _ h1
    have hm2 : hi * sz ≤ n * sz := Nat.mul_le_mul_right _ h2
    have hcut : (all.drop (o + lo * sz - o0)).take ((hi - lo) * sz) = (cs.take (hi * sz)).drop (lo * sz) := by
      rw [← g5, List.take_take, Nat.min_eq_left hm2, List.drop_take, List.drop_drop, Nat.sub_mul]
      congr 2
      omega
    have hln : ((cs.take (hi * sz)).drop (lo * sz)).length = (hi - lo) * sz := by
      rw [List.length_drop, List.length_take, g3, Nat.sub_mul]; omega
    rcases g6 with ⟨c1, c2⟩ | ⟨t, c1, c2, c3⟩
    · refine ⟨.slice (some ⟨b, if c = lo then o else o + lo * sz, none⟩) (hi - lo) (c - lo), ?_, ?_, .inr rfl⟩
      · simp only [sliceA, hu, he, if_pos c1, hbnd c (by omega) c2, hsz]
      · by_cases hcl : c = lo
        · rw [if_pos hcl]
          have hz : hi - lo = 0 := by omega
          refine .inr (.inr ⟨b, o, c - lo, o0, all, by rw [hz], g1, g2, hln, by rw [hz]; omega, ?_, .inl ⟨by omega, by omega⟩⟩)
          rw [hz] at hln ⊢
          rw [Nat.zero_mul] at hln ⊢
          rw [List.take_zero, List.length_eq_zero_iff.1 hln]
        · rw [if_neg hcl]
          exact .inr (.inr ⟨b, o + lo * sz, c - lo, o0, all, rfl, g1, by omega, hln, by rw [Nat.sub_mul]; omega, hcut, .inl ⟨by omega, by omega⟩⟩)
    · have ho0 : o0 = 0 := by rw [view_cells c1] at g1; cases g1; rfl
      subst ho0
      have hge : n ≤ (all.length - o) / sz := by
        rw [Nat.le_div_iff_mul_le hpos]; omega
      by_cases hlt : lo = 0 ∨ lo < hi
      · refine ⟨.slice (some ⟨b, o + lo * sz, none⟩) (hi - lo) (c + lo), ?_, ?_, .inr rfl⟩
        · simp only [sliceA, hu, he]
          rw [if_neg (by omega)]
          simp only [c1, hsz]
          rw [if_pos ⟨hpos, trivial, c3, by omega⟩]
          simp only [hbnd _ (Nat.le_trans h2 hge) hge, Option.isSome_none, Bool.false_eq_true, if_false]
          rw [if_pos hlt]
        · refine .inr (.inr ⟨b, o + lo * sz, c + lo, 0, all, rfl, g1, Nat.zero_le _, hln, by rw [Nat.sub_mul]; omega, hcut, .inr ⟨t, c1, by omega, ?_⟩⟩)
          have hcc : c + lo - BIG = (c - BIG) + lo := by omega
          rw [hcc, Nat.add_mul, ← c3]
      · have hle : lo = hi := by omega
        subst hle
        refine ⟨.slice (some ⟨b, o + lo * sz, some (lo * sz)⟩) 0 (c + lo), ?_, .inr (.inl ⟨_, _, _, _, rfl, ?_, by omega⟩), .inl rfl⟩
        · simp only [sliceA, hu, he]
          rw [if_neg (by omega)]
          simp only [c1, hsz]
          rw [if_pos ⟨hpos, trivial, c3, by omega⟩]
          simp only [hbnd _ (Nat.le_trans h2 hge) hge, Option.isSome_none, Bool.false_eq_true, if_false]
          rw [if_neg hlt, if_pos trivial]
        · rw [← List.length_eq_zero_iff, hln]; simp
theorem Sl.of_cells {b sz n c g : Nat} {t : TypeId} {cs : List Value} (h : S.get b = some (.cells cs t g)) (hl : cs.length = n * sz) (hc : c < BIG) (hn : n ≤ c) : Sl S sz (.slice (some ⟨b, 0, none⟩) n c) cs n :=
  .inr (.inr ⟨b, 0, c, 0, cs, rfl, view_cells h, Nat.le_refl _, hl, by omega, by rw [← hl]; simp, .inl ⟨hc, hn⟩⟩)
theorem small_BIG {n : Nat} (h : n < 4611686018427387904) : n < BIG := by unfold BIG; omega

/-! slices that a call has made itself, to be grown by append -/
def Mine (S : St) (e : TypeId) (sz lo : Nat) (v : Value) (cs : List Value) (n : Nat) : Prop :=
  (v = .slice none 0 0 ∧ cs = [] ∧ n = 0) ∨ ∃ b, v = .slice (some ⟨b, 0, none⟩) n BIG ∧ lo ≤ b ∧ S.get b = some (.cells cs e sz) ∧ cs.length = n * sz
theorem Mine.plain {e : TypeId} {sz lo n : Nat} {v : Value} {cs : List Value} (h : Mine S e sz lo v cs n) : Plain v n := by
  rcases h with ⟨rfl, _⟩ | ⟨b, rfl, _⟩
  · exact .inl rfl
  · exact .mk
theorem Mine.nil (S : St) (e : TypeId) (sz lo : Nat) : Mine S e sz lo (.slice none 0 0) [] 0 := .inl ⟨rfl, rfl, rfl⟩
theorem Mine.sl {e : TypeId} {sz lo n : Nat} {v : Value} {cs : List Value} (h : Mine S e sz lo v cs n) : Sl S sz v cs n := by
  rcases h with h | ⟨b, rfl, _, h2, h3⟩
  · exact .inl h
  · exact .inr (.inr ⟨b, 0, BIG, 0, cs, rfl, view_cells h2, Nat.le_refl _, h3, by omega, by simp [h3.symm], .inr ⟨e, h2, Nat.le_refl _, by simp⟩⟩)
theorem Mine.same {e : TypeId} {sz lo n : Nat} {v : Value} {cs : List Value} (h : Mine S e sz lo v cs n) (hs : ∀ b, baseOf v = some b → S'.get b = S.get b) : Mine S' e sz lo v cs n := by
  rcases h with h | ⟨b, rfl, h1, h2, h3⟩
  · exact .inl h
  · exact .inr ⟨b, rfl, h1, by rw [hs b rfl]; exact h2, h3⟩
theorem Mine.mono {e : TypeId} {sz lo lo' n : Nat} {v : Value} {cs : List Value} (h : Mine S e sz lo v cs n) (hl : lo' ≤ lo) : Mine S e sz lo' v cs n := by
  rcases h with h | ⟨b, rfl, h1, h2, h3⟩
  · exact .inl h
  · exact .inr ⟨b, rfl, Nat.le_trans hl h1, h2, h3⟩
theorem Mine.base {e : TypeId} {sz lo n : Nat} {v : Value} {cs : List Value} (h : Mine S e sz lo v cs n) {b : Nat} (hb : baseOf v = some b) : lo ≤ b ∧ b < S.n := by
  rcases h with ⟨rfl, _⟩ | ⟨b', rfl, h1, h2, _⟩
  · cases hb
  · cases hb; exact ⟨h1, lt_of_get h2⟩
/-- what grows by append leaves all else as it was -/
structure But (v : Value) (S S' : St) : Prop where
  ok : S'.ok
  n : S.n ≤ S'.n
  same : ∀ i, i < S.n → baseOf v ≠ some i → S'.get i = S.get i
  mono : S'.mono = S.mono
theorem grow_ok {i : TI} {m : Nat} (h : (2 * m + 768) * i.bytes ≤ 281474976710656) (h2 : m < 1099511627776) : growOk i m = true := by
  unfold growOk
  simp [h, h2]
theorem splice_nil (cs : List Value) (o : Nat) : splice cs o [] = cs := by unfold splice; simp
theorem Mine.append {e ty ty2 : TypeId} {sz lo n m : Nat} {v x : Value} {cs news : List Value} {ti : TI} {d2 : TypeDesc} (h : Mine S e sz lo v cs n) (hok : S.ok) (hlo : lo ≤ S.n) (hu : T.und ty = some (.slice e)) (hu2 : T.und ty2 = some d2) (hd2 : intT d2 = false) (he : T.info e = some ti)
    (hsz : ti.size = sz) (hpos : 0 < sz) (hz : ti.zero.cells.size = sz) (hx : lenA x = some m) (hs : srcA S sz m x = some news) (h1 : ones news = true) (hl : news.length = m * sz) (hg : growOk ti (n + m) = true) :
    ∃ v' S', appendOpA T S ty ty2 v x = some (v', S') ∧ Mine S' e sz lo v' (cs ++ news) (n + m) ∧ But v S S' ∧ (∀ b, baseOf v' = some b → baseOf v = some b ∨ S.n ≤ b) := by
  have hop : appendOpA T S ty ty2 v x = appendA S e ti v m news := by
    unfold appendOpA
    simp only [hu, hu2, he, hd2, hx, hsz, hs]
    rw [if_pos ⟨hpos, hz⟩]
    simp only [Bool.false_eq_true, if_false]
    rw [if_pos ⟨h1, hl⟩]
  rw [hop]
  rcases h with ⟨rfl, rfl, rfl⟩ | ⟨b, rfl, g1, g2, g3⟩
  · by_cases hm : m = 0
    · subst hm
      refine ⟨.slice none 0 0, S, by simp [appendA], ?_, ⟨hok, Nat.le_refl _, fun _ _ _ => rfl, rfl⟩, fun b hb => by cases hb⟩
      have : news = [] := by rw [Nat.zero_mul] at hl; exact List.length_eq_zero_iff.1 hl
      subst this
      exact .inl ⟨rfl, rfl, rfl⟩
    · refine ⟨.slice (some ⟨S.n, 0, none⟩) m BIG, S.push (.cells news e sz), ?_, .inr ⟨S.n, by simp, hlo, ?_, by simpa using hl⟩, ⟨?_, ?_, ?_, rfl⟩, ?_⟩
      · simp only [appendA]
        rw [if_neg hm, if_pos (by simpa using hg), hsz]
      · rw [List.nil_append]; exact St.get_push_new _ _
      · rw [ok_push_iff]; exact hok
      · rw [push_n]; omega
      · intro i hi _; exact St.get_push_old _ hi
      · intro b hb; cases hb; exact .inr (Nat.le_refl _)
  · have hb := lt_of_get g2
    by_cases hm : m = 0
    · subst hm
      have : news = [] := by rw [Nat.zero_mul] at hl; exact List.length_eq_zero_iff.1 hl
      subst this
      refine ⟨.slice (some ⟨b, 0, none⟩) n BIG, S.set b (.cells cs e sz), ?_, .inr ⟨b, rfl, g1, ?_, by simpa using g3⟩, ⟨?_, ?_, ?_, rfl⟩, ?_⟩
      · simp only [appendA, g2, hsz, Nat.zero_add, Nat.add_zero, Nat.sub_self, Nat.zero_mul, splice_nil]
        rw [if_pos (by omega), if_neg (Nat.lt_irrefl _), if_pos ⟨trivial, trivial⟩, if_pos (by omega)]
      · rw [List.append_nil]; exact St.get_set_same hok hb _
      · rw [ok_set_iff]; exact hok
      · exact Nat.le_refl _
      · intro i hi hne; exact St.get_set_ne hb (fun e => hne (by rw [← e]; rfl)) _
      · intro b' hb'; cases hb'; exact .inl rfl
    · have hmp : 0 < m * sz := Nat.mul_pos (by omega) hpos
      refine ⟨.slice (some ⟨S.n, 0, none⟩) (n + m) BIG, (S.set b .dead).push (.cells (cs ++ news) e sz), ?_, .inr ⟨S.n, rfl, hlo, ?_, ?_⟩, ⟨?_, ?_, ?_, rfl⟩, ?_⟩
      · simp only [appendA, g2, hsz, Nat.zero_add, Nat.sub_self, Nat.zero_mul]
        rw [if_pos (by omega), if_neg (Nat.lt_irrefl _), if_pos ⟨trivial, trivial⟩, if_neg (by rw [Nat.add_mul]; omega), if_pos ⟨trivial, g3.symm, trivial, hg⟩]
      · have := St.get_push_new (S.set b .dead) (.cells (cs ++ news) e sz)
        rwa [set_n] at this
      · rw [List.length_append, g3, hl, Nat.add_mul]
      · rw [ok_push_iff, ok_set_iff]; exact hok
      · rw [push_n, set_n]; omega
      · intro i hi hne
        rw [get_push_ne _ (by rw [set_n]; omega)]
        exact St.get_set_ne hb (fun e => hne (by rw [← e]; rfl)) _
      · intro b' hb'; cases hb'; exact .inr (Nat.le_refl _)
theorem arr_index {ty e : TypeId} {ti : TI} {b n c i : Nat} {k : IntKind} (hu : T.und ty = some (.slice e)) (he : T.info e = some ti) (hsz : ti.size = 1) (hi : i < n) :
    indexAddrA T ty (.int k i) (.slice (some ⟨b, 0, none⟩) n c) = some (.pointer (some ⟨b, i, none⟩)) := by
  simp only [indexAddrA, hu, he, hsz]
  rw [if_pos (by omega)]
  simp
theorem store_one {t : TypeId} {z : Value} {by' b o g : Nat} {tt : TypeId} {cs : List Value} {v : Value} (he : T.info t = some ⟨z, 1, by'⟩) (hb : S.get b = some (.cells cs tt g)) (hv : v.cells = #[v]) (h1 : v.oneCell' = true) (ho : o < cs.length) :
    storeA T S t v (.pointer (some ⟨b, o, none⟩)) = some (S.set b (.cells (cs.set o v) tt g)) := by
  simp only [storeA, hb, he, hv]
  rw [if_pos ⟨rfl, by simpa using Nat.succ_le_of_lt ho, by simp [ones, h1]⟩]
  congr 2
  unfold splice
  rw [List.set_eq_take_append_cons_drop, if_pos ho]
  simp
theorem load_one {t : TypeId} {d : TypeDesc} {ti : TI} {b o g : Nat} {tt : TypeId} {cs : List Value} (hd : T.und t = some d) (he : T.info t = some ti) (ha : aggT d = false) (hb : S.get b = some (.cells cs tt g)) :
    loadA T S t (.pointer (some ⟨b, o, none⟩)) = cs[o]? := by
  simp only [loadA, hb, hd, he, ha]
  rfl
theorem Mine.one {e : TypeId} {sz lo n : Nat} {v : Value} {cs : List Value} (h : Mine S e sz lo v cs n) : v.cells = #[v] ∧ v.oneCell' = true := by
  rcases h with ⟨rfl, _⟩ | ⟨b, rfl, _⟩ <;> exact ⟨rfl, rfl⟩
theorem zeroRow_one {z : Value} (hz : z.cells = #[z]) (n : Nat) : (zeroRow z n).toList = List.replicate n z := by
  unfold zeroRow
  rw [Array.toList_map]
  rw [List.eq_replicate_iff]
  refine ⟨by simp, ?_⟩
  intro b hb
  rw [List.mem_map] at hb
  obtain ⟨j, hj, rfl⟩ := hb
  have hn : n ≠ 0 := by
    rintro rfl
    simp at hj
  rw [if_neg hn, hz]
  simp [Nat.mod_one]
theorem make_one {ty e : TypeId} {z : Value} {by' : Nat} (hu : T.und ty = some (.slice e)) (he : T.info e = some ⟨z, 1, by'⟩) (hz : z.cells = #[z]) (hp : plain1 z = true) {k k' : IntKind} {m : Nat} (hm : by' * m ≤ 281474976710656) (hm2 : m < 1099511627776) :
    makeSliceA T S ty (.int k m) (.int k' m) = some (.slice (some ⟨S.n, 0, none⟩) m m, S.push (.cells (List.replicate m z) e 0)) := by
  have hw : IntKind.i64.wrap (m : Int) = m := wrap_id (by omega) (by omega)
  simp only [makeSliceA, hu, he, Nat.mul_one, Int.toNat_natCast, zeroRow_one hz]
  rw [if_pos ⟨hw, hw, by omega, Int.le_refl _, by exact_mod_cast hm, by unfold BIG; omega, by unfold plains1; rw [List.all_eq_true]; intro x hx; rw [List.eq_of_mem_replicate hx]; exact hp⟩]
theorem But.lo {v : Value} {lo : Nat} (h : But v S S') (hl : ∀ b, baseOf v = some b → lo ≤ b) {i : Nat} (hi : i < lo) (hn : i < S.n) : S'.get i = S.get i :=
  h.same i hn fun hb => by have := hl i hb; omega
end
/-! short names for what the walk rewrites with -/
theorem J0 : type_of% @VL_nil := @VL_nil
theorem J1 : type_of% @VL_none := @VL_none
theorem J2 : type_of% @VX_false := @VX_false
theorem J3 : type_of% @VX_call := @VX_call
theorem J4 : type_of% @ic_value := @ic_value
theorem J5 : type_of% @VL_guard := @VL_guard
theorem J6 : type_of% @VG_some := @VG_some
theorem J7 : type_of% @VG_none := @VG_none
theorem J8 : type_of% @gvV_bool := @gvV_bool
theorem J9 : type_of% @gvV_undef := @gvV_undef
theorem J10 : type_of% @VC_some := @VC_some
theorem J11 : type_of% @VC_yield := @VC_yield
theorem J12 : type_of% @yieldedA_tl := @yieldedA_tl
theorem J13 : type_of% @VOp_some := @VOp_some
theorem J14 : type_of% @ic_move := @ic_move
theorem J15 : type_of% @ic_assign := @ic_assign
theorem J16 : type_of% @ic_pick := @ic_pick
theorem J17 : type_of% @ic_alloc := @ic_alloc
theorem J18 : type_of% @ic_box := @ic_box
theorem J19 : type_of% @ic_build := @ic_build
theorem J20 : type_of% @ic_buildSlice := @ic_buildSlice
theorem J21 : type_of% @ic_load := @ic_load
theorem J22 : type_of% @ic_store := @ic_store
theorem J23 : type_of% @ic_nilCheck := @ic_nilCheck
theorem J24 : type_of% @ic_binOp := @ic_binOp
theorem J25 : type_of% @ic_unOp := @ic_unOp
theorem J26 : type_of% @ic_convert := @ic_convert
theorem J27 : type_of% @ic_makeInterface := @ic_makeInterface
theorem J28 : type_of% @ic_makeFunc := @ic_makeFunc
theorem J29 : type_of% @ic_makeMap := @ic_makeMap
theorem J30 : type_of% @ic_makeSlice := @ic_makeSlice
theorem J31 : type_of% @ic_slice := @ic_slice
theorem J32 : type_of% @ic_fieldAddr := @ic_fieldAddr
theorem J33 : type_of% @ic_field := @ic_field
theorem J34 : type_of% @ic_indexAddr := @ic_indexAddr
theorem J35 : type_of% @ic_index := @ic_index
theorem J36 : type_of% @ic_lookup := @ic_lookup
theorem J37 : type_of% @ic_mapUpdate := @ic_mapUpdate
theorem J38 : type_of% @ic_insert := @ic_insert
theorem J39 : type_of% @ic_extract := @ic_extract
theorem J40 : type_of% @ic_builtin := @ic_builtin
theorem J41 : type_of% @KN_apply := @KN_apply
theorem J42 : type_of% @Then_normal := @Then_normal
theorem J43 : type_of% @Then_exit := @Then_exit
theorem J44 : type_of% @Then_ret := @Then_ret
theorem J45 : type_of% @Blk_normal := @Blk_normal
theorem J46 : type_of% @Blk_exit := @Blk_exit
theorem J47 : type_of% @Blk_ret := @Blk_ret
theorem J48 : type_of% @LoopQ_exit := @LoopQ_exit
theorem J49 : type_of% @LoopQ_ret := @LoopQ_ret
theorem J50 : type_of% @RetQ_ret := @RetQ_ret
theorem J51 : type_of% @RetQ_normal := @RetQ_normal
theorem J52 : type_of% @RetV_some := @RetV_some
theorem J53 : type_of% @resA_nil := @resA_nil
theorem J54 : type_of% @resA_tmp := @resA_tmp
theorem J55 : type_of% @tl_getD := @tl_getD
theorem J56 : type_of% @tupA_one := @tupA_one
theorem J57 : type_of% @tupA_two := @tupA_two
theorem J58 : type_of% @VIf_true := @VIf_true
theorem J59 : type_of% @VIf_false := @VIf_false
theorem J60 : type_of% @evalA_tmp := @evalA_tmp
theorem J61 : type_of% @evalA_const := @evalA_const
theorem J62 : type_of% @evalA_func := @evalA_func
theorem J63 : type_of% @plain_int := @plain_int
theorem J64 : type_of% @plain_bool := @plain_bool
theorem J65 : type_of% @plain_string := @plain_string
theorem J66 : type_of% @plain_slnil := @plain_slnil
theorem J67 : type_of% @plain_nilFunc := @plain_nilFunc
theorem J68 : type_of% @plain_pnil := @plain_pnil
theorem J69 : type_of% @onev_some := @onev_some
theorem J70 : type_of% @one_some := @one_some
theorem J71 : type_of% @oneu_some := @oneu_some
theorem J72 : type_of% @upd_def := @upd_def
theorem J73 : type_of% @bin_eq := @bin_eq
theorem J74 : type_of% @un_eq := @un_eq
theorem J75 : type_of% @min_eq := @min_eq
theorem J76 : type_of% @max_eq := @max_eq
theorem J77 : type_of% @List.getElem?_toArray.{0} := @List.getElem?_toArray.{0}
theorem J78 : type_of% @List.getElem?_cons_succ.{0} := @List.getElem?_cons_succ.{0}
theorem J79 : type_of% @List.getElem?_cons_zero.{0} := @List.getElem?_cons_zero.{0}
theorem J80 : type_of% @List.getD_cons_zero.{0} := @List.getD_cons_zero.{0}
theorem J81 : type_of% @List.getD_cons_succ.{0} := @List.getD_cons_succ.{0}
theorem J82 : type_of% @List.size_toArray.{0} := @List.size_toArray.{0}
theorem J83 : type_of% @List.toList_toArray.{0} := @List.toList_toArray.{0}
theorem J84 : type_of% @List.length_cons.{0} := @List.length_cons.{0}
theorem J85 : type_of% @List.length_nil.{0} := @List.length_nil.{0}
theorem J86 : type_of% @Option.bind_some.{0} := @Option.bind_some.{0}
theorem J87 : type_of% @Option.map_some.{0} := @Option.map_some.{0}
theorem J88 : type_of% @Option.getD_some.{0} := @Option.getD_some.{0}
theorem J89 : type_of% @Option.isSome_some.{0} := @Option.isSome_some.{0}
theorem J90 : type_of% @if_true.{1} := @if_true.{1}
theorem J91 : type_of% @if_false.{1} := @if_false.{1}
theorem J92 : type_of% @Bool.false_eq_true := @Bool.false_eq_true
theorem J93 : type_of% @and_self := @and_self
theorem J94 : type_of% @true_and := @true_and
theorem J95 : type_of% @and_true := @and_true
theorem J96 : type_of% @List.nil_append.{0} := @List.nil_append.{0}
theorem J97 : type_of% @List.cons_append.{0} := @List.cons_append.{0}
theorem J98 : type_of% @List.append_nil.{0} := @List.append_nil.{0}
theorem J99 : type_of% @Bool.not_true := @Bool.not_true
theorem J100 : type_of% @Bool.not_false := @Bool.not_false
/-! all of them but two, as one rule set -/
theorem H0 : (type_of% @J0) ∧ (type_of% @J1) ∧ (type_of% @J2) ∧ (type_of% @J3) ∧ (type_of% @J4) ∧ (type_of% @J5) ∧ (type_of% @J6) ∧ (type_of% @J7) ∧ (type_of% @J8) ∧ (type_of% @J9) ∧ (type_of% @J10) ∧ (type_of% @J11) ∧ (type_of% @J12) ∧ (type_of% @J13) ∧ (type_of% @J14) ∧ (type_of% @J15) ∧ (type_of% @J16) ∧ (type_of% @J17) ∧ (type_of% @J18) ∧ (type_of% @J19) ∧ (type_of% @J20) ∧ (type_of% @J21) ∧ (type_of% @J22) ∧ (type_of% @J23) ∧ (type_of% @J24) ∧ (type_of% @J25) ∧ (type_of% @J26) ∧ (type_of% @J27) ∧ (type_of% @J28) ∧ (type_of% @J29) ∧ (type_of% @J30) ∧ (type_of% @J31) ∧ (type_of% @J32) ∧ (type_of% @J33) ∧ (type_of% @J34) ∧ (type_of% @J35) ∧ (type_of% @J36) ∧ (type_of% @J37) ∧ (type_of% @J38) ∧ (type_of% @J39) ∧ (type_of% @J40) ∧ (type_of% @J41) ∧ (type_of% @J42) ∧ (type_of% @J43) ∧ (type_of% @J44) ∧ (type_of% @J45) ∧ (type_of% @J46) ∧ (type_of% @J47) ∧ (type_of% @J48) ∧ (type_of% @J49) ∧ (type_of% @J50) ∧ (type_of% @J51) ∧ (type_of% @J52) ∧ (type_of% @J53) ∧ (type_of% @J54) ∧ (type_of% @J55) ∧ (type_of% @J56) ∧ (type_of% @J57) ∧ (type_of% @J58) ∧ (type_of% @J59) ∧ (type_of% @J60) ∧ (type_of% @J61) ∧ (type_of% @J62) ∧ (type_of% @J63) ∧ (type_of% @J64) ∧ (type_of% @J65) ∧ (type_of% @J66) ∧ (type_of% @J67) ∧ (type_of% @J68) ∧ (type_of% @J69) ∧ (type_of% @J70) ∧ (type_of% @J71) ∧ (type_of% @J72) ∧ (type_of% @J73) ∧ (type_of% @J74) ∧ (type_of% @J75) ∧ (type_of% @J76) ∧ (type_of% @J77) ∧ (type_of% @J78) ∧ (type_of% @J79) ∧ (type_of% @J80) ∧ (type_of% @J81) ∧ (type_of% @J82) ∧ (type_of% @J83) ∧ (type_of% @J84) ∧ (type_of% @J85) ∧ (type_of% @J88) ∧ (type_of% @J89) ∧ (type_of% @J90) ∧ (type_of% @J91) ∧ (type_of% @J92) ∧ (type_of% @J93) ∧ (type_of% @J94) ∧ (type_of% @J95) ∧ (type_of% @J96) ∧ (type_of% @J97) ∧ (type_of% @J98) ∧ (type_of% @J99) ∧ (type_of% @J100) := ⟨@J0, @J1, @J2, @J3, @J4, @J5, @J6, @J7, @J8, @J9, @J10, @J11, @J12, @J13, @J14, @J15, @J16, @J17, @J18, @J19, @J20, @J21, @J22, @J23, @J24, @J25, @J26, @J27, @J28, @J29, @J30, @J31, @J32, @J33, @J34, @J35, @J36, @J37, @J38, @J39, @J40, @J41, @J42, @J43, @J44, @J45, @J46, @J47, @J48, @J49, @J50, @J51, @J52, @J53, @J54, @J55, @J56, @J57, @J58, @J59, @J60, @J61, @J62, @J63, @J64, @J65, @J66, @J67, @J68, @J69, @J70, @J71, @J72, @J73, @J74, @J75, @J76, @J77, @J78, @J79, @J80, @J81, @J82, @J83, @J84, @J85, @J88, @J89, @J90, @J91, @J92, @J93, @J94, @J95, @J96, @J97, @J98, @J99, @J100⟩
end Go.Ax
end
/- part Wm -/
section
/- Lists of lists; appending one element; shapes of rows that are written. Program-independent. -/
namespace Go.Ax
open Go.RowKit Go.Proofs
section
variable {T : Tab} {S S' : St}

theorem fill_one {x z : Value} (hz : z.cells = #[z]) (hx : x.cells = #[x]) : Instr.fill (fun j => some (j * 1, 1)) (zeroRow z (1 * 1)) [(0, x)] = some #[x] := by
  have h1 : zeroRow z (1 * 1) = #[z] := by
    apply Array.ext'
    rw [zeroRow_one hz]
    rfl
  rw [h1]
  simp [Instr.fill, hx]
theorem bs_one {ty e : TypeId} {z x : Value} {by' : Nat} (hu : T.und ty = some (.slice e)) (he : T.info e = some ⟨z, 1, by'⟩) (hz : z.cells = #[z]) (hp : plain1 z = true) (hx : x.cells = #[x]) :
    buildSliceA T S ty 1 [(0, x)] = some (.slice (some ⟨S.n, 0, none⟩) 1 1, S.push (.cells [x] e 0)) := by
  simp only [buildSliceA, hu, he, fill_one hz hx]
  rw [if_pos ⟨by rw [zeroRow_one hz]; simp [plains1, hp], by omega⟩, if_pos (by unfold BIG; omega)]
/-- append of one element that was laid in a row of its own -/
theorem Mine.push_one {e ty : TypeId} {lo n : Nat} {v x z : Value} {cs : List Value} {by' : Nat} (h : Mine S e 1 lo v cs n) (hok : S.ok) (hlo : lo ≤ S.n) (hu : T.und ty = some (.slice e)) (he : T.info e = some ⟨z, 1, by'⟩) (hz : z.cells = #[z]) (h1 : x.oneCell' = true) (hn : n < 1000000) (hby : by' ≤ 64) :
    ∃ v' S', appendOpA T (S.push (.cells [x] e 0)) ty ty v (.slice (some ⟨S.n, 0, none⟩) 1 1) = some (v', S') ∧ Mine S' e 1 lo v' (cs ++ [x]) (n + 1) ∧ But v S S' ∧ (∀ b, baseOf v' = some b → baseOf v = some b ∨ S.n ≤ b) := by
  have h' : Mine (S.push (.cells [x] e 0)) e 1 lo v cs n := h.same fun b hb => get_push_ne _ (by have := (h.base hb).2; omega)
  have hx : Sl (S.push (.cells [x] e 0)) 1 (.slice (some ⟨S.n, 0, none⟩) 1 1) [x] 1 := Sl.of_cells (get_push_new _ rfl) rfl (by unfold BIG; omega) (Nat.le_refl _)
  have h64 : (2 * (n + 1) + 768) * by' ≤ (2 * (n + 1) + 768) * 64 := Nat.mul_le_mul_left _ hby
  have hle : (2 * (n + 1) + 768) * by' ≤ 281474976710656 := Nat.le_trans h64 (by omega)
  have hg : growOk ⟨z, 1, by'⟩ (n + 1) = true := grow_ok hle (by omega)
  obtain ⟨v', S', a1, a2, a3, a4⟩ := h'.append (T := T) (ty := ty) (ty2 := ty) (x := .slice (some ⟨S.n, 0, none⟩) 1 1) (m := 1) (news := [x]) (by rw [ok_push_iff]; exact hok) (by rw [push_n]; omega) hu hu rfl he rfl (by omega) (by simp [hz]) hx.lenA hx.src (by simp [ones, h1]) rfl hg
  have hn3 := a3.n
  rw [push_n] at hn3
  refine ⟨v', S', a1, a2, ⟨a3.ok, by omega, fun i hi hb => ?_, by rw [a3.mono, push_mono]⟩, fun b hb => ?_⟩
  · rw [a3.same i (by rw [push_n]; omega) hb, get_push_ne _ (by omega)]
  · rcases a4 b hb with g | g
    · exact .inl g
    · rw [push_n] at g; exact .inr (by omega)

/-- a list of lists of numbers that can be read -/
def Mat (S : St) (v : Value) (rows : List (List Int)) : Prop :=
  ∃ cs, Sl S 1 v cs rows.length ∧ ∀ i (h : i < rows.length), ∃ rv, cs[i]? = some rv ∧ Sl S 1 rv (iv rows[i]) rows[i].length ∧ Plain rv rows[i].length
theorem Mat.len {v : Value} {rows : List (List Int)} (h : Mat S v rows) {ty e : TypeId} (hu : T.und ty = some (.slice e)) : lenOpA T S ty v = some (.int .i64 rows.length) := by
  obtain ⟨cs, h1, _⟩ := h
  exact h1.len hu
theorem Mat.row {v : Value} {rows : List (List Int)} (h : Mat S v rows) {ty e f : TypeId} {ti : TI} (hu : T.und ty = some (.slice e)) (he : T.info e = some ti) (hd : T.und e = some (.slice f)) (hsz : ti.size = 1) {k : IntKind} {i : Nat} (hi : i < rows.length) :
    ∃ p rv, indexAddrA T ty (.int k i) v = some p ∧ loadA T S e p = some rv ∧ Sl S 1 rv (iv rows[i]) rows[i].length ∧ Plain rv rows[i].length := by
  obtain ⟨cs, h1, h2⟩ := h
  obtain ⟨rv, r1, r2, r3⟩ := h2 i hi
  obtain ⟨p, p1, p2, _⟩ := h1.at1 (T := T) (k := k) hu he hd hsz rfl hi
  exact ⟨p, rv, p1, by rw [p2, r1], r2, r3⟩
theorem Mat.same {v : Value} {rows : List (List Int)} (h : Mat S v rows) (hs : ∀ b, b < S.n → S'.get b = S.get b) : Mat S' v rows := by
  obtain ⟨cs, h1, h2⟩ := h
  refine ⟨cs, h1.same fun b hb => hs b (h1.base hb), fun i hi => ?_⟩
  obtain ⟨rv, r1, r2, r3⟩ := h2 i hi
  exact ⟨rv, r1, r2.same fun b hb => hs b (r2.base hb), r3⟩
theorem Mat.extd {v : Value} {rows : List (List Int)} (h : Mat S v rows) (hE : Ext S S') : Mat S' v rows := h.same hE.same
theorem Plain.cells {v : Value} {n : Nat} (h : Plain v n) : v.cells = #[v] ∧ v.oneCell' = true := by
  rcases h with rfl | ⟨b, o, c, rfl⟩ | ⟨b, o, z, rfl⟩ <;> exact ⟨rfl, rfl⟩
theorem Mine.apart {e e' : TypeId} {sz sz' lo lo' n n' : Nat} {v v' : Value} {cs cs' : List Value} (h : Mine S e sz lo v cs n) (h' : Mine S e' sz' lo' v' cs' n') (hne : e ≠ e') {b : Nat} (hb : baseOf v = some b) : baseOf v' ≠ some b := by
  intro hb'
  rcases h with ⟨rfl, _⟩ | ⟨b1, rfl, _, h2, _⟩
  · cases hb
  · rcases h' with ⟨rfl, _⟩ | ⟨b2, rfl, _, h4, _⟩
    · cases hb'
    · cases hb
      cases hb'
      rw [h2] at h4
      cases h4
      exact hne rfl
theorem Mine.but {e e' : TypeId} {sz sz' lo lo' n n' : Nat} {v v' : Value} {cs cs' : List Value} (h : Mine S e sz lo v cs n) (h' : Mine S e' sz' lo' v' cs' n') (hne : e ≠ e') (hB : But v' S S') : Mine S' e sz lo v cs n :=
  h.same fun _ hb => hB.same _ (h.base hb).2 (h.apart h' hne hb)
/-- a store to a block of one's own, made since -/
theorem But.ext {v : Value} {S0 : St} (h : But v S S') (hE : Ext S0 S) (hb : ∀ b, baseOf v = some b → S0.n ≤ b) : Ext S0 S' :=
  ⟨h.ok, Nat.le_trans hE.n h.n, fun i hi => by rw [h.same i (Nat.lt_of_lt_of_le hi hE.n) (fun e => by have := hb i e; omega), hE.same i hi], h.mono.trans hE.mono⟩
end
end Go.Ax
end
/- part Wx -/
section
/- The start of a run that was handed rows of the caller's, which it only reads. -/
namespace Go.Ax
open Go.RowKit Go.Proofs Go.Lib
/-- a row of the caller's: its block, where it begins, its cells here and there -/
structure RowX where
  b : Nat
  off : Nat
  cs : List Value
  cs' : List Value
noncomputable def objX : Option RowX → AObj
  | some r => .ext r.off r.cs
  | none => .dead
noncomputable def startL (L : List (Option RowX)) : St := { objs := (L.map objX).reverse, n := L.length, low := 0 }
def envL (L : List (Option RowX)) : Env := fun i => match L[i]? with
  | some (some r) => some (r.b, 0)
  | _ => none
theorem startL_get (L : List (Option RowX)) (i : Nat) : (startL L).get i = (L[i]?).map objX := by
  rw [St.get_def]
  unfold startL
  simp only
  by_cases h : i < L.length
  · rw [if_pos h, List.getElem?_reverse (by rw [List.length_map]; omega), List.getElem?_map, List.length_map]
    congr 2
    omega
  · rw [if_neg h, List.getElem?_eq_none (by omega)]
    rfl
theorem SR.startL (w : World) (L : List (Option RowX)) (h : ∀ (i : Nat) (r : RowX), L[i]? = some (some r) → ∃ arr t fz, w.heap[r.b]? = some (.cells arr t fz) ∧ VRs (envL L) r.cs r.cs' ∧ ∀ (k : Nat) (v : Value), r.cs'[k]? = some v → arr[r.off + k]? = some v) :
    SR ⟨w, fun _ => True, fun _ => False⟩ (envL L) (startL L) w where
  len := by unfold St.ok Go.Ax.startL; simp
  obj := by
    intro i o hi _
    rw [startL_get] at hi
    cases hr : L[i]? with
    | none => rw [hr] at hi; cases hi
    | some q =>
      rw [hr] at hi
      simp only [Option.map_some, Option.some.injEq] at hi
      subst hi
      cases q with
      | none => trivial
      | some r =>
        obtain ⟨arr, t, fz, h1, h2, h3⟩ := h i r hr
        exact ⟨r.b, 0, arr, t, fz, r.cs', by simp [envL, hr], h1, h2, h3⟩
  hole := fun _ h => h.elim
  dom := by
    intro i hi
    unfold envL
    rw [List.getElem?_eq_none hi]
  inj := by
    intro i j o o' b κ κ' hi ha
    rw [startL_get] at hi
    cases hr : L[i]? with
    | none => rw [hr] at hi; cases hi
    | some q =>
      rw [hr] at hi
      simp only [Option.map_some, Option.some.injEq] at hi
      subst hi
      cases q <;> simp [objX, AObj.alive] at ha
  rng := by
    intro i b κ hE
    unfold envL at hE
    split at hE
    · rename_i r hr
      cases hE
      obtain ⟨arr, t, fz, h1, _⟩ := h i r hr
      refine ⟨.inl trivial, ?_⟩
      rcases Nat.lt_or_ge r.b w.heap.size with hlt | hge
      · exact hlt
      · rw [Array.getElem?_eq_none hge] at h1; cases h1
    · cases hE
  below := ⟨rfl, rfl, rfl, Nat.le_refl _, fun _ _ => rfl⟩
  new := by
    intro i o b κ hi ha
    rw [startL_get] at hi
    cases hr : L[i]? with
    | none => rw [hr] at hi; cases hi
    | some q =>
      rw [hr] at hi
      simp only [Option.map_some, Option.some.injEq] at hi
      subst hi
      cases q <;> simp [objX, AObj.alive] at ha
  mono := fun h => by cases h
theorem startL_view {L : List (Option RowX)} {i : Nat} {r : RowX} (h : L[i]? = some (some r)) : view (startL L) i = some (r.off, r.cs) := by
  apply view_ext
  rw [startL_get, h]
  rfl
/-- a row of numbers that came in, as it stands in a cell -/
def RowIn (w : World) (v : Value) (xs : List Int) : Prop :=
  (v = .slice none 0 0 ∧ xs = []) ∨ (∃ a, v = .slice (some a) 0 0 ∧ xs = []) ∨
  ∃ b o cap arr t fz, v = .slice (some ⟨b, o, none⟩) xs.length cap ∧ xs.length ≤ cap ∧ cap < BIG ∧ w.heap[b]? = some (.cells arr t fz) ∧ ∀ i (h : i < xs.length), arr[o + i]? = some (.int .i64 xs[i])
/-- one such row, under the number j -/
theorem rowIn_abs {w : World} {v : Value} {xs : List Int} (h : RowIn w v xs) (j : Nat) : ∃ (q : Option RowX) (u : Value), (∀ L : List (Option RowX), L[j]? = some q → VR (envL L) u v ∧ Sl (startL L) 1 u (iv xs) xs.length) ∧ Plain u xs.length ∧
    ∀ r : RowX, q = some r → ∃ arr t fz, w.heap[r.b]? = some (.cells arr t fz) ∧ (∀ E, VRs E r.cs r.cs') ∧ ∀ (k : Nat) (v : Value), r.cs'[k]? = some v → arr[r.off + k]? = some v := by
  rcases h with ⟨rfl, rfl⟩ | ⟨a, rfl, rfl⟩ | ⟨b, o, cap, arr, t, fz, rfl, h1, h2, h3, h4⟩
  · exact ⟨none, .slice none 0 0, fun L hL => ⟨.sc rfl, .inl ⟨rfl, rfl, rfl⟩⟩, .inl rfl, fun r hr => by cases hr⟩
  · exact ⟨none, .slice (some ⟨a.block, a.off, some (zc a.spot)⟩) 0 (BIG + BIG), fun L hL => ⟨.dang a rfl rfl rfl rfl, .inr (.inl ⟨_, _, _, _, rfl, rfl, rfl⟩)⟩, .inr (.inr ⟨_, _, _, rfl⟩), fun r hr => by cases hr⟩
  · refine ⟨some ⟨b, o, iv xs, iv xs⟩, .slice (some ⟨j, o, none⟩) xs.length cap, fun L hL => ⟨?_, ?_⟩, .mk, ?_⟩
    · exact VR.slx o xs.length cap (κ := 0) (by simp [envL, hL]) h2
    · refine .inr (.inr ⟨j, o, cap, o, iv xs, rfl, startL_view hL, Nat.le_refl _, by rw [iv_len, Nat.mul_one], by rw [iv_len]; omega, ?_, .inl ⟨h2, h1⟩⟩)
      rw [Nat.sub_self, List.drop_zero, List.take_of_length_le (by rw [iv_len]; omega)]
    · intro r hr
      cases hr
      refine ⟨arr, t, fz, h3, fun E => ?_, ?_⟩
      · refine VRs.of_all fun v hv => ?_
        unfold iv at hv
        rw [List.mem_map] at hv
        obtain ⟨x, _, rfl⟩ := hv
        rfl
      · intro k v hk
        rw [iv_get] at hk
        have hlt : k < xs.length := by
          rcases Nat.lt_or_ge k xs.length with h | h
          · exact h
          · rw [List.getElem?_eq_none h] at hk; cases hk
        rw [List.getElem?_eq_getElem hlt] at hk
        cases hk
        exact h4 k hlt
/-- all rows: the numbers from m on -/
theorem rowsIn_abs {w : World} : ∀ (vs : List Value) (xss : List (List Int)), vs.length = xss.length → (∀ (i : Nat) (v : Value) (xs : List Int), vs[i]? = some v → xss[i]? = some xs → RowIn w v xs) → ∀ m : Nat, ∃ (Q : List (Option RowX)) (us : List Value), Q.length = vs.length ∧ us.length = vs.length ∧
    ∀ L : List (Option RowX), (∀ (i : Nat) (q : Option RowX), Q[i]? = some q → L[m + i]? = some q) → VRs (envL L) us vs ∧ (∀ (i : Nat) (xs : List Int), xss[i]? = some xs → ∃ u : Value, us[i]? = some u ∧ Sl (startL L) 1 u (iv xs) xs.length ∧ Plain u xs.length) ∧
      ∀ (i : Nat) (r : RowX), Q[i]? = some (some r) → ∃ arr t fz, w.heap[r.b]? = some (.cells arr t fz) ∧ (∀ E, VRs E r.cs r.cs') ∧ ∀ (k : Nat) (v : Value), r.cs'[k]? = some v → arr[r.off + k]? = some v := by
  intro vs
  induction vs with
  | nil =>
    intro xss hl _ m
    have : xss = [] := List.length_eq_zero_iff.1 hl.symm
    subst this
    exact ⟨[], [], rfl, rfl, fun L _ => ⟨.nil, fun i xs h => by simp at h, fun i r h => by simp at h⟩⟩
  | cons v vs ih =>
    intro xss hl h m
    cases xss with
    | nil => simp at hl
    | cons xs xss =>
      obtain ⟨q, u, h1, h2, h3⟩ := rowIn_abs (h 0 v xs rfl rfl) m
      obtain ⟨Q, us, g1, g2, g3⟩ := ih xss (by simpa using hl) (fun i v xs hv hx => h (i + 1) v xs (by simpa using hv) (by simpa using hx)) (m + 1)
      refine ⟨q :: Q, u :: us, by simp [g1], by simp [g2], fun L hL => ?_⟩
      obtain ⟨k1, k2⟩ := h1 L (by have := hL 0 q rfl; simpa using this)
      obtain ⟨j1, j2, j3⟩ := g3 L (fun i q' hq => by have := hL (i + 1) q' (by simpa using hq); rw [← this]; congr 1; omega)
      refine ⟨.cons k1 j1, ?_, ?_⟩
      · intro i xs' hx
        cases i with
        | zero => cases hx; exact ⟨u, rfl, k2, h2⟩
        | succ i => exact j2 i xs' (by simpa using hx)
      · intro i r hr
        cases i with
        | zero => simp only [List.getElem?_cons_zero, Option.some.injEq] at hr; exact h3 r hr
        | succ i => exact j3 i r (by simpa using hr)
/-- a list of rows that came in -/
def TabIn (w : World) (v : Value) (xss : List (List Int)) : Prop :=
  (v = .slice none 0 0 ∧ xss = []) ∨
  ∃ (b o cap : Nat) (arr : Array Value) (t : TypeId) (fz : Nat × Nat) (vs : List Value), v = .slice (some ⟨b, o, none⟩) xss.length cap ∧ xss.length ≤ cap ∧ cap < BIG ∧ w.heap[b]? = some (.cells arr t fz) ∧ vs.length = xss.length ∧ (∀ (k : Nat) (u : Value), vs[k]? = some u → arr[o + k]? = some u) ∧ ∀ (i : Nat) (u : Value) (xs : List Int), vs[i]? = some u → xss[i]? = some xs → RowIn w u xs
theorem tabIn_start {w : World} {v : Value} {xss : List (List Int)} (h : TabIn w v xss) : ∃ (S : St) (E : Env) (u : Value), S.ok ∧ SR ⟨w, fun _ => True, fun _ => False⟩ E S w ∧ VR E u v ∧ Mat S u xss ∧ Plain u xss.length := by
  rcases h with ⟨rfl, rfl⟩ | ⟨b, o, cap, arr, t, fz, vs, rfl, h1, h2, h3, h4, h5, h6⟩
  · exact ⟨startL [], envL [], .slice none 0 0, rfl, SR.startL w [] (fun i r h => by simp at h), .sc rfl, ⟨[], .inl ⟨rfl, rfl, rfl⟩, fun i hi => by simp at hi⟩, .inl rfl⟩
  · obtain ⟨Q, us, g1, g2, g3⟩ := rowsIn_abs vs xss h4 h6 1
    have hL : ∀ i q, Q[i]? = some q → ((some ⟨b, o, us, vs⟩ :: Q : List (Option RowX)))[1 + i]? = some q := by
      intro i q hq
      rw [Nat.add_comm, List.getElem?_cons_succ]
      exact hq
    obtain ⟨k1, k2, k3⟩ := g3 (some ⟨b, o, us, vs⟩ :: Q) hL
    have hul : (us.length : Nat) = xss.length := by omega
    refine ⟨startL (some ⟨b, o, us, vs⟩ :: Q), envL (some ⟨b, o, us, vs⟩ :: Q), .slice (some ⟨0, o, none⟩) xss.length cap, by unfold St.ok Go.Ax.startL; simp, SR.startL w _ ?_, VR.slx o xss.length cap (κ := 0) (by simp [envL]) h2, ⟨us, ?_, ?_⟩, .mk⟩
    · intro i r hr
      cases i with
      | zero =>
        simp only [List.getElem?_cons_zero, Option.some.injEq] at hr
        subst hr
        exact ⟨arr, t, fz, h3, k1, h5⟩
      | succ i =>
        obtain ⟨arr', t', fz', q1, q2, q3⟩ := k3 i r (by simpa using hr)
        exact ⟨arr', t', fz', q1, q2 _, q3⟩
    · refine .inr (.inr ⟨0, o, cap, o, us, rfl, startL_view (r := ⟨b, o, us, vs⟩) rfl, Nat.le_refl _, by omega, by omega, ?_, .inl ⟨h2, h1⟩⟩)
      rw [Nat.sub_self, List.drop_zero, List.take_of_length_le (by omega)]
    · intro i hi
      exact k2 i _ (List.getElem?_eq_getElem hi)
end Go.Ax
end
/- part Wy -/
section
/- Arguments that are lists, or lists of lists, of whole numbers: opened from the readings of a claim. -/
namespace Go.Ax
open Go.ChangeShapes Go.WideShapes Go.ChangeAt Go.RowKit
theorem cellAt {w : World} {b o : Nat} {arr : Array Value} {t : TypeId} {fz : Nat × Nat} (hb : w.heap[b]? = some (.cells arr t fz)) (i : Nat) : w.cell? ((⟨b, o, none⟩ : Addr).add i) = arr[o + i]? := by
  unfold Addr.add World.cell?
  by_cases h : i = 0
  · subst h; simp [hb]
  · simp [h, hb]
theorem cell_some {w : World} {a : Addr} {v : Value} (h : w.cell? a = some v) : ∃ arr t fz, w.heap[a.block]? = some (.cells arr t fz) ∧ a = ⟨a.block, a.off, none⟩ := by
  obtain ⟨b, o, s⟩ := a
  unfold World.cell? at h
  simp only at h
  split at h
  · rename_i arr t fz hb
    cases s with
    | none => exact ⟨arr, t, fz, hb, rfl⟩
    | some s => simp at h
  · cases h
theorem hasRow {P : Program} {W : World} {base : Nat} {t e : TypeId} {x : Addr} {len cap : Nat} (ht : P.underlying t = some (.slice e)) (h : Value.okWide P W .any base t (.slice (some x) len cap)) :
    ∃ b o arr t fz, x = ⟨b, o, none⟩ ∧ W.heap[b]? = some (.cells arr t fz) := by
  simp only [Value.okWide, ht, Cell.okWide, Cell.ok] at h
  obtain ⟨_, _, _, h1, r, c, h2, _⟩ := h
  obtain ⟨b, o, s⟩ := x
  simp only at h1 h2
  subst h1
  unfold World.shape? at h2
  split at h2
  · rename_i c' e' fz hc
    exact ⟨b, o, c', e', fz, rfl, hc⟩
  · cases h2
section
variable {H : Type} {enc : TypeId × Value → H} {P : Program} {W : World}
theorem rowIn_trod {t e : TypeId} {fuel : Nat} {c : Value} {x : DataW H × List MemPlace} (ht : P.underlying t = some (.slice e)) (he : P.underlying e = some (.int .i64)) (hc : P.cellsOf e = 1)
    (h : DataW.trod enc P W 0 (fun _ => true) true fuel t [c] = some x) : ∃ xs, RowIn W c xs := by
  rcases open_ints ht he hc h with ⟨hcs, _⟩ | ⟨a, len, cap, zs, hcs, _, hl, hm, hz, _, hcell, _⟩
  · simp only [List.cons.injEq, and_true] at hcs
    subst hcs
    exact ⟨[], .inl ⟨rfl, rfl⟩⟩
  · simp only [List.cons.injEq, and_true] at hcs
    subst hcs
    simp only [if_true] at hz
    by_cases h0 : cap = 0
    · subst h0
      have : len = 0 := by omega
      subst this
      exact ⟨[], .inr (.inl ⟨a, rfl, rfl⟩)⟩
    · have h1 := hcell 0 (by omega)
      have h1' : W.cell? a = some (.int .i64 (zs.getD 0 0)) := by simpa [Addr.add] using h1
      obtain ⟨arr, t', fz, hb, ha⟩ := cell_some h1'
      have hlen : (zs.take len).length = len := by rw [List.length_take]; omega
      refine ⟨zs.take len, .inr (.inr ⟨a.block, a.off, cap, arr, t', fz, by rw [hlen, ← ha], by omega, by unfold maxLen at hm; unfold BIG; omega, hb, ?_⟩)⟩
      intro i hi
      rw [hlen] at hi
      have h2 := hcell i (by omega)
      rw [ha, cellAt hb] at h2
      rw [h2, List.getD_eq_getElem?_getD, List.getElem?_eq_getElem (by omega)]
      simp
theorem tabIn_trod {t e f : TypeId} {v : Value} {d : DataW H} {ps : List MemPlace} {base : Nat} (ht : P.underlying t = some (.slice e)) (he : P.underlying e = some (.slice f)) (hf : P.underlying f = some (.int .i64)) (hce : P.cellsOf e = 1) (hcf : P.cellsOf f = 1)
    (hok : Value.okWide P W .any base t v) (h : DataW.Trod enc P W 0 (fun _ => true) true t v d ps) : ∃ xss, TabIn W v xss := by
  obtain ⟨fuel, hfu⟩ := h
  obtain ⟨a0, l0, c0, rfl⟩ := okWide_slice ht hok
  rcases DataW.trod_slice ht hfu with ⟨hcs, _⟩ | ⟨a, len, cap, elems, rest, n, _, hcs, _, _, hl, hm, hlen, hel, _, _⟩
  · simp [Value.cells] at hcs
    obtain ⟨rfl, rfl, rfl⟩ := hcs
    exact ⟨[], .inl ⟨rfl, rfl⟩⟩
  · simp [Value.cells] at hcs
    obtain ⟨rfl, rfl, rfl⟩ := hcs
    obtain ⟨b, o, arr, t', fz, rfl, hb⟩ := hasRow ht hok
    -- each element
    have each : ∀ i, i < l0 → ∃ c xs, arr[o + i]? = some c ∧ RowIn W c xs := by
      intro i hi
      have h1 := hel i hi
      rw [hce, Nat.mul_one, List.getElem?_eq_getElem (by omega), Option.bind_eq_some_iff] at h1
      obtain ⟨cs', k1, k2⟩ := h1
      have hone : ∃ c, cs' = [c] := by
        rcases DataW.trod_slice he k2 with ⟨hcs, _⟩ | ⟨a, len, cap, elems, rest, n, _, hcs, _⟩
        · exact ⟨_, hcs⟩
        · exact ⟨_, hcs⟩
      obtain ⟨c, rfl⟩ := hone
      have hcell := cell_of_cells?_one k1
      rw [cellAt hb] at hcell
      obtain ⟨xs, hxs⟩ := rowIn_trod he hf hcf k2
      exact ⟨c, xs, hcell, hxs⟩
    have build : ∀ m, m ≤ l0 → ∃ (vs : List Value) (xss : List (List Int)), vs.length = m ∧ xss.length = m ∧ (∀ (k : Nat) (u : Value), vs[k]? = some u → arr[o + k]? = some u) ∧ ∀ (i : Nat) (u : Value) (xs : List Int), vs[i]? = some u → xss[i]? = some xs → RowIn W u xs := by
      intro m
      induction m with
      | zero => intro _; exact ⟨[], [], rfl, rfl, fun k u h => by simp at h, fun i u xs h => by simp at h⟩
      | succ m ih =>
        intro hm
        obtain ⟨vs, xss, g1, g2, g3, g4⟩ := ih (by omega)
        obtain ⟨c, xs, k1, k2⟩ := each m (by omega)
        refine ⟨vs ++ [c], xss ++ [xs], by simp [g1], by simp [g2], ?_, ?_⟩
        · intro k u hk
          rw [List.getElem?_append] at hk
          split at hk
          · exact g3 k u hk
          · rename_i hge
            have hkm : k - vs.length = 0 := by
              rcases Nat.eq_zero_or_pos (k - vs.length) with h | h
              · exact h
              · rw [List.getElem?_eq_none (by simp; omega)] at hk; cases hk
            rw [hkm] at hk
            cases hk
            have : k = m := by omega
            subst this
            exact k1
        · intro i u ys hu hy
          rw [List.getElem?_append] at hu hy
          by_cases hi : i < m
          · rw [if_pos (by omega)] at hu hy
            exact g4 i u ys hu hy
          · rw [if_neg (by omega)] at hu hy
            have hkm : i - vs.length = 0 := by
              rcases Nat.eq_zero_or_pos (i - vs.length) with h | h
              · exact h
              · rw [List.getElem?_eq_none (by simp; omega)] at hu; cases hu
            rw [hkm] at hu
            rw [show i - xss.length = 0 by omega] at hy
            cases hu
            cases hy
            exact k2
    obtain ⟨vs, xss, g1, g2, g3, g4⟩ := build l0 (Nat.le_refl _)
    exact ⟨xss, .inr ⟨b, o, c0, arr, t', fz, vs, by rw [g2], by omega, by unfold maxLen at hm; unfold BIG; omega, hb, by omega, g3, g4⟩⟩
end
end Go.Ax
end
/- part Zb -/
section
/- The second seat's program: types. -/
namespace Go.Proofs.Sz
open Go Go.Ax Go.Proofs Go.RowKit
noncomputable abbrev PP : Program := Tryz.prog
noncomputable def TT : Tab := tabOf Tryz.prog
theorem names : namesOk Tryz.prog = true := by kernel_rfl
theorem mixed : Tryz.prog.follows .mixedOrders = true := by kernel_rfl
theorem hTT : TabOK PP TT := tabOf_ok names mixed
theorem und3 : TT.und 3 = some (.int .i64) := by kernel_rfl
theorem und4 : TT.und 4 = some (.bool) := by kernel_rfl
theorem und22 : TT.und 22 = some (.slice 26) := by kernel_rfl
theorem und26 : TT.und 26 = some (.slice 3) := by kernel_rfl
theorem und29 : TT.und 29 = some (.int .i64) := by kernel_rfl
theorem und45 : TT.und 45 = some (.int .u64) := by kernel_rfl
theorem und64 : TT.und 64 = some (.slice 4) := by kernel_rfl
theorem info3 : TT.info 3 = some ⟨.int .i64 0, 1, 8⟩ := by kernel_rfl
theorem info4 : TT.info 4 = some ⟨.bool false, 1, 1⟩ := by kernel_rfl
theorem info22 : TT.info 22 = some ⟨.slice none 0 0, 1, 24⟩ := by kernel_rfl
theorem info26 : TT.info 26 = some ⟨.slice none 0 0, 1, 24⟩ := by kernel_rfl
theorem info29 : TT.info 29 = some ⟨.int .i64 0, 1, 8⟩ := by kernel_rfl
theorem info45 : TT.info 45 = some ⟨.int .u64 0, 1, 8⟩ := by kernel_rfl
theorem info64 : TT.info 64 = some ⟨.slice none 0 0, 1, 24⟩ := by kernel_rfl
theorem info50 : TT.info 50 = some ⟨.nilFunc, 1, 8⟩ := by kernel_rfl
theorem fnOk_func (f : FuncId) : fnOk (.func f) = true := Eq.trans rfl rfl
end Go.Proofs.Sz
end
/- part SzIns -/
section
/- slices.Insert of ints: the library's contract laid upon this program. -/
namespace Go.Proofs.Sz
open Go Go.Ax Go.Proofs
def iren : Shelf.Ren where
  f := fun x => match x with
    | 21 => 34
    | 27 => 55
    | 28 => 56
    | 35 => 73
    | 39 => 84
    | n => n
  t := fun x => match x with
    | 22 => 26
    | n => n
  g := fun x => x
theorem insE : Lays2.n21 Tryz.prog iren where
  mixed := by kernel_rfl
  f21 := by kernel_rfl
  f27 := by kernel_rfl
  f28 := by kernel_rfl
  f35 := by kernel_rfl
  f39 := by kernel_rfl
  t0 := Tryz.underlying0
  a0 := Tryz.isAgg0
  z0 := Tryz.sizeOf0
  v0 := Tryz.zeroValue0
  t3 := Tryz.underlying3
  a3 := Tryz.isAgg3
  z3 := Tryz.sizeOf3
  v3 := Tryz.zeroValue3
  t4 := Tryz.underlying4
  a4 := Tryz.isAgg4
  z4 := Tryz.sizeOf4
  v4 := Tryz.zeroValue4
  t22 := Tryz.underlying26
  a22 := Tryz.isAgg26
  z22 := Tryz.sizeOf26
  v22 := Tryz.zeroValue26
  i3 := by kernel_rfl
end Go.Proofs.Sz
end
/- part Za -/
section
namespace Go.Proofs.Sz
open Go Go.Ax Go.Proofs Go.RowKit
theorem fn14 : TT.fn 14 = some Tryz.f14 := by kernel_rfl
/-- ints -/
theorem ints_call {S : St} {va vb : Value} {xs ys : List Int} (ha : Sl S 1 va (iv xs) xs.length) (hb : Sl S 1 vb (iv ys) ys.length) (hbig : xs.length < 4611686018427387904) :
    CallW PP 14 [va, vb] S (fun v S' => v = .bool (decide (xs = ys)) ∧ S' = S) := by
  have hla := ha.len (T := TT) und26
  have hlb := hb.len (T := TT) und26
  refine CallW_of hTT fn14 rfl (by simp [Tryz.f14]) ?_
  unfold Tryz.f14
  repeat (first | with_reducible (first | refine W_seq ?_ | refine W_block ?_ | refine W_scope ?_ | refine W_regionV hTT ?_ | refine W_condV ?_ | refine W_ret ?_ | refine W_exit ?_ | refine W_skip ?_ | refine W_label ?_ | refine W_drawV hTT (by kernel_rfl) ?_) | simp only [H0, J86, J87, und3, und4, und22, und26, und29, und45, und64, info3, info4, info22, info26, info29, info45, info64, info50, aggT, gv, dstAt, aop, evalsA, partsA, evalO, updO, ofArgs, binV, intBin, unV, mmV, builtinA, Nat.reduceLT, Nat.reduceEqDiff, Nat.reduceAdd, Nat.reduceSub, Nat.reduceMul, ↓reduceIte, reduceCtorEq, hla, hlb])
  refine VIf_split (fun h1 => ?_) (fun h1 => ?_)
  · repeat (first | with_reducible (first | refine W_seq ?_ | refine W_block ?_ | refine W_scope ?_ | refine W_regionV hTT ?_ | refine W_condV ?_ | refine W_ret ?_ | refine W_exit ?_ | refine W_skip ?_ | refine W_label ?_ | refine W_drawV hTT (by kernel_rfl) ?_) | simp only [H0, J86, J87, und3, und4, und22, und26, und29, und45, und64, info3, info4, info22, info26, info29, info45, info64, info50, aggT, gv, dstAt, aop, evalsA, partsA, evalO, updO, ofArgs, binV, intBin, unV, mmV, builtinA, Nat.reduceLT, Nat.reduceEqDiff, Nat.reduceAdd, Nat.reduceSub, Nat.reduceMul, ↓reduceIte, reduceCtorEq])
    congr 1
    simp only [Bool.false_eq, decide_eq_false_iff_not]
    rintro rfl
    simp at h1
  · repeat (first | with_reducible (first | refine W_seq ?_ | refine W_block ?_ | refine W_scope ?_ | refine W_regionV hTT ?_ | refine W_condV ?_ | refine W_ret ?_ | refine W_exit ?_ | refine W_skip ?_ | refine W_label ?_ | refine W_drawV hTT (by kernel_rfl) ?_) | simp only [H0, J86, J87, und3, und4, und22, und26, und29, und45, und64, info3, info4, info22, info26, info29, info45, info64, info50, aggT, gv, dstAt, aop, evalsA, partsA, evalO, updO, ofArgs, binV, intBin, unV, mmV, builtinA, Nat.reduceLT, Nat.reduceEqDiff, Nat.reduceAdd, Nat.reduceSub, Nat.reduceMul, ↓reduceIte, reduceCtorEq])
    refine W_loopI (fun m τ ds S' => S' = S ∧ ds = [] ∧ ∃ k : Nat, m = xs.length - k ∧ k ≤ xs.length ∧ τ 0 = va ∧ τ 1 = vb ∧ τ 5 = .int .i64 k ∧ xs.take k = ys.take k) xs.length ?_ ?_
    · refine ⟨rfl, rfl, 0, by simp, by simp, ?_, ?_, ?_, by simp⟩ <;> first | rfl | simp only [H0, J86, J87, und3, und4, und22, und26, und29, und45, und64, info3, info4, info22, info26, info29, info45, info64, info50, aggT, gv, dstAt, aop, evalsA, partsA, evalO, updO, ofArgs, binV, intBin, unV, mmV, builtinA, Nat.reduceLT, Nat.reduceEqDiff, Nat.reduceAdd, Nat.reduceSub, Nat.reduceMul, ↓reduceIte, reduceCtorEq]
    · rintro m τ ds S' ⟨rfl, rfl, k, rfl, hk, t0, t1, t5, hp⟩
      have hlen : xs.length = ys.length := by simp at h1; omega
      by_cases hlt : k < xs.length
      · have e1 : decide ((k : Int) < xs.length) = true := by simpa using hlt
        obtain ⟨p, p1, p2, _⟩ := ha.at1 (T := TT) (k := .i64) und26 info3 und3 rfl rfl hlt
        have hlt2 : k < ys.length := by omega
        obtain ⟨q, q1, q2, _⟩ := hb.at1 (T := TT) (k := .i64) und26 info3 und3 rfl rfl hlt2
        rw [iv_get, List.getElem?_eq_getElem hlt] at p2
        rw [iv_get, List.getElem?_eq_getElem hlt2] at q2
        have hw := wrap_succ (k := k) (by omega)
        repeat (first | with_reducible (first | refine W_seq ?_ | refine W_block ?_ | refine W_scope ?_ | refine W_regionV hTT ?_ | refine W_condV ?_ | refine W_ret ?_ | refine W_exit ?_ | refine W_skip ?_ | refine W_label ?_ | refine W_drawV hTT (by kernel_rfl) ?_) | simp only [H0, J86, J87, und3, und4, und22, und26, und29, und45, und64, info3, info4, info22, info26, info29, info45, info64, info50, aggT, gv, dstAt, aop, evalsA, partsA, evalO, updO, ofArgs, binV, intBin, unV, mmV, builtinA, Nat.reduceLT, Nat.reduceEqDiff, Nat.reduceAdd, Nat.reduceSub, Nat.reduceMul, ↓reduceIte, reduceCtorEq, hla, hlb, t0, t1, t5, e1, p1, p2, q1, q2, hw])
        refine VIf_split (fun h2 => ?_) (fun h2 => ?_)
        · repeat (first | with_reducible (first | refine W_seq ?_ | refine W_block ?_ | refine W_scope ?_ | refine W_regionV hTT ?_ | refine W_condV ?_ | refine W_ret ?_ | refine W_exit ?_ | refine W_skip ?_ | refine W_label ?_ | refine W_drawV hTT (by kernel_rfl) ?_) | simp only [H0, J86, J87, und3, und4, und22, und26, und29, und45, und64, info3, info4, info22, info26, info29, info45, info64, info50, aggT, gv, dstAt, aop, evalsA, partsA, evalO, updO, ofArgs, binV, intBin, unV, mmV, builtinA, Nat.reduceLT, Nat.reduceEqDiff, Nat.reduceAdd, Nat.reduceSub, Nat.reduceMul, ↓reduceIte, reduceCtorEq])
          congr 1
          simp only [Bool.false_eq, decide_eq_false_iff_not]
          rintro rfl
          simp at h2
        · repeat (first | with_reducible (first | refine W_seq ?_ | refine W_block ?_ | refine W_scope ?_ | refine W_regionV hTT ?_ | refine W_condV ?_ | refine W_ret ?_ | refine W_exit ?_ | refine W_skip ?_ | refine W_label ?_ | refine W_drawV hTT (by kernel_rfl) ?_) | simp only [H0, J86, J87, und3, und4, und22, und26, und29, und45, und64, info3, info4, info22, info26, info29, info45, info64, info50, aggT, gv, dstAt, aop, evalsA, partsA, evalO, updO, ofArgs, binV, intBin, unV, mmV, builtinA, Nat.reduceLT, Nat.reduceEqDiff, Nat.reduceAdd, Nat.reduceSub, Nat.reduceMul, ↓reduceIte, reduceCtorEq, t0, t1, t5, hw])
          refine LoopQ_intro (xs.length - (k + 1)) (by omega) ⟨rfl, rfl, k + 1, rfl, by omega, by simp only [H0, J86, J87, und3, und4, und22, und26, und29, und45, und64, info3, info4, info22, info26, info29, info45, info64, info50, aggT, gv, dstAt, aop, evalsA, partsA, evalO, updO, ofArgs, binV, intBin, unV, mmV, builtinA, Nat.reduceLT, Nat.reduceEqDiff, Nat.reduceAdd, Nat.reduceSub, Nat.reduceMul, ↓reduceIte, reduceCtorEq, t0], by simp only [H0, J86, J87, und3, und4, und22, und26, und29, und45, und64, info3, info4, info22, info26, info29, info45, info64, info50, aggT, gv, dstAt, aop, evalsA, partsA, evalO, updO, ofArgs, binV, intBin, unV, mmV, builtinA, Nat.reduceLT, Nat.reduceEqDiff, Nat.reduceAdd, Nat.reduceSub, Nat.reduceMul, ↓reduceIte, reduceCtorEq, t1], by simp only [H0, J86, J87, und3, und4, und22, und26, und29, und45, und64, info3, info4, info22, info26, info29, info45, info64, info50, aggT, gv, dstAt, aop, evalsA, partsA, evalO, updO, ofArgs, binV, intBin, unV, mmV, builtinA, Nat.reduceLT, Nat.reduceEqDiff, Nat.reduceAdd, Nat.reduceSub, Nat.reduceMul, ↓reduceIte, reduceCtorEq, t5], ?_⟩
          have hx : xs[k] = ys[k] := by simpa using h2
          rw [List.take_succ_eq_append_getElem hlt, List.take_succ_eq_append_getElem hlt2, hp, hx]
      · have e1 : decide ((k : Int) < xs.length) = false := by simpa using hlt
        repeat (first | with_reducible (first | refine W_seq ?_ | refine W_block ?_ | refine W_scope ?_ | refine W_regionV hTT ?_ | refine W_condV ?_ | refine W_ret ?_ | refine W_exit ?_ | refine W_skip ?_ | refine W_label ?_ | refine W_drawV hTT (by kernel_rfl) ?_) | simp only [H0, J86, J87, und3, und4, und22, und26, und29, und45, und64, info3, info4, info22, info26, info29, info45, info64, info50, aggT, gv, dstAt, aop, evalsA, partsA, evalO, updO, ofArgs, binV, intBin, unV, mmV, builtinA, Nat.reduceLT, Nat.reduceEqDiff, Nat.reduceAdd, Nat.reduceSub, Nat.reduceMul, ↓reduceIte, reduceCtorEq, hla, hlb, t0, t1, t5, e1])
        congr 1
        have hkk : k = xs.length := by omega
        subst hkk
        rw [List.take_length, hlen, List.take_length] at hp
        simp [hp]

theorem fn46 : TT.fn 46 = some Tryz.f46 := by kernel_rfl
theorem within_call (S : St) (x lo hi : Int) : CallW PP 46 [.int .i64 x, .int .i64 lo, .int .i64 hi] S (fun v S' => v = .bool (decide (lo ≤ x ∧ x ≤ hi)) ∧ S' = S) := by
  refine CallW_of hTT fn46 rfl (by simp [Tryz.f46]) ?_
  unfold Tryz.f46
  by_cases h1 : x ≥ lo
  · have e1 : decide (x ≥ lo) = true := decide_eq_true h1
    repeat (first | with_reducible (first | refine W_seq ?_ | refine W_block ?_ | refine W_scope ?_ | refine W_regionV hTT ?_ | refine W_condV ?_ | refine W_ret ?_ | refine W_exit ?_ | refine W_skip ?_ | refine W_label ?_ | refine W_drawV hTT (by kernel_rfl) ?_) | simp only [H0, J86, J87, und3, und4, und22, und26, und29, und45, und64, info3, info4, info22, info26, info29, info45, info64, info50, aggT, gv, dstAt, aop, evalsA, partsA, evalO, updO, ofArgs, binV, intBin, unV, mmV, builtinA, Nat.reduceLT, Nat.reduceEqDiff, Nat.reduceAdd, Nat.reduceSub, Nat.reduceMul, ↓reduceIte, reduceCtorEq, e1])
    simp; omega
  · have e1 : decide (x ≥ lo) = false := decide_eq_false h1
    repeat (first | with_reducible (first | refine W_seq ?_ | refine W_block ?_ | refine W_scope ?_ | refine W_regionV hTT ?_ | refine W_condV ?_ | refine W_ret ?_ | refine W_exit ?_ | refine W_skip ?_ | refine W_label ?_ | refine W_drawV hTT (by kernel_rfl) ?_) | simp only [H0, J86, J87, und3, und4, und22, und26, und29, und45, und64, info3, info4, info22, info26, info29, info45, info64, info50, aggT, gv, dstAt, aop, evalsA, partsA, evalO, updO, ofArgs, binV, intBin, unV, mmV, builtinA, Nat.reduceLT, Nat.reduceEqDiff, Nat.reduceAdd, Nat.reduceSub, Nat.reduceMul, ↓reduceIte, reduceCtorEq, e1])
    simp; omega
theorem iv_take (l : List Int) (k : Nat) : (iv l).take k = iv (l.take k) := by simp [iv]
theorem iv_drop (l : List Int) (k : Nat) : (iv l).drop k = iv (l.drop k) := by simp [iv]
theorem iv_append (l k : List Int) : iv l ++ iv k = iv (l ++ k) := by simp [iv]
theorem ones_iv (l : List Int) : ones (iv l) = true := by
  unfold ones iv
  rw [List.all_map, List.all_eq_true]
  intro x _
  rfl
theorem fn10 : TT.fn 10 = some Tryz.f10 := by kernel_rfl
/-- list -/
theorem list_call {S : St} (hok : S.ok) {va : Value} {xs : List Int} (ha : Sl S 1 va (iv xs) xs.length) (hpl : Plain va xs.length) :
    CallW PP 10 [va] S (fun v S' => Mine S' 3 1 S.n v (iv (xs.take 31)) (xs.take 31).length ∧ Ext S S') := by
  have hla := ha.len (T := TT) und26
  refine CallW_of hTT fn10 rfl (by simp [Tryz.f10]) ?_
  unfold Tryz.f10
  have hmin : min (xs.length : Int) 31 = ((min xs.length 31 : Nat) : Int) := by omega
  obtain ⟨u, hu, hsl, hbase⟩ := ha.cut (T := TT) (lo := 0) (hi := min xs.length 31) (l := none) (r := some (.int .i64 ((min xs.length 31 : Nat) : Int))) und26 info3 rfl (by decide) (.inl ⟨rfl, rfl⟩) (.inr ⟨_, rfl⟩) (Nat.zero_le _) (Nat.min_le_left _ _) hpl
  have hcs : (List.drop (0 * 1) (List.take (min xs.length 31 * 1) (iv xs))) = iv (xs.take 31) := by
    rw [Nat.zero_mul, List.drop_zero, Nat.mul_one, iv_take]
    congr 1
    rw [List.take_eq_take_iff]
    omega
  have hn : min xs.length 31 - 0 = (xs.take 31).length := by rw [List.length_take]; omega
  rw [hcs, hn] at hsl
  obtain ⟨v', S', h1, h2, h3, h4⟩ := (Mine.nil S 3 1 S.n).append (T := TT) (ty := 26) (ty2 := 26) (x := u) hok (Nat.le_refl _) und26 und26 rfl info3 rfl (by decide) rfl hsl.lenA hsl.src (ones_iv _) (by rw [iv_len]; omega) (grow_ok (by rw [List.length_take]; simp; omega) (by rw [List.length_take]; omega))
  repeat (first | with_reducible (first | refine W_seq ?_ | refine W_block ?_ | refine W_scope ?_ | refine W_regionV hTT ?_ | refine W_condV ?_ | refine W_ret ?_ | refine W_exit ?_ | refine W_skip ?_ | refine W_label ?_ | refine W_drawV hTT (by kernel_rfl) ?_) | simp only [H0, J86, J87, und3, und4, und22, und26, und29, und45, und64, info3, info4, info22, info26, info29, info45, info64, info50, aggT, gv, dstAt, aop, evalsA, partsA, evalO, updO, ofArgs, binV, intBin, unV, mmV, builtinA, Nat.reduceLT, Nat.reduceEqDiff, Nat.reduceAdd, Nat.reduceSub, Nat.reduceMul, ↓reduceIte, reduceCtorEq, hla, hmin, hu, h1])
  refine ⟨by simpa using h2, h3.ok, h3.n, fun i hi => h3.same i hi (by simp [baseOf]), h3.mono⟩
end Go.Proofs.Sz
end
/- part Zc -/
section
namespace Go.Proofs.Sz
open Go Go.Ax Go.Proofs Go.RowKit
theorem fn32 : TT.fn 32 = some Tryz.f32 := by kernel_rfl
/-- where the first one is; -1: nowhere -/
def idx (p : Int → Bool) (l : List Int) : Int := match l.findIdx? p with | some i => i | none => -1
theorem idx_at {p : Int → Bool} {l : List Int} {k : Nat} (h : k < l.length) (hk : p l[k] = true) (hb : ∀ i (h : i < l.length), i < k → p l[i] = false) : idx p l = k := by
  unfold idx
  have : l.findIdx? p = some k := by
    rw [List.findIdx?_eq_some_iff_getElem]
    exact ⟨h, hk, fun j hj => by simp [hb j (by omega) hj]⟩
  rw [this]
theorem idx_none {p : Int → Bool} {l : List Int} (hb : ∀ i (h : i < l.length), p l[i] = false) : idx p l = -1 := by
  unfold idx
  have : l.findIdx? p = none := by
    rw [List.findIdx?_eq_none_iff]
    intro x hx
    obtain ⟨i, hi, rfl⟩ := List.getElem_of_mem hx
    exact hb i hi
  rw [this]
/-- slices.IndexFunc at a list of numbers -/
theorem indexFunc_call {S : St} {va : Value} {xs : List Int} (ha : Sl S 1 va (iv xs) xs.length) (hbig : xs.length < 4611686018427387904) {g : FuncId} {cs : List Value} {p : Int → Bool}
    (hp : ∀ x ∈ xs, CallW PP g ([.int .i64 x] ++ cs) S (fun v S' => v = .bool (p x) ∧ S' = S)) :
    CallW PP 32 [va, .func (.func g) #[] cs.toArray] S (fun v S' => v = .int .i64 (idx p xs) ∧ S' = S) := by
  have hla := ha.len (T := TT) und26
  refine CallW_of hTT fn32 rfl (by simp [Tryz.f32]) ?_
  unfold Tryz.f32
  repeat (first | with_reducible (first | refine W_seq ?_ | refine W_block ?_ | refine W_scope ?_ | refine W_regionV hTT ?_ | refine W_condV ?_ | refine W_ret ?_ | refine W_exit ?_ | refine W_skip ?_ | refine W_label ?_ | refine W_drawV hTT (by kernel_rfl) ?_) | simp only [H0, J86, J87, und3, und4, und22, und26, und29, und45, und64, info3, info4, info22, info26, info29, info45, info64, info50, aggT, gv, dstAt, aop, evalsA, partsA, evalO, updO, ofArgs, binV, intBin, unV, mmV, builtinA, Nat.reduceLT, Nat.reduceEqDiff, Nat.reduceAdd, Nat.reduceSub, Nat.reduceMul, ↓reduceIte, reduceCtorEq, hla])
  refine W_loopI (fun m τ ds S' => S' = S ∧ ds = [] ∧ ∃ k : Nat, m = xs.length - k ∧ k ≤ xs.length ∧ τ 0 = va ∧ τ 1 = .func (.func g) #[] cs.toArray ∧ τ 7 = .int .i64 xs.length ∧ τ 8 = .int .i64 k ∧ ∀ i (h : i < xs.length), i < k → p xs[i] = false) xs.length ?_ ?_
  · refine ⟨rfl, rfl, 0, by simp, by simp, ?_, ?_, ?_, ?_, by simp⟩ <;> first | rfl | simp only [H0, J86, J87, und3, und4, und22, und26, und29, und45, und64, info3, info4, info22, info26, info29, info45, info64, info50, aggT, gv, dstAt, aop, evalsA, partsA, evalO, updO, ofArgs, binV, intBin, unV, mmV, builtinA, Nat.reduceLT, Nat.reduceEqDiff, Nat.reduceAdd, Nat.reduceSub, Nat.reduceMul, ↓reduceIte, reduceCtorEq]
  · rintro m τ ds S' ⟨rfl, rfl, k, rfl, hk, t0, t1, t7, t8, hb⟩
    by_cases hlt : k < xs.length
    · have e1 : decide ((k : Int) < xs.length) = true := by simpa using hlt
      obtain ⟨q, p1, p2, _⟩ := ha.at1 (T := TT) (k := .i64) und26 info3 und3 rfl rfl hlt
      rw [iv_get, List.getElem?_eq_getElem hlt] at p2
      have hw := wrap_succ (k := k) (by omega)
      repeat (first | with_reducible (first | refine W_seq ?_ | refine W_block ?_ | refine W_scope ?_ | refine W_regionV hTT ?_ | refine W_condV ?_ | refine W_ret ?_ | refine W_exit ?_ | refine W_skip ?_ | refine W_label ?_ | refine W_drawV hTT (by kernel_rfl) ?_) | simp only [H0, J86, J87, und3, und4, und22, und26, und29, und45, und64, info3, info4, info22, info26, info29, info45, info64, info50, aggT, gv, dstAt, aop, evalsA, partsA, evalO, updO, ofArgs, binV, intBin, unV, mmV, builtinA, Nat.reduceLT, Nat.reduceEqDiff, Nat.reduceAdd, Nat.reduceSub, Nat.reduceMul, ↓reduceIte, reduceCtorEq, hla, t0, t1, t7, t8, e1, p1, p2, hw])
      refine VCall_intro (hp _ (List.getElem_mem _)) ?_
      rintro v S2 ⟨rfl, rfl⟩
      simp only [H0, J86, J87, und3, und4, und22, und26, und29, und45, und64, info3, info4, info22, info26, info29, info45, info64, info50, aggT, gv, dstAt, aop, evalsA, partsA, evalO, updO, ofArgs, binV, intBin, unV, mmV, builtinA, Nat.reduceLT, Nat.reduceEqDiff, Nat.reduceAdd, Nat.reduceSub, Nat.reduceMul, ↓reduceIte, reduceCtorEq]
      repeat (first | with_reducible (first | refine W_seq ?_ | refine W_block ?_ | refine W_scope ?_ | refine W_regionV hTT ?_ | refine W_condV ?_ | refine W_ret ?_ | refine W_exit ?_ | refine W_skip ?_ | refine W_label ?_ | refine W_drawV hTT (by kernel_rfl) ?_) | simp only [H0, J86, J87, und3, und4, und22, und26, und29, und45, und64, info3, info4, info22, info26, info29, info45, info64, info50, aggT, gv, dstAt, aop, evalsA, partsA, evalO, updO, ofArgs, binV, intBin, unV, mmV, builtinA, Nat.reduceLT, Nat.reduceEqDiff, Nat.reduceAdd, Nat.reduceSub, Nat.reduceMul, ↓reduceIte, reduceCtorEq, t0, t1, t7, t8])
      refine VIf_split (fun h2 => ?_) (fun h2 => ?_)
      · repeat (first | with_reducible (first | refine W_seq ?_ | refine W_block ?_ | refine W_scope ?_ | refine W_regionV hTT ?_ | refine W_condV ?_ | refine W_ret ?_ | refine W_exit ?_ | refine W_skip ?_ | refine W_label ?_ | refine W_drawV hTT (by kernel_rfl) ?_) | simp only [H0, J86, J87, und3, und4, und22, und26, und29, und45, und64, info3, info4, info22, info26, info29, info45, info64, info50, aggT, gv, dstAt, aop, evalsA, partsA, evalO, updO, ofArgs, binV, intBin, unV, mmV, builtinA, Nat.reduceLT, Nat.reduceEqDiff, Nat.reduceAdd, Nat.reduceSub, Nat.reduceMul, ↓reduceIte, reduceCtorEq, t8])
        congr 1
        exact (idx_at hlt h2 hb).symm
      · repeat (first | with_reducible (first | refine W_seq ?_ | refine W_block ?_ | refine W_scope ?_ | refine W_regionV hTT ?_ | refine W_condV ?_ | refine W_ret ?_ | refine W_exit ?_ | refine W_skip ?_ | refine W_label ?_ | refine W_drawV hTT (by kernel_rfl) ?_) | simp only [H0, J86, J87, und3, und4, und22, und26, und29, und45, und64, info3, info4, info22, info26, info29, info45, info64, info50, aggT, gv, dstAt, aop, evalsA, partsA, evalO, updO, ofArgs, binV, intBin, unV, mmV, builtinA, Nat.reduceLT, Nat.reduceEqDiff, Nat.reduceAdd, Nat.reduceSub, Nat.reduceMul, ↓reduceIte, reduceCtorEq, t0, t1, t7, t8, hw])
        refine LoopQ_intro (xs.length - (k + 1)) (by omega) ⟨rfl, rfl, k + 1, rfl, by omega, by simp only [H0, J86, J87, und3, und4, und22, und26, und29, und45, und64, info3, info4, info22, info26, info29, info45, info64, info50, aggT, gv, dstAt, aop, evalsA, partsA, evalO, updO, ofArgs, binV, intBin, unV, mmV, builtinA, Nat.reduceLT, Nat.reduceEqDiff, Nat.reduceAdd, Nat.reduceSub, Nat.reduceMul, ↓reduceIte, reduceCtorEq, t0], by simp only [H0, J86, J87, und3, und4, und22, und26, und29, und45, und64, info3, info4, info22, info26, info29, info45, info64, info50, aggT, gv, dstAt, aop, evalsA, partsA, evalO, updO, ofArgs, binV, intBin, unV, mmV, builtinA, Nat.reduceLT, Nat.reduceEqDiff, Nat.reduceAdd, Nat.reduceSub, Nat.reduceMul, ↓reduceIte, reduceCtorEq, t1], by simp only [H0, J86, J87, und3, und4, und22, und26, und29, und45, und64, info3, info4, info22, info26, info29, info45, info64, info50, aggT, gv, dstAt, aop, evalsA, partsA, evalO, updO, ofArgs, binV, intBin, unV, mmV, builtinA, Nat.reduceLT, Nat.reduceEqDiff, Nat.reduceAdd, Nat.reduceSub, Nat.reduceMul, ↓reduceIte, reduceCtorEq, t7], by simp only [H0, J86, J87, und3, und4, und22, und26, und29, und45, und64, info3, info4, info22, info26, info29, info45, info64, info50, aggT, gv, dstAt, aop, evalsA, partsA, evalO, updO, ofArgs, binV, intBin, unV, mmV, builtinA, Nat.reduceLT, Nat.reduceEqDiff, Nat.reduceAdd, Nat.reduceSub, Nat.reduceMul, ↓reduceIte, reduceCtorEq, t8], ?_⟩
        intro i hi hik
        by_cases e : i = k
        · subst e; exact h2
        · exact hb i hi (by omega)
    · have e1 : decide ((k : Int) < xs.length) = false := by simpa using hlt
      repeat (first | with_reducible (first | refine W_seq ?_ | refine W_block ?_ | refine W_scope ?_ | refine W_regionV hTT ?_ | refine W_condV ?_ | refine W_ret ?_ | refine W_exit ?_ | refine W_skip ?_ | refine W_label ?_ | refine W_drawV hTT (by kernel_rfl) ?_) | simp only [H0, J86, J87, und3, und4, und22, und26, und29, und45, und64, info3, info4, info22, info26, info29, info45, info64, info50, aggT, gv, dstAt, aop, evalsA, partsA, evalO, updO, ofArgs, binV, intBin, unV, mmV, builtinA, Nat.reduceLT, Nat.reduceEqDiff, Nat.reduceAdd, Nat.reduceSub, Nat.reduceMul, ↓reduceIte, reduceCtorEq, hla, t0, t1, t7, t8, e1])
      rw [idx_none (fun i hi => hb i hi (by omega))]
theorem fn47 : TT.fn 47 = some Tryz.f47 := by kernel_rfl
/-- slices.ContainsFunc at a list of numbers -/
theorem containsFunc_call {S : St} {va : Value} {xs : List Int} (ha : Sl S 1 va (iv xs) xs.length) (hbig : xs.length < 4611686018427387904) {g : FuncId} {cs : List Value} {p : Int → Bool}
    (hp : ∀ x ∈ xs, CallW PP g ([.int .i64 x] ++ cs) S (fun v S' => v = .bool (p x) ∧ S' = S)) :
    CallW PP 47 [va, .func (.func g) #[] cs.toArray] S (fun v S' => v = .bool (xs.any p) ∧ S' = S) := by
  refine CallW_of hTT fn47 rfl (by simp [Tryz.f47]) ?_
  unfold Tryz.f47
  repeat (first | with_reducible (first | refine W_seq ?_ | refine W_block ?_ | refine W_scope ?_ | refine W_regionV hTT ?_ | refine W_condV ?_ | refine W_ret ?_ | refine W_exit ?_ | refine W_skip ?_ | refine W_label ?_ | refine W_drawV hTT (by kernel_rfl) ?_) | simp only [H0, J86, J87, und3, und4, und22, und26, und29, und45, und64, info3, info4, info22, info26, info29, info45, info64, info50, aggT, gv, dstAt, aop, evalsA, partsA, evalO, updO, ofArgs, binV, intBin, unV, mmV, builtinA, Nat.reduceLT, Nat.reduceEqDiff, Nat.reduceAdd, Nat.reduceSub, Nat.reduceMul, ↓reduceIte, reduceCtorEq])
  refine VCall_intro (indexFunc_call ha hbig hp) ?_
  rintro v S2 ⟨rfl, rfl⟩
  simp only [H0, J86, J87, und3, und4, und22, und26, und29, und45, und64, info3, info4, info22, info26, info29, info45, info64, info50, aggT, gv, dstAt, aop, evalsA, partsA, evalO, updO, ofArgs, binV, intBin, unV, mmV, builtinA, Nat.reduceLT, Nat.reduceEqDiff, Nat.reduceAdd, Nat.reduceSub, Nat.reduceMul, ↓reduceIte, reduceCtorEq]
  repeat (first | with_reducible (first | refine W_seq ?_ | refine W_block ?_ | refine W_scope ?_ | refine W_regionV hTT ?_ | refine W_condV ?_ | refine W_ret ?_ | refine W_exit ?_ | refine W_skip ?_ | refine W_label ?_ | refine W_drawV hTT (by kernel_rfl) ?_) | simp only [H0, J86, J87, und3, und4, und22, und26, und29, und45, und64, info3, info4, info22, info26, info29, info45, info64, info50, aggT, gv, dstAt, aop, evalsA, partsA, evalO, updO, ofArgs, binV, intBin, unV, mmV, builtinA, Nat.reduceLT, Nat.reduceEqDiff, Nat.reduceAdd, Nat.reduceSub, Nat.reduceMul, ↓reduceIte, reduceCtorEq])
  congr 1
  unfold idx
  cases h : xs.findIdx? p with
  | none =>
    rw [List.findIdx?_eq_none_iff] at h
    have : xs.any p = false := by rw [List.any_eq_false]; intro x hx; simp [h x hx]
    simp [this]
  | some i =>
    rw [List.findIdx?_eq_some_iff_getElem] at h
    obtain ⟨h1, h2, _⟩ := h
    have : xs.any p = true := List.any_eq_true.2 ⟨_, List.getElem_mem h1, h2⟩
    simp [this]
end Go.Proofs.Sz
end
/- part Zk -/
section
namespace Go.Proofs.Sz
open Go Go.Ax Go.Proofs Go.RowKit
theorem fn72 : TT.fn 72 = some Tryz.f72 := by kernel_rfl
theorem isNaN_call (S : St) (x : Int) : CallW PP 72 [.int .i64 x] S (fun v S' => v = .bool false ∧ S' = S) := by
  refine CallW_of hTT fn72 rfl (by simp [Tryz.f72]) ?_
  unfold Tryz.f72
  repeat (first | with_reducible (first | refine W_seq ?_ | refine W_block ?_ | refine W_scope ?_ | refine W_regionV hTT ?_ | refine W_condV ?_ | refine W_ret ?_ | refine W_exit ?_ | refine W_skip ?_ | refine W_label ?_ | refine W_drawV hTT (by kernel_rfl) ?_) | simp only [H0, J86, J87, und3, und4, und22, und26, und29, und45, und64, info3, info4, info22, info26, info29, info45, info64, info50, aggT, gv, dstAt, aop, evalsA, partsA, evalO, updO, ofArgs, binV, intBin, unV, mmV, builtinA, Nat.reduceLT, Nat.reduceEqDiff, Nat.reduceAdd, Nat.reduceSub, Nat.reduceMul, ↓reduceIte, reduceCtorEq, bne_self_eq_false])
theorem fn53 : TT.fn 53 = some Tryz.f53 := by kernel_rfl
def cmpI (a b : Int) : Int := if a < b then -1 else if b < a then 1 else 0
theorem cmp_call (S : St) (x y : Int) : CallW PP 53 [.int .i64 x, .int .i64 y] S (fun v S' => v = .int .i64 (cmpI x y) ∧ S' = S) := by
  refine CallW_of hTT fn53 rfl (by simp [Tryz.f53]) ?_
  unfold Tryz.f53
  repeat (first | with_reducible (first | refine W_seq ?_ | refine W_block ?_ | refine W_scope ?_ | refine W_regionV hTT ?_ | refine W_condV ?_ | refine W_ret ?_ | refine W_exit ?_ | refine W_skip ?_ | refine W_label ?_ | refine W_drawV hTT (by kernel_rfl) ?_) | simp only [H0, J86, J87, und3, und4, und22, und26, und29, und45, und64, info3, info4, info22, info26, info29, info45, info64, info50, aggT, gv, dstAt, aop, evalsA, partsA, evalO, updO, ofArgs, binV, intBin, unV, mmV, builtinA, Nat.reduceLT, Nat.reduceEqDiff, Nat.reduceAdd, Nat.reduceSub, Nat.reduceMul, ↓reduceIte, reduceCtorEq])
  refine VCall_intro (isNaN_call _ _) ?_
  rintro v S2 ⟨rfl, rfl⟩
  simp only [H0, J86, J87, und3, und4, und22, und26, und29, und45, und64, info3, info4, info22, info26, info29, info45, info64, info50, aggT, gv, dstAt, aop, evalsA, partsA, evalO, updO, ofArgs, binV, intBin, unV, mmV, builtinA, Nat.reduceLT, Nat.reduceEqDiff, Nat.reduceAdd, Nat.reduceSub, Nat.reduceMul, ↓reduceIte, reduceCtorEq]
  repeat (first | with_reducible (first | refine W_seq ?_ | refine W_block ?_ | refine W_scope ?_ | refine W_regionV hTT ?_ | refine W_condV ?_ | refine W_ret ?_ | refine W_exit ?_ | refine W_skip ?_ | refine W_label ?_ | refine W_drawV hTT (by kernel_rfl) ?_) | simp only [H0, J86, J87, und3, und4, und22, und26, und29, und45, und64, info3, info4, info22, info26, info29, info45, info64, info50, aggT, gv, dstAt, aop, evalsA, partsA, evalO, updO, ofArgs, binV, intBin, unV, mmV, builtinA, Nat.reduceLT, Nat.reduceEqDiff, Nat.reduceAdd, Nat.reduceSub, Nat.reduceMul, ↓reduceIte, reduceCtorEq])
  refine VCall_intro (isNaN_call _ _) ?_
  rintro v S2 ⟨rfl, rfl⟩
  simp only [H0, J86, J87, und3, und4, und22, und26, und29, und45, und64, info3, info4, info22, info26, info29, info45, info64, info50, aggT, gv, dstAt, aop, evalsA, partsA, evalO, updO, ofArgs, binV, intBin, unV, mmV, builtinA, Nat.reduceLT, Nat.reduceEqDiff, Nat.reduceAdd, Nat.reduceSub, Nat.reduceMul, ↓reduceIte, reduceCtorEq]
  repeat (first | with_reducible (first | refine W_seq ?_ | refine W_block ?_ | refine W_scope ?_ | refine W_regionV hTT ?_ | refine W_condV ?_ | refine W_ret ?_ | refine W_exit ?_ | refine W_skip ?_ | refine W_label ?_ | refine W_drawV hTT (by kernel_rfl) ?_) | simp only [H0, J86, J87, und3, und4, und22, und26, und29, und45, und64, info3, info4, info22, info26, info29, info45, info64, info50, aggT, gv, dstAt, aop, evalsA, partsA, evalO, updO, ofArgs, binV, intBin, unV, mmV, builtinA, Nat.reduceLT, Nat.reduceEqDiff, Nat.reduceAdd, Nat.reduceSub, Nat.reduceMul, ↓reduceIte, reduceCtorEq])
  refine VIf_split (fun h => ?_) (fun h => ?_)
  · repeat (first | with_reducible (first | refine W_seq ?_ | refine W_block ?_ | refine W_scope ?_ | refine W_regionV hTT ?_ | refine W_condV ?_ | refine W_ret ?_ | refine W_exit ?_ | refine W_skip ?_ | refine W_label ?_ | refine W_drawV hTT (by kernel_rfl) ?_) | simp only [H0, J86, J87, und3, und4, und22, und26, und29, und45, und64, info3, info4, info22, info26, info29, info45, info64, info50, aggT, gv, dstAt, aop, evalsA, partsA, evalO, updO, ofArgs, binV, intBin, unV, mmV, builtinA, Nat.reduceLT, Nat.reduceEqDiff, Nat.reduceAdd, Nat.reduceSub, Nat.reduceMul, ↓reduceIte, reduceCtorEq])
    simp [cmpI, of_decide_eq_true h]
  · repeat (first | with_reducible (first | refine W_seq ?_ | refine W_block ?_ | refine W_scope ?_ | refine W_regionV hTT ?_ | refine W_condV ?_ | refine W_ret ?_ | refine W_exit ?_ | refine W_skip ?_ | refine W_label ?_ | refine W_drawV hTT (by kernel_rfl) ?_) | simp only [H0, J86, J87, und3, und4, und22, und26, und29, und45, und64, info3, info4, info22, info26, info29, info45, info64, info50, aggT, gv, dstAt, aop, evalsA, partsA, evalO, updO, ofArgs, binV, intBin, unV, mmV, builtinA, Nat.reduceLT, Nat.reduceEqDiff, Nat.reduceAdd, Nat.reduceSub, Nat.reduceMul, ↓reduceIte, reduceCtorEq])
    have h1 := of_decide_eq_false h
    refine VIf_split (fun h2 => ?_) (fun h2 => ?_)
    · repeat (first | with_reducible (first | refine W_seq ?_ | refine W_block ?_ | refine W_scope ?_ | refine W_regionV hTT ?_ | refine W_condV ?_ | refine W_ret ?_ | refine W_exit ?_ | refine W_skip ?_ | refine W_label ?_ | refine W_drawV hTT (by kernel_rfl) ?_) | simp only [H0, J86, J87, und3, und4, und22, und26, und29, und45, und64, info3, info4, info22, info26, info29, info45, info64, info50, aggT, gv, dstAt, aop, evalsA, partsA, evalO, updO, ofArgs, binV, intBin, unV, mmV, builtinA, Nat.reduceLT, Nat.reduceEqDiff, Nat.reduceAdd, Nat.reduceSub, Nat.reduceMul, ↓reduceIte, reduceCtorEq])
      have h2 : y < x := of_decide_eq_true h2
      simp [cmpI, h1, h2]
    · repeat (first | with_reducible (first | refine W_seq ?_ | refine W_block ?_ | refine W_scope ?_ | refine W_regionV hTT ?_ | refine W_condV ?_ | refine W_ret ?_ | refine W_exit ?_ | refine W_skip ?_ | refine W_label ?_ | refine W_drawV hTT (by kernel_rfl) ?_) | simp only [H0, J86, J87, und3, und4, und22, und26, und29, und45, und64, info3, info4, info22, info26, info29, info45, info64, info50, aggT, gv, dstAt, aop, evalsA, partsA, evalO, updO, ofArgs, binV, intBin, unV, mmV, builtinA, Nat.reduceLT, Nat.reduceEqDiff, Nat.reduceAdd, Nat.reduceSub, Nat.reduceMul, ↓reduceIte, reduceCtorEq])
      have h2 : ¬ y < x := of_decide_eq_false h2
      simp [cmpI, h1, h2]
end Go.Proofs.Sz
end
/- part Wf -/
section
/- Regions that draw their order and make several calls, told by a function. -/
namespace Go.Ax
open Go.RowKit Go.Proofs
section
variable {P : Program} {T : Tab} {n : Nat} {ro : Option Nat} {τ : Nat → Value} {ds : List Nat} {S : St} {Q : Post}
/-- what calls come to, by a function -/
abbrev FT := FuncId → List Value → St → Option (Value × St)
def CallF (F : FT) : CS := fun c vs S Q => match c with
  | .f g => ∃ v S', F g vs S = some (v, S') ∧ Q v S'
  | .y _ => False
noncomputable def GF (F : FT) : Fns := { call := fun f a S => (F f a S).map fun r => [(r.1, some r.2)], code := fun _ _ _ _ _ => none }
theorem GF_ok {F : FT} (hF : ∀ f a S v S', F f a S = some (v, S') → CallIs P f a S [(v, some S')]) : OK P (GF F) := by
  refine ⟨?_, fun h => (by cases h)⟩
  intro f a S outs hx
  simp only [GF, Option.map_eq_some_iff] at hx
  obtain ⟨⟨v, S'⟩, h1, rfl⟩ := hx
  exact hF f a S v S' h1
noncomputable def drawStatF (n : Nat) (ops : Array Oper) : Bool :=
  statOk ops && Nat.ble (topOf ops) n && (again ops).all (fun q => q.2.isEmpty) && (news ops).isEmpty && ops.toList.all (fun o => (allocOf o.op).isNone)
theorem VCallF_intro {F : FT} {ops : Array Oper} {d : Option Tmp} {l : List Oper} {K : (Nat → Value) → St → Prop} {g : FuncId} {vs : List Value} {v : Value} {S' : St} (h : F g vs S = some (v, S')) (hk : VL (CallF F) P T n ops l (updO τ d v) S' K) : VCall (CallF F) P T n ops d l τ S K (.f g) vs := ⟨v, S', h, hk⟩
theorem canon_fn {F : FT} {ops : Array Oper} {hs : List (Option Nat)} (hhs : ∀ i, hs.getD i none = none) (hal : (ops.toList.all fun o => (allocOf o.op).isNone) = true) {K : (Nat → Value) → St → Prop} : ∀ (l : List Oper) (i : Nat) {τ : Nat → Value} {S : St}, VL (CallF F) P T n ops l τ S K → ops.toList.drop i = l →
    ∃ R τ' S', canon (GF F) P T hs ops i l (tl n τ) S = some (R, tl n τ', S') ∧ R.length = l.length ∧ entsOk ops i R = true ∧ K τ' S' := by
  intro l
  induction l with
  | nil => intro i τ S h _; exact ⟨[], τ, S, rfl, rfl, rfl, h⟩
  | cons o l ih =>
    intro i τ S h hd
    have ho : ops[i]? = some o := by
      have := congrArg (fun x => x[0]?) hd
      simpa using this
    have hl : ops.toList.drop (i + 1) = l := by
      have := congrArg List.tail hd
      simpa using this
    have hna : (allocOf o.op).isNone = true := List.all_eq_true.1 hal o (by
      have : o ∈ ops.toList.drop i := by rw [hd]; simp
      exact List.mem_of_mem_drop this)
    simp only [VL] at h
    split at h
    case isFalse hw =>
      obtain ⟨R, τ', S', g3, g4, g5, g6⟩ := ih (i + 1) h hl
      refine ⟨{ ts := tl n τ, S := S, v := undef, s := none } :: R, τ', S', ?_, by simp [g4], ?_, g6⟩
      · unfold canon
        rw [if_neg hw, tl_put, g3]
      · simp [entsOk, g5]
    case isTrue hw =>
      split at h
      case h_1 g vs hcal =>
        cases g with
        | y l9 => exact h.elim
        | f g =>
        obtain ⟨v, S1, h1, h2⟩ := h
        have hg : (GF F).call g vs S = some [(v, some S1)] := by simp only [GF, h1, Option.map_some]
        have hcv : isCallV o.op = true := calleeV_call hcal
        obtain ⟨R, τ', S', g3, g4, g5, g6⟩ := ih (i + 1) h2 hl
        refine ⟨{ ts := tl n τ, S := S, v := v, s := some S1 } :: R, τ', S', ?_, by simp [g4], ?_, g6⟩
        · unfold canon
          rw [if_pos hw]
          have hst : stepD (GF F) P T hs i (tl n τ) S o = some [(v, some S1)] := by
            unfold stepD
            rw [hhs i]
            exact (calleeV_step hcal).1.trans hg
          rw [hst]
          simp only [tl_put, Option.getD_some]
          rw [g3]
        · have hx : isX ops i = true := by
            unfold isX
            rw [ho]
            simp only [xop, hcv, Bool.true_or]
          simp [entsOk, hx, g5]
      case h_2 hcal =>
        split at h
        case h_2 => exact h.elim
        case h_1 v S1 ha =>
          have hco : isCallV o.op = false := by
            cases hh : isCallV o.op with
            | false => rfl
            | true =>
              exfalso
              unfold aop at ha
              generalize hop : o.op = op at ha hh
              cases op <;> simp [isCallV] at hh
              rename_i c
              obtain ⟨cal, args, at'⟩ := c
              cases cal <;> simp at hh ha
          obtain ⟨R, τ', S', g3, g4, g5, g6⟩ := ih (i + 1) h hl
          obtain ⟨s, q1, q2⟩ := step_of_aop ha
          refine ⟨{ ts := tl n τ, S := S, v := v, s := s } :: R, τ', S', ?_, by simp [g4], ?_, g6⟩
          · unfold canon
            rw [if_pos hw]
            have hst : stepD (GF F) P T hs i (tl n τ) S o = some [(v, s)] := by
              unfold stepD
              rw [hhs i]
              simp only
              rw [stepOp_G0 hco]
              exact q1
            rw [hst]
            simp only [tl_put, q2]
            rw [g3]
          · have hx : s.isNone = true ∨ isX ops i = true := by
              by_cases he : eff o.op = true
              · right
                unfold isX
                rw [ho]
                simp only [xop, he, hna, Bool.and_self, Bool.or_true]
              · left
                unfold stepOp at q1
                split at q1
                · rename_i f args at' hop; rw [hop] at hco; simp [isCallV] at hco
                · rw [if_neg he] at q1
                  rw [Option.map_eq_some_iff] at q1
                  obtain ⟨l0, _, hl0⟩ := q1
                  cases l0 with
                  | nil => simp at hl0
                  | cons a l0 => simp only [List.map_cons, List.cons.injEq, Prod.mk.injEq] at hl0; rw [← hl0.1.2]; rfl
            simp only [entsOk, g5, Bool.and_true, Bool.or_eq_true]
            exact hx
theorem W_drawF (hT : TabOK P T) {F : FT} (hF : ∀ f a S v S', F f a S = some (v, S') → CallIs P f a S [(v, some S')]) {id : Nat} {ops : Array Oper} (hst : drawStatF n ops = true) (h : VL (CallF F) P T n ops ops.toList τ S (KN Q ds)) : W P n ro (.region id ops true) τ ds S Q := by
  unfold drawStatF at hst
  simp only [Bool.and_eq_true] at hst
  obtain ⟨⟨⟨⟨s1, s2⟩, s3⟩, s4⟩, s5⟩ := hst
  obtain ⟨R, τ', S', g3, g4, g5, g6⟩ := canon_fn (hs := ops.toList.map fun _ => none) (getD_none _) s5 ops.toList 0 h rfl
  refine ⟨.normal, τ', ds, S', ?_, g6⟩
  have hchk : drawChk (GF F) P T (ops.toList.map fun _ => none) ops (tl n τ) R S' = true := by
    unfold drawChk
    rw [s1, g5, List.isEmpty_iff.1 s4]
    have hlen : topOf ops ≤ (tl n τ).length := by rw [tl_length]; exact Nat.le_of_ble_eq_true s2
    simp only [hlen, decide_true, Bool.true_and, List.all_nil, Bool.and_true, List.all_eq_true]
    intro q hq
    have hqe : q.2 = [] := List.isEmpty_iff.1 (List.all_eq_true.1 s3 q hq)
    have hqi : ∃ o, ops[q.1]? = some o := by
      unfold again at hq
      rw [List.mem_filterMap] at hq
      obtain ⟨i, hi, h2⟩ := hq
      split at h2
      · rename_i o ho
        split at h2
        · cases h2
        · cases h2; exact ⟨o, ho⟩
      · cases h2
    obtain ⟨o, ho⟩ := hqi
    have hqs : q.1 < R.length := by
      rw [g4]
      rcases Nat.lt_or_ge q.1 ops.size with h | h
      · simpa using h
      · rw [Array.getElem?_eq_none h] at ho; cases ho
    rw [ho, List.getElem?_eq_getElem hqs, hqe]
    simp
  have hdraw : drawA (GF F) P T ops (tl n τ) S = some [(tl n τ', S')] := by
    unfold drawA
    rw [pre_none _ _ s5]
    simp only [g3, hchk, if_true]
  intro w0 E w a ro' m R' hro hS ht hd hQ
  refine drawA_ok hT (GF_ok hF) hdraw hS ht ?_
  intro r hr E' a' w' hE hS' ht' hd' hk hz
  rw [List.mem_singleton] at hr
  subst hr
  exact hQ E' a' w' hE hS' ht' (by rw [hd']; exact hd.mono hE) hk hz

/-! ## calls that leave the store as it was: what is read between them is the same in every order -/
noncomputable def drawStatS (n : Nat) (ops : Array Oper) : Bool :=
  statOk ops && Nat.ble (topOf ops) n && (news ops).isEmpty && ops.toList.all (fun o => (allocOf o.op).isNone) && ops.toList.all (fun o => isCallV o.op || !eff o.op)
theorem stepD_same {F : FT} (hFS : ∀ f a S v S', F f a S = some (v, S') → S' = S) {hs : List (Option Nat)} (hhs : ∀ i, hs.getD i none = none) {i : Nat} {ts : List Value} {S : St} {o : Oper} (ho : (isCallV o.op || !eff o.op) = true) {v : Value} {s : Option St} (h : stepD (GF F) P T hs i ts S o = some [(v, s)]) : s.getD S = S := by
  unfold stepD at h
  rw [hhs i] at h
  simp only at h
  unfold stepOp at h
  split at h
  · split at h
    · simp only [GF, Option.map_eq_some_iff] at h
      obtain ⟨⟨v', S'⟩, h1, h2⟩ := h
      simp only [List.cons.injEq, Prod.mk.injEq, and_true] at h2
      rw [← h2.2]
      exact hFS _ _ _ _ _ h1
    · unfold yieldA at h
      split at h
      · split at h
        · simp only [GF, bindL] at h; cases h
        · cases h
      · cases h
    · cases h
  · rename_i hop
    have he : eff o.op = false := by
      cases hh : eff o.op with
      | false => rfl
      | true =>
        rw [hh, Bool.not_true, Bool.or_false] at ho
        exfalso
        generalize o.op = op at ho hh
        cases op <;> simp [isCallV] at ho
        rename_i c
        obtain ⟨cal, args, at'⟩ := c
        cases cal <;> simp [eff] at ho hh
    rw [if_neg (by rw [he]; simp), Option.map_eq_some_iff] at h
    obtain ⟨l0, _, hl0⟩ := h
    cases l0 with
    | nil => simp at hl0
    | cons a l0 => simp only [List.map_cons, List.cons.injEq, Prod.mk.injEq] at hl0; rw [← hl0.1.2]; rfl
theorem W_drawS (hT : TabOK P T) {F : FT} (hF : ∀ f a S v S', F f a S = some (v, S') → CallIs P f a S [(v, some S')]) (hFS : ∀ f a S v S', F f a S = some (v, S') → S' = S) {id : Nat} {ops : Array Oper} (hst : drawStatS n ops = true) (h : VL (CallF F) P T n ops ops.toList τ S (KN Q ds)) : W P n ro (.region id ops true) τ ds S Q := by
  unfold drawStatS at hst
  simp only [Bool.and_eq_true] at hst
  obtain ⟨⟨⟨⟨s1, s2⟩, s4⟩, s5⟩, s6⟩ := hst
  obtain ⟨R, τ', S', g3, g4, g5, g6⟩ := canon_fn (hs := ops.toList.map fun _ => none) (getD_none _) s5 ops.toList 0 h rfl
  refine ⟨.normal, τ', ds, S', ?_, g6⟩
  obtain ⟨c1, c2, c3, c4⟩ := canon_spec g3
  have hSat : ∀ k, SAt R S' k = S := by
    have hin : ∀ k, k ≤ ops.toList.length → SAt R S' k = S := by
      intro k
      induction k with
      | zero => intro _; exact c3
      | succ k ih =>
        intro hk
        have hk' : k < ops.toList.length := by omega
        obtain ⟨e, e1, e2, e3, e4, e5⟩ := c4 k ops.toList[k] (List.getElem?_eq_getElem hk')
        have hs := ih (by omega)
        rw [SAt_of e1] at hs
        rw [e5]
        cases hw : Region.wanted ops.toList[k] (yieldedA ops e.ts) with
        | true => rw [stepD_same hFS (getD_none _) (List.all_eq_true.1 s6 _ (List.getElem_mem hk')) (e2 hw), hs]
        | false => rw [(e3 hw).2]; exact hs
    intro k
    rcases Nat.lt_or_ge k R.length with hk | hk
    · exact hin k (by omega)
    · have h1 : SAt R S' k = S' := by unfold SAt; rw [List.getElem?_eq_none hk]
      have h2 : SAt R S' R.length = S' := by unfold SAt; rw [List.getElem?_eq_none (Nat.le_refl _)]
      rw [h1, ← h2]
      exact hin _ (by omega)
  have hchk : DrawP (GF F) P T (ops.toList.map fun _ => none) ops (tl n τ) R S' := by
    refine ⟨s1, by rw [tl_length]; exact Nat.le_of_ble_eq_true s2, g5, ?_, by rw [List.isEmpty_iff.1 s4]; rfl⟩
    intro i ks hin o e ho he hw k _
    have hx : isX ops i = false := by
      unfold again at hin
      rw [List.mem_filterMap] at hin
      obtain ⟨j, hj, h2⟩ := hin
      split at h2
      · rename_i o' ho'
        split at h2
        · cases h2
        · rename_i hn
          cases h2
          unfold isX
          rw [ho']
          simp only [Bool.or_eq_true, not_or, Bool.not_eq_true] at hn
          exact hn.1.1
      · cases h2
    obtain ⟨e', e1, e2, _⟩ := c4 i o (by simpa using ho)
    rw [he] at e1
    cases e1
    have hes := entsOk_ok g5 he (by rw [Nat.zero_add]; exact hx)
    have := e2 hw
    rw [hes, Nat.zero_add] at this
    rw [hSat k, ← hSat i, SAt_of he]
    exact this
  intro w0 E w a ro' m R' hro hS ht hd hQ
  refine drawP_ok hT (GF_ok hF) (pre_none _ _ s5) g3 hchk hS ht ?_
  intro E' a' w' hE hS' ht' hd' hk hz
  exact hQ E' a' w' hE hS' ht' (by rw [hd']; exact hd.mono hE) hk hz
end
end Go.Ax
end
/- part Zd -/
section
namespace Go.Proofs.Sz
open Go Go.Ax Go.Proofs Go.RowKit
open Classical in
/-- calls that give a number and leave the store as it was -/
noncomputable def Fint : FT := fun f a S => if h : ∃ x : Int, CallIs PP f a S [(.int .i64 x, some S)] then some (.int .i64 (Classical.choose h), S) else none
theorem Fint_ok (f : FuncId) (a : List Value) (S : St) (v : Value) (S' : St) (h : Fint f a S = some (v, S')) : CallIs PP f a S [(v, some S')] := by
  unfold Fint at h
  split at h
  · rename_i hx
    cases h
    exact Classical.choose_spec hx
  · cases h
theorem Fint_some {f : FuncId} {a : List Value} {S : St} (h : CallW PP f a S (fun v S' => (∃ r, v = .int .i64 r) ∧ S' = S)) : ∃ y, Fint f a S = some (.int .i64 y, S) := by
  obtain ⟨v, S', h1, ⟨r, rfl⟩, rfl⟩ := h
  unfold Fint
  rw [dif_pos ⟨r, h1⟩]
  exact ⟨_, rfl⟩
theorem Fint_same (f : FuncId) (a : List Value) (S : St) (v : Value) (S' : St) (h : Fint f a S = some (v, S')) : S' = S := by
  unfold Fint at h
  split at h
  · cases h; rfl
  · cases h
theorem und50 : TT.und 50 = some (.func #[3] #[3] false) := by kernel_rfl
theorem fn52 : TT.fn 52 = some Tryz.f52 := by kernel_rfl
/-- sorted's closure: some number -/
theorem by_call {S : St} {bf : Nat} {g : FuncId} {cs : List Value} (hf : S.get bf = some (.cells [.func (.func g) #[] cs.toArray] 50 0)) {x y : Int}
    (hx : CallW PP g ([.int .i64 x] ++ cs) S (fun v S' => (∃ r, v = .int .i64 r) ∧ S' = S)) (hy : CallW PP g ([.int .i64 y] ++ cs) S (fun v S' => (∃ r, v = .int .i64 r) ∧ S' = S)) :
    CallW PP 52 [.int .i64 x, .int .i64 y, .pointer (some ⟨bf, 0, none⟩)] S (fun v S' => (∃ r, v = .int .i64 r) ∧ S' = S) := by
  have r1 := load_one (o := 0) und50 info50 rfl hf
  simp only [List.getElem?_cons_zero] at r1
  obtain ⟨a, ha⟩ := Fint_some hx
  obtain ⟨b, hb⟩ := Fint_some hy
  obtain ⟨c, hc⟩ := Fint_some (S := S) ((cmp_call S a b).mono fun v S' h => ⟨⟨_, h.1⟩, h.2⟩)
  refine CallW_of hTT fn52 rfl (by simp [Tryz.f52]) ?_
  unfold Tryz.f52
  with_reducible refine W_seq ?_
  with_reducible refine W_regionV hTT ?_
  simp only [H0, J86, J87, und3, und4, und22, und26, und29, und45, und64, info3, info4, info22, info26, info29, info45, info64, info50, und50, aggT, gv, dstAt, aop, evalsA, partsA, evalO, updO, ofArgs, binV, intBin, unV, mmV, builtinA, Nat.reduceLT, Nat.reduceEqDiff, Nat.reduceAdd, Nat.reduceSub, Nat.reduceMul, ↓reduceIte, reduceCtorEq]
  with_reducible refine W_seq ?_
  with_reducible refine W_drawS hTT Fint_ok Fint_same (by kernel_rfl) ?_
  simp only [H0, J86, J87, und3, und4, und22, und26, und29, und45, und64, info3, info4, info22, info26, info29, info45, info64, info50, und50, aggT, gv, dstAt, aop, evalsA, partsA, evalO, updO, ofArgs, binV, intBin, unV, mmV, builtinA, Nat.reduceLT, Nat.reduceEqDiff, Nat.reduceAdd, Nat.reduceSub, Nat.reduceMul, ↓reduceIte, reduceCtorEq, r1]
  refine VCallF_intro ha ?_
  simp only [H0, J86, J87, und3, und4, und22, und26, und29, und45, und64, info3, info4, info22, info26, info29, info45, info64, info50, und50, aggT, gv, dstAt, aop, evalsA, partsA, evalO, updO, ofArgs, binV, intBin, unV, mmV, builtinA, Nat.reduceLT, Nat.reduceEqDiff, Nat.reduceAdd, Nat.reduceSub, Nat.reduceMul, ↓reduceIte, reduceCtorEq, r1]
  refine VCallF_intro hb ?_
  simp only [H0, J86, J87, und3, und4, und22, und26, und29, und45, und64, info3, info4, info22, info26, info29, info45, info64, info50, und50, aggT, gv, dstAt, aop, evalsA, partsA, evalO, updO, ofArgs, binV, intBin, unV, mmV, builtinA, Nat.reduceLT, Nat.reduceEqDiff, Nat.reduceAdd, Nat.reduceSub, Nat.reduceMul, ↓reduceIte, reduceCtorEq, r1]
  refine VCallF_intro hc ?_
  repeat (first | with_reducible (first | refine W_seq ?_ | refine W_block ?_ | refine W_scope ?_ | refine W_regionV hTT ?_ | refine W_condV ?_ | refine W_ret ?_ | refine W_exit ?_ | refine W_skip ?_ | refine W_label ?_ | refine W_drawV hTT (by kernel_rfl) ?_) | simp only [H0, J86, J87, und3, und4, und22, und26, und29, und45, und64, info3, info4, info22, info26, info29, info45, info64, info50, und50, aggT, gv, dstAt, aop, evalsA, partsA, evalO, updO, ofArgs, binV, intBin, unV, mmV, builtinA, Nat.reduceLT, Nat.reduceEqDiff, Nat.reduceAdd, Nat.reduceSub, Nat.reduceMul, ↓reduceIte, reduceCtorEq])
  exact ⟨_, rfl⟩
end Go.Proofs.Sz
end
/- part Zm -/
section
namespace Go.Proofs.Sz
open Go Go.Ax Go.Proofs Go.RowKit
theorem fn6 : TT.fn 6 = some Tryz.f6 := by kernel_rfl
/-- mod -/
theorem mod_call (S : St) (x : Int) {n : Nat} (h1 : 0 < n) (h2 : n < 1000) :
    CallW PP 6 [.int .i64 x, .int .i64 n] S (fun v S' => (∃ r : Nat, r < n ∧ v = .int .i64 r) ∧ S' = S) := by
  refine CallW_of hTT fn6 rfl (by simp [Tryz.f6]) ?_
  unfold Tryz.f6
  have hu : IntKind.u64.wrap (n : Int) = n := IntWalk.u64_in _ (by omega)
  have hz : ((n : Int) = 0) = False := by simp; omega
  have hx0 : 0 ≤ IntKind.u64.wrap x := by rw [IntKind.wrap_u64]; omega
  repeat (first | with_reducible (first | refine W_seq ?_ | refine W_block ?_ | refine W_scope ?_ | refine W_regionV hTT ?_ | refine W_condV ?_ | refine W_ret ?_ | refine W_exit ?_ | refine W_skip ?_ | refine W_label ?_ | refine W_drawV hTT (by kernel_rfl) ?_) | simp only [H0, J86, J87, und3, und4, und22, und26, und29, und45, und64, info3, info4, info22, info26, info29, info45, info64, info50, aggT, gv, dstAt, aop, evalsA, partsA, evalO, updO, ofArgs, binV, intBin, unV, mmV, builtinA, Nat.reduceLT, Nat.reduceEqDiff, Nat.reduceAdd, Nat.reduceSub, Nat.reduceMul, ↓reduceIte, reduceCtorEq, convA, hu, hz, if_false])
  have h3 := Int.tmod_lt_of_pos (IntKind.u64.wrap x) (b := n) (by omega)
  have h4 : 0 ≤ (IntKind.u64.wrap x).tmod n := Int.tmod_nonneg _ hx0
  refine ⟨((IntKind.u64.wrap x).tmod n).toNat, by omega, ?_⟩
  rw [wrap_id (by omega) (by omega)]
  congr 1
  omega
theorem fn24 : TT.fn 24 = some Tryz.f24 := by kernel_rfl
/-- the reference's total: no sum wraps -/
theorem total_call {S : St} {va : Value} {xs : List Int} (ha : Sl S 1 va (iv xs) xs.length) (hl : xs.length < 1000) (hb : ∀ x ∈ xs, 0 ≤ x ∧ x < 1000) :
    CallW PP 24 [va] S (fun v S' => v = .int .i64 xs.sum ∧ S' = S) := by
  have hla := ha.len (T := TT) und26
  refine CallW_of hTT fn24 rfl (by simp [Tryz.f24]) ?_
  unfold Tryz.f24
  repeat (first | with_reducible (first | refine W_seq ?_ | refine W_block ?_ | refine W_scope ?_ | refine W_regionV hTT ?_ | refine W_condV ?_ | refine W_ret ?_ | refine W_exit ?_ | refine W_skip ?_ | refine W_label ?_ | refine W_drawV hTT (by kernel_rfl) ?_) | simp only [H0, J86, J87, und3, und4, und22, und26, und29, und45, und64, info3, info4, info22, info26, info29, info45, info64, info50, aggT, gv, dstAt, aop, evalsA, partsA, evalO, updO, ofArgs, binV, intBin, unV, mmV, builtinA, Nat.reduceLT, Nat.reduceEqDiff, Nat.reduceAdd, Nat.reduceSub, Nat.reduceMul, ↓reduceIte, reduceCtorEq])
  refine W_loopI (fun m τ ds S' => S' = S ∧ ds = [] ∧ ∃ k : Nat, m = xs.length - k ∧ k ≤ xs.length ∧ τ 0 = va ∧ τ 3 = .int .i64 (xs.take k).sum ∧ τ 4 = .int .i64 k ∧ 0 ≤ (xs.take k).sum ∧ (xs.take k).sum ≤ 1000 * k) xs.length ?_ ?_
  · refine ⟨rfl, rfl, 0, by simp, by simp, ?_, ?_, ?_, by simp⟩ <;> first | rfl | simp only [H0, J86, J87, und3, und4, und22, und26, und29, und45, und64, info3, info4, info22, info26, info29, info45, info64, info50, aggT, gv, dstAt, aop, evalsA, partsA, evalO, updO, ofArgs, binV, intBin, unV, mmV, builtinA, Nat.reduceLT, Nat.reduceEqDiff, Nat.reduceAdd, Nat.reduceSub, Nat.reduceMul, ↓reduceIte, reduceCtorEq]
  · rintro m τ ds S' ⟨rfl, rfl, k, rfl, hk, t0, t3, t4, hs0, hs1⟩
    by_cases hlt : k < xs.length
    · have e1 : decide ((k : Int) < xs.length) = true := by simpa using hlt
      obtain ⟨q, p1, p2, _⟩ := ha.at1 (T := TT) (k := .i64) und26 info3 und3 rfl rfl hlt
      rw [iv_get, List.getElem?_eq_getElem hlt] at p2
      have hx := hb xs[k] (List.getElem_mem hlt)
      have hw := wrap_succ (k := k) (by omega)
      have hs : (xs.take (k + 1)).sum = (xs.take k).sum + xs[k] := by rw [List.take_succ_eq_append_getElem hlt]; simp only [List.sum_append, List.sum_cons, List.sum_nil, Int.add_zero]
      have hw2 : IntKind.i64.wrap ((xs.take k).sum + xs[k]) = (xs.take (k + 1)).sum := by rw [hs]; exact wrap_id (by omega) (by omega)
      repeat (first | with_reducible (first | refine W_seq ?_ | refine W_block ?_ | refine W_scope ?_ | refine W_regionV hTT ?_ | refine W_condV ?_ | refine W_ret ?_ | refine W_exit ?_ | refine W_skip ?_ | refine W_label ?_ | refine W_drawV hTT (by kernel_rfl) ?_) | simp only [H0, J86, J87, und3, und4, und22, und26, und29, und45, und64, info3, info4, info22, info26, info29, info45, info64, info50, aggT, gv, dstAt, aop, evalsA, partsA, evalO, updO, ofArgs, binV, intBin, unV, mmV, builtinA, Nat.reduceLT, Nat.reduceEqDiff, Nat.reduceAdd, Nat.reduceSub, Nat.reduceMul, ↓reduceIte, reduceCtorEq, hla, t0, t3, t4, e1, p1, p2, hw, hw2])
      refine LoopQ_intro (xs.length - (k + 1)) (by omega) ⟨rfl, rfl, k + 1, rfl, by omega, by simp only [H0, J86, J87, und3, und4, und22, und26, und29, und45, und64, info3, info4, info22, info26, info29, info45, info64, info50, aggT, gv, dstAt, aop, evalsA, partsA, evalO, updO, ofArgs, binV, intBin, unV, mmV, builtinA, Nat.reduceLT, Nat.reduceEqDiff, Nat.reduceAdd, Nat.reduceSub, Nat.reduceMul, ↓reduceIte, reduceCtorEq, t0], by simp only [H0, J86, J87, und3, und4, und22, und26, und29, und45, und64, info3, info4, info22, info26, info29, info45, info64, info50, aggT, gv, dstAt, aop, evalsA, partsA, evalO, updO, ofArgs, binV, intBin, unV, mmV, builtinA, Nat.reduceLT, Nat.reduceEqDiff, Nat.reduceAdd, Nat.reduceSub, Nat.reduceMul, ↓reduceIte, reduceCtorEq, t3, hw2], by simp only [H0, J86, J87, und3, und4, und22, und26, und29, und45, und64, info3, info4, info22, info26, info29, info45, info64, info50, aggT, gv, dstAt, aop, evalsA, partsA, evalO, updO, ofArgs, binV, intBin, unV, mmV, builtinA, Nat.reduceLT, Nat.reduceEqDiff, Nat.reduceAdd, Nat.reduceSub, Nat.reduceMul, ↓reduceIte, reduceCtorEq, t4], by omega, ?_⟩
      rw [hs]; omega
    · have e1 : decide ((k : Int) < xs.length) = false := by simpa using hlt
      have hkk : k = xs.length := by omega
      subst hkk
      rw [List.take_length] at t3
      repeat (first | with_reducible (first | refine W_seq ?_ | refine W_block ?_ | refine W_scope ?_ | refine W_regionV hTT ?_ | refine W_condV ?_ | refine W_ret ?_ | refine W_exit ?_ | refine W_skip ?_ | refine W_label ?_ | refine W_drawV hTT (by kernel_rfl) ?_) | simp only [H0, J86, J87, und3, und4, und22, und26, und29, und45, und64, info3, info4, info22, info26, info29, info45, info64, info50, aggT, gv, dstAt, aop, evalsA, partsA, evalO, updO, ofArgs, binV, intBin, unV, mmV, builtinA, Nat.reduceLT, Nat.reduceEqDiff, Nat.reduceAdd, Nat.reduceSub, Nat.reduceMul, ↓reduceIte, reduceCtorEq, hla, t0, t3, t4, e1])
theorem fn26 : TT.fn 26 = some Tryz.f26 := by kernel_rfl
/-- sum: a number -/
theorem sum_call {S : St} {va : Value} {xs : List Int} (ha : Sl S 1 va (iv xs) xs.length) (hl : xs.length < 1000) :
    CallW PP 26 [va] S (fun v S' => (∃ r, v = .int .i64 r) ∧ S' = S) := by
  have hla := ha.len (T := TT) und26
  refine CallW_of hTT fn26 rfl (by simp [Tryz.f26]) ?_
  unfold Tryz.f26
  repeat (first | with_reducible (first | refine W_seq ?_ | refine W_block ?_ | refine W_scope ?_ | refine W_regionV hTT ?_ | refine W_condV ?_ | refine W_ret ?_ | refine W_exit ?_ | refine W_skip ?_ | refine W_label ?_ | refine W_drawV hTT (by kernel_rfl) ?_) | simp only [H0, J86, J87, und3, und4, und22, und26, und29, und45, und64, info3, info4, info22, info26, info29, info45, info64, info50, aggT, gv, dstAt, aop, evalsA, partsA, evalO, updO, ofArgs, binV, intBin, unV, mmV, builtinA, Nat.reduceLT, Nat.reduceEqDiff, Nat.reduceAdd, Nat.reduceSub, Nat.reduceMul, ↓reduceIte, reduceCtorEq, hla])
  refine W_loopI (fun m τ ds S' => S' = S ∧ ds = [] ∧ ∃ (k : Nat) (r : Int), m = xs.length - k ∧ k ≤ xs.length ∧ τ 6 = va ∧ τ 3 = .int .i64 r ∧ τ 7 = .int .i64 xs.length ∧ τ 8 = .int .i64 k) xs.length ?_ ?_
  · refine ⟨rfl, rfl, 0, 0, by simp, by simp, ?_, ?_, ?_, ?_⟩ <;> first | rfl | simp only [H0, J86, J87, und3, und4, und22, und26, und29, und45, und64, info3, info4, info22, info26, info29, info45, info64, info50, aggT, gv, dstAt, aop, evalsA, partsA, evalO, updO, ofArgs, binV, intBin, unV, mmV, builtinA, Nat.reduceLT, Nat.reduceEqDiff, Nat.reduceAdd, Nat.reduceSub, Nat.reduceMul, ↓reduceIte, reduceCtorEq]
  · rintro m τ ds S' ⟨rfl, rfl, k, r, rfl, hk, t6, t3, t7, t8⟩
    by_cases hlt : k < xs.length
    · have e1 : decide ((k : Int) < xs.length) = true := by simpa using hlt
      obtain ⟨q, p1, p2, _⟩ := ha.at1 (T := TT) (k := .i64) und26 info3 und3 rfl rfl hlt
      rw [iv_get, List.getElem?_eq_getElem hlt] at p2
      have hw := wrap_succ (k := k) (by omega)
      repeat (first | with_reducible (first | refine W_seq ?_ | refine W_block ?_ | refine W_scope ?_ | refine W_regionV hTT ?_ | refine W_condV ?_ | refine W_ret ?_ | refine W_exit ?_ | refine W_skip ?_ | refine W_label ?_ | refine W_drawV hTT (by kernel_rfl) ?_) | simp only [H0, J86, J87, und3, und4, und22, und26, und29, und45, und64, info3, info4, info22, info26, info29, info45, info64, info50, aggT, gv, dstAt, aop, evalsA, partsA, evalO, updO, ofArgs, binV, intBin, unV, mmV, builtinA, Nat.reduceLT, Nat.reduceEqDiff, Nat.reduceAdd, Nat.reduceSub, Nat.reduceMul, ↓reduceIte, reduceCtorEq, hla, t6, t3, t7, t8, e1, p1, p2, hw])
      refine LoopQ_intro (xs.length - (k + 1)) (by omega) ⟨rfl, rfl, k + 1, IntKind.i64.wrap (r + xs[k]), rfl, by omega, by simp only [H0, J86, J87, und3, und4, und22, und26, und29, und45, und64, info3, info4, info22, info26, info29, info45, info64, info50, aggT, gv, dstAt, aop, evalsA, partsA, evalO, updO, ofArgs, binV, intBin, unV, mmV, builtinA, Nat.reduceLT, Nat.reduceEqDiff, Nat.reduceAdd, Nat.reduceSub, Nat.reduceMul, ↓reduceIte, reduceCtorEq, t6], by simp only [H0, J86, J87, und3, und4, und22, und26, und29, und45, und64, info3, info4, info22, info26, info29, info45, info64, info50, aggT, gv, dstAt, aop, evalsA, partsA, evalO, updO, ofArgs, binV, intBin, unV, mmV, builtinA, Nat.reduceLT, Nat.reduceEqDiff, Nat.reduceAdd, Nat.reduceSub, Nat.reduceMul, ↓reduceIte, reduceCtorEq, t3], by simp only [H0, J86, J87, und3, und4, und22, und26, und29, und45, und64, info3, info4, info22, info26, info29, info45, info64, info50, aggT, gv, dstAt, aop, evalsA, partsA, evalO, updO, ofArgs, binV, intBin, unV, mmV, builtinA, Nat.reduceLT, Nat.reduceEqDiff, Nat.reduceAdd, Nat.reduceSub, Nat.reduceMul, ↓reduceIte, reduceCtorEq, t7], by simp only [H0, J86, J87, und3, und4, und22, und26, und29, und45, und64, info3, info4, info22, info26, info29, info45, info64, info50, aggT, gv, dstAt, aop, evalsA, partsA, evalO, updO, ofArgs, binV, intBin, unV, mmV, builtinA, Nat.reduceLT, Nat.reduceEqDiff, Nat.reduceAdd, Nat.reduceSub, Nat.reduceMul, ↓reduceIte, reduceCtorEq, t8]⟩
    · have e1 : decide ((k : Int) < xs.length) = false := by simpa using hlt
      repeat (first | with_reducible (first | refine W_seq ?_ | refine W_block ?_ | refine W_scope ?_ | refine W_regionV hTT ?_ | refine W_condV ?_ | refine W_ret ?_ | refine W_exit ?_ | refine W_skip ?_ | refine W_label ?_ | refine W_drawV hTT (by kernel_rfl) ?_) | simp only [H0, J86, J87, und3, und4, und22, und26, und29, und45, und64, info3, info4, info22, info26, info29, info45, info64, info50, aggT, gv, dstAt, aop, evalsA, partsA, evalO, updO, ofArgs, binV, intBin, unV, mmV, builtinA, Nat.reduceLT, Nat.reduceEqDiff, Nat.reduceAdd, Nat.reduceSub, Nat.reduceMul, ↓reduceIte, reduceCtorEq, hla, t6, t3, t7, t8, e1])
      exact ⟨_, rfl⟩
end Go.Proofs.Sz
end
/- part Zt -/
section
namespace Go.Proofs.Sz
open Go Go.Ax Go.Proofs Go.RowKit
theorem fn8 : TT.fn 8 = some Tryz.f8 := by kernel_rfl
/-- table -/
theorem table_call {S : St} (hok : S.ok) {vl : Value} {rows : List (List Int)} (hx : Mat S vl rows) (hl : rows.length < 31) (hr : ∀ r ∈ rows, r.length < 31) :
    CallW PP 8 [vl] S (fun v S' => (∃ cs, Mine S' 26 1 S.n v cs rows.length) ∧ Mat S' v rows ∧ Ext S S') := by
  refine CallW_of hTT fn8 rfl (by simp [Tryz.f8]) ?_
  unfold Tryz.f8
  repeat (first | with_reducible (first | refine W_seq ?_ | refine W_block ?_ | refine W_scope ?_ | refine W_regionV hTT ?_ | refine W_condV ?_ | refine W_ret ?_ | refine W_exit ?_ | refine W_skip ?_ | refine W_label ?_ | refine W_drawV hTT (by kernel_rfl) ?_) | simp only [H0, J86, J87, und3, und4, und22, und26, und29, und45, und64, info3, info4, info22, info26, info29, info45, info64, info50, aggT, gv, dstAt, aop, evalsA, partsA, evalO, updO, ofArgs, binV, intBin, unV, mmV, builtinA, Nat.reduceLT, Nat.reduceEqDiff, Nat.reduceAdd, Nat.reduceSub, Nat.reduceMul, ↓reduceIte, reduceCtorEq])
  refine W_loopI (fun m τ ds S' => Ext S S' ∧ ds = [] ∧ ∃ (k : Nat) (v3 : Value) (cs : List Value), m = rows.length - k ∧ k ≤ rows.length ∧ τ 0 = vl ∧ τ 3 = v3 ∧ τ 4 = .int .i64 k ∧ Mine S' 26 1 S.n v3 cs k ∧ ∀ i (h : i < rows.length), i < k → ∃ rv, cs[i]? = some rv ∧ Mine S' 3 1 S.n rv (iv rows[i]) rows[i].length) rows.length ?_ ?_
  · refine ⟨Ext.refl hok, rfl, 0, .slice none 0 0, [], by simp, by simp, ?_, ?_, ?_, Mine.nil _ _ _ _, by simp⟩ <;> first | rfl | simp only [H0, J86, J87, und3, und4, und22, und26, und29, und45, und64, info3, info4, info22, info26, info29, info45, info64, info50, aggT, gv, dstAt, aop, evalsA, partsA, evalO, updO, ofArgs, binV, intBin, unV, mmV, builtinA, Nat.reduceLT, Nat.reduceEqDiff, Nat.reduceAdd, Nat.reduceSub, Nat.reduceMul, ↓reduceIte, reduceCtorEq]
  · rintro m τ ds S' ⟨hE, rfl, k, v3, cs, rfl, hk, t0, t3, t4, hM, hcs⟩
    have hx' := hx.extd hE
    have hla := hx'.len (T := TT) und22
    by_cases hlt : k < rows.length
    · have e1 : decide ((k : Int) < rows.length) = true := by simpa using hlt
      have e2 : decide ((k : Int) ≤ 30) = true := by simp; omega
      obtain ⟨p, rv, p1, p2, hrow, hpl⟩ := hx'.row (T := TT) (k := .i64) und22 info26 und26 rfl hlt
      have hrl : rows[k].length < 31 := hr _ (List.getElem_mem hlt)
      have hw := wrap_succ (k := k) (by omega)
      repeat (first | with_reducible (first | refine W_seq ?_ | refine W_block ?_ | refine W_scope ?_ | refine W_regionV hTT ?_ | refine W_condV ?_ | refine W_ret ?_ | refine W_exit ?_ | refine W_skip ?_ | refine W_label ?_ | refine W_drawV hTT (by kernel_rfl) ?_) | simp only [H0, J86, J87, und3, und4, und22, und26, und29, und45, und64, info3, info4, info22, info26, info29, info45, info64, info50, aggT, gv, dstAt, aop, evalsA, partsA, evalO, updO, ofArgs, binV, intBin, unV, mmV, builtinA, Nat.reduceLT, Nat.reduceEqDiff, Nat.reduceAdd, Nat.reduceSub, Nat.reduceMul, ↓reduceIte, reduceCtorEq, hla, t0, t3, t4, e1, e2, p1, p2, hw])
      refine VCall_intro (list_call hE.ok hrow hpl) ?_
      rintro c S1 ⟨hc, hE1⟩
      rw [List.take_of_length_le (by omega)] at hc
      have hM1 : Mine S1 26 1 S.n v3 cs k := hM.same fun b hb => hE1.same b (hM.base hb).2
      have hcp := hc.plain.cells
      have b1 := bs_one (T := TT) (S := S1) (x := c) und22 info26 rfl rfl hcp.1
      obtain ⟨v', S2, a1, a2, a3, a4⟩ := hM1.push_one (T := TT) (x := c) hE1.ok (Nat.le_trans hE.n hE1.n) und22 info26 rfl hcp.2 (by omega) (by omega)
      have hE2 : Ext S S2 := a3.ext (hE.trans hE1) fun b hb => (hM1.base hb).1
      repeat (first | with_reducible (first | refine W_seq ?_ | refine W_block ?_ | refine W_scope ?_ | refine W_regionV hTT ?_ | refine W_condV ?_ | refine W_ret ?_ | refine W_exit ?_ | refine W_skip ?_ | refine W_label ?_ | refine W_drawV hTT (by kernel_rfl) ?_) | simp only [H0, J86, J87, und3, und4, und22, und26, und29, und45, und64, info3, info4, info22, info26, info29, info45, info64, info50, aggT, gv, dstAt, aop, evalsA, partsA, evalO, updO, ofArgs, binV, intBin, unV, mmV, builtinA, Nat.reduceLT, Nat.reduceEqDiff, Nat.reduceAdd, Nat.reduceSub, Nat.reduceMul, ↓reduceIte, reduceCtorEq, t0, t3, t4, b1, a1, hw])
      refine LoopQ_intro (rows.length - (k + 1)) (by omega) ⟨hE2, rfl, k + 1, v', cs ++ [c], rfl, by omega, by simp only [H0, J86, J87, und3, und4, und22, und26, und29, und45, und64, info3, info4, info22, info26, info29, info45, info64, info50, aggT, gv, dstAt, aop, evalsA, partsA, evalO, updO, ofArgs, binV, intBin, unV, mmV, builtinA, Nat.reduceLT, Nat.reduceEqDiff, Nat.reduceAdd, Nat.reduceSub, Nat.reduceMul, ↓reduceIte, reduceCtorEq, t0], by simp only [H0, J86, J87, und3, und4, und22, und26, und29, und45, und64, info3, info4, info22, info26, info29, info45, info64, info50, aggT, gv, dstAt, aop, evalsA, partsA, evalO, updO, ofArgs, binV, intBin, unV, mmV, builtinA, Nat.reduceLT, Nat.reduceEqDiff, Nat.reduceAdd, Nat.reduceSub, Nat.reduceMul, ↓reduceIte, reduceCtorEq], by simp only [H0, J86, J87, und3, und4, und22, und26, und29, und45, und64, info3, info4, info22, info26, info29, info45, info64, info50, aggT, gv, dstAt, aop, evalsA, partsA, evalO, updO, ofArgs, binV, intBin, unV, mmV, builtinA, Nat.reduceLT, Nat.reduceEqDiff, Nat.reduceAdd, Nat.reduceSub, Nat.reduceMul, ↓reduceIte, reduceCtorEq, t4, hw], a2, ?_⟩
      intro i hi hik
      by_cases e : i = k
      · subst e
        refine ⟨c, ?_, (hc.but hM1 (by decide) a3).mono hE.n⟩
        have hlen := hM1.sl.length
        rw [Nat.mul_one] at hlen
        rw [List.getElem?_append_right (by omega), hlen, Nat.sub_self]
        rfl
      · obtain ⟨rv', g1, g2⟩ := hcs i hi (by omega)
        have hlen := hM1.sl.length
        rw [Nat.mul_one] at hlen
        have g3 : Mine S1 3 1 S.n rv' (iv rows[i]) rows[i].length := g2.same fun b hb => hE1.same b (g2.base hb).2
        exact ⟨rv', by rw [List.getElem?_append_left (by omega)]; exact g1, g3.but hM1 (by decide) a3⟩
    · have e1 : decide ((k : Int) < rows.length) = false := by simpa using hlt
      have hkk : k = rows.length := by omega
      subst hkk
      repeat (first | with_reducible (first | refine W_seq ?_ | refine W_block ?_ | refine W_scope ?_ | refine W_regionV hTT ?_ | refine W_condV ?_ | refine W_ret ?_ | refine W_exit ?_ | refine W_skip ?_ | refine W_label ?_ | refine W_drawV hTT (by kernel_rfl) ?_) | simp only [H0, J86, J87, und3, und4, und22, und26, und29, und45, und64, info3, info4, info22, info26, info29, info45, info64, info50, aggT, gv, dstAt, aop, evalsA, partsA, evalO, updO, ofArgs, binV, intBin, unV, mmV, builtinA, Nat.reduceLT, Nat.reduceEqDiff, Nat.reduceAdd, Nat.reduceSub, Nat.reduceMul, ↓reduceIte, reduceCtorEq, hla, t0, t3, t4, e1])
      exact ⟨⟨cs, hM⟩, ⟨cs, hM.sl, fun i hi => by obtain ⟨rv, g1, g2⟩ := hcs i hi hi; exact ⟨rv, g1, g2.sl, g2.plain⟩⟩, hE⟩
end Go.Proofs.Sz
end
/- part Wn -/
section
/- Square tables that a call has made itself and writes. Program-independent. -/
namespace Go.Ax
open Go.RowKit Go.Proofs
section
variable {T : Tab} {S S' : St}
/-- the first n values of f -/
def mrow (n : Nat) (f : Nat → Int) : List Int := (List.range n).map f
def mrows (m n : Nat) (M : Nat → Nat → Int) : List (List Int) := (List.range m).map fun i => mrow n (M i)
theorem mrow_len (n : Nat) (f : Nat → Int) : (mrow n f).length = n := by simp [mrow]
theorem mrows_len (m n : Nat) (M : Nat → Nat → Int) : (mrows m n M).length = m := by simp [mrows]
theorem mrow_get {n i : Nat} (f : Nat → Int) (h : i < n) : (mrow n f)[i]? = some (f i) := by simp [mrow, h]
theorem mrow_get' {n i : Nat} (f : Nat → Int) (h : i < (mrow n f).length) : (mrow n f)[i] = f i := by simp [mrow]
theorem mrows_get {m n i : Nat} (M : Nat → Nat → Int) (h : i < (mrows m n M).length) : (mrows m n M)[i] = mrow n (M i) := by simp [mrows]
theorem mrow_congr {n : Nat} {f g : Nat → Int} (h : ∀ i, i < n → f i = g i) : mrow n f = mrow n g := by
  unfold mrow
  apply List.map_congr_left
  intro i hi
  exact h i (List.mem_range.1 hi)
theorem mrow_set (n : Nat) (f : Nat → Int) (j : Nat) (x : Int) : (mrow n f).set j x = mrow n (fun k => if k = j then x else f k) := by
  unfold mrow
  apply List.ext_getElem?
  intro k
  rw [List.getElem?_set]
  by_cases e : j = k
  · subst e
    by_cases h : j < n <;> simp [h]
  · have e' : k ≠ j := fun h => e h.symm
    rw [if_neg e]
    by_cases h : k < n
    · simp [h, e']
    · simp [h]
theorem mrow_zero (n : Nat) : List.replicate n (Value.int .i64 0) = iv (mrow n fun _ => 0) := by
  apply List.ext_getElem?
  intro k
  rw [iv_get, List.getElem?_replicate]
  unfold mrow
  by_cases h : k < n <;> simp [h]
/-- a row of n cells, whole -/
def rowv (n b : Nat) : Value := .slice (some ⟨b, 0, none⟩) n n
/-- rows of one's own -/
structure OwnR (S : St) (lo n : Nat) (e : TypeId) (bs : List Nat) (M : Nat → Nat → Int) : Prop where
  lo : ∀ i (h : i < bs.length), lo ≤ bs[i]
  get : ∀ i (h : i < bs.length), S.get bs[i] = some (.cells (iv (mrow n (M i))) e 0)
  nodup : ∀ i j (h : i < bs.length) (h' : j < bs.length), bs[i] = bs[j] → i = j
def setM (M : Nat → Nat → Int) (i j : Nat) (x : Int) : Nat → Nat → Int := fun a b => if a = i ∧ b = j then x else M a b
theorem OwnR.keep {lo n : Nat} {e : TypeId} {bs : List Nat} {M : Nat → Nat → Int} (h : OwnR S lo n e bs M) (hs : ∀ i (h : i < bs.length), S'.get bs[i] = S.get bs[i]) : OwnR S' lo n e bs M :=
  ⟨h.lo, fun i hi => by rw [hs i hi]; exact h.get i hi, h.nodup⟩
theorem OwnR.sl {lo n : Nat} {e : TypeId} {bs : List Nat} {M : Nat → Nat → Int} (h : OwnR S lo n e bs M) (hn : n < 4611686018427387904) {i : Nat} (hi : i < bs.length) : Sl S 1 (rowv n bs[i]) (iv (mrow n (M i))) (mrow n (M i)).length := by
  have := Sl.of_cells (sz := 1) (n := n) (c := n) (h.get i hi) (by rw [iv_len, mrow_len, Nat.mul_one]) (small_BIG hn) (Nat.le_refl _)
  rw [mrow_len]
  exact this
theorem OwnR.store {lo n : Nat} {e : TypeId} {bs : List Nat} {M : Nat → Nat → Int} (h : OwnR S lo n e bs M) (hok : S.ok) {z : Value} {by' : Nat} (he : T.info e = some ⟨z, 1, by'⟩) {i j : Nat} (hi : i < bs.length) (hj : j < n) (x : Int) :
    storeA T S e (.int .i64 x) (.pointer (some ⟨bs[i], j, none⟩)) = some (S.set bs[i] (.cells (iv (mrow n (setM M i j x i))) e 0)) ∧ OwnR (S.set bs[i] (.cells (iv (mrow n (setM M i j x i))) e 0)) lo n e bs (setM M i j x) := by
  have hg := h.get i hi
  have hlt := lt_of_get hg
  have hs := store_one (T := T) (v := .int .i64 x) he hg rfl rfl (o := j) (by rw [iv_len, mrow_len]; exact hj)
  have hset : (iv (mrow n (M i))).set j (.int .i64 x) = iv (mrow n (setM M i j x i)) := by
    have : (iv (mrow n (M i))).set j (.int .i64 x) = iv ((mrow n (M i)).set j x) := by simp [iv, List.map_set]
    rw [this, mrow_set]
    congr 1
    apply mrow_congr
    intro k _
    unfold setM
    by_cases e : k = j <;> simp [e]
  rw [hset] at hs
  refine ⟨hs, h.lo, fun k hk => ?_, h.nodup⟩
  by_cases ek : k = i
  · subst ek
    exact get_set_same _ hok hlt rfl
  · rw [get_set_ne _ hlt (fun e => ek (h.nodup _ _ _ _ e)), h.get k hk]
    congr 3
    apply mrow_congr
    intro a _
    unfold setM
    rw [if_neg (fun hh => ek hh.1)]
theorem rows_at {n m : Nat} {eo ty : TypeId} {bs : List Nat} {v : Value} (hv : Sl S 1 v (bs.map (rowv n)) m) (hm : bs.length = m) {ti : TI} {f : TypeId} (hu : T.und ty = some (.slice eo)) (he : T.info eo = some ti) (hd : T.und eo = some (.slice f)) (hsz : ti.size = 1) {k : IntKind} {i : Nat} (hi : i < bs.length) :
    ∃ p, indexAddrA T ty (.int k i) v = some p ∧ loadA T S eo p = some (rowv n bs[i]) := by
  obtain ⟨p, p1, p2, _⟩ := hv.at1 (T := T) (k := k) hu he hd hsz rfl (i := i) (by omega)
  refine ⟨p, p1, ?_⟩
  rw [p2, List.getElem?_map, List.getElem?_eq_getElem hi]
  rfl
theorem OwnR.mat {lo n m : Nat} {e : TypeId} {bs : List Nat} {M : Nat → Nat → Int} (h : OwnR S lo n e bs M) {v : Value} (hv : Sl S 1 v (bs.map (rowv n)) m) (hm : bs.length = m) (hn : n < 4611686018427387904) : Mat S v (mrows m n M) := by
  refine ⟨bs.map (rowv n), by rw [mrows_len]; exact hv, fun i hi => ?_⟩
  have hi' : i < bs.length := by rw [mrows_len] at hi; omega
  refine ⟨rowv n bs[i], by rw [List.getElem?_map, List.getElem?_eq_getElem hi']; rfl, ?_, ?_⟩
  · rw [mrows_get]
    exact h.sl hn hi'
  · rw [mrows_get, mrow_len]
    exact .mk
/-- one more row of zeros, behind what grew -/
theorem OwnR.more {lo n : Nat} {e : TypeId} {bs : List Nat} {M : Nat → Nat → Int} (h : OwnR S lo n e bs M) (hM : ∀ j, M bs.length j = 0) (hs : ∀ i (h : i < bs.length), S'.get bs[i] = S.get bs[i]) {b : Nat} (hb : S'.get b = some (.cells (iv (mrow n fun _ => 0)) e 0)) (hl : lo ≤ b) (hne : ∀ i (h : i < bs.length), bs[i] ≠ b) : OwnR S' lo n e (bs ++ [b]) M := by
  refine ⟨fun i hi => ?_, fun i hi => ?_, fun i j hi hj => ?_⟩
  · rw [List.getElem_append]
    split
    · exact h.lo i _
    · simpa using hl
  · rw [List.getElem_append]
    split
    · rename_i hlt; rw [hs i hlt]; exact h.get i hlt
    · rename_i hge
      have : i = bs.length := by simp at hi; omega
      subst this
      simp only [List.getElem_singleton]
      rw [hb]
      congr 3
      apply mrow_congr
      intro j _
      exact (hM j).symm
  · rw [List.getElem_append, List.getElem_append]
    intro e
    simp at hi hj
    split at e <;> split at e
    · exact h.nodup _ _ _ _ e
    · exact absurd (by simpa using e) (hne i _)
    · exact absurd (by simpa using e.symm) (hne j _)
    · omega
end
end Go.Ax
end
/- part Zn -/
section
namespace Go.Proofs.Sz
open Go Go.Ax Go.Proofs Go.RowKit
/-- a contest, as a function -/
def IsC (n : Nat) (M : Nat → Nat → Int) : Prop := ∀ i j, i < n → j < n → (i = j → M i j = 0) ∧ (i ≠ j → (M i j = 0 ∨ M i j = 1) ∧ M i j + M j i = 1)
/-- all pairs ahead of (i, j) are played -/
def PlayedTo (n i j : Nat) (M : Nat → Nat → Int) : Prop := (∀ a, M a a = 0) ∧ ∀ a b, a < b → b < n → (a < i ∨ (a = i ∧ b < j)) → (M a b = 0 ∨ M a b = 1) ∧ M a b + M b a = 1
theorem PlayedTo.step {n i j : Nat} {M : Nat → Nat → Int} (h : PlayedTo n i j M) (hij : i < j) {x : Int} (hx : x = 0 ∨ x = 1) : PlayedTo n i (j + 1) (setM (setM M i j x) j i (1 - x)) := by
  refine ⟨fun a => ?_, fun a b hab hb ho => ?_⟩
  · unfold setM
    rw [if_neg (by omega), if_neg (by omega)]
    exact h.1 a
  · by_cases e : a = i ∧ b = j
    · obtain ⟨rfl, rfl⟩ := e
      unfold setM
      rw [if_neg (by omega), if_pos ⟨rfl, rfl⟩, if_pos ⟨rfl, rfl⟩]
      omega
    · have := h.2 a b hab hb (by omega)
      unfold setM
      rw [if_neg (by omega), if_neg (by omega), if_neg (by omega), if_neg (by omega)]
      exact this
theorem PlayedTo.next {n i : Nat} {M : Nat → Nat → Int} (h : PlayedTo n i n M) : PlayedTo n (i + 1) (i + 1 + 1) M :=
  ⟨h.1, fun a b hab hb ho => h.2 a b hab hb (by omega)⟩
theorem PlayedTo.all {n i j : Nat} {M : Nat → Nat → Int} (h : PlayedTo n i j M) (hi : n ≤ i) : IsC n M := by
  intro a b ha hb
  refine ⟨fun e => by subst e; exact h.1 a, fun hne => ?_⟩
  rcases Nat.lt_or_gt_of_ne hne with hlt | hgt
  · exact h.2 a b hlt hb (by omega)
  · have := h.2 b a hgt ha (by omega)
    omega
theorem fn7 : TT.fn 7 = some Tryz.f7 := by kernel_rfl
set_option maxHeartbeats 4000000 in
/-- contest -/
theorem contest_call {S : St} (hok : S.ok) {vl : Value} {ls : List (List Int)} (hx : Mat S vl ls) {n : Nat} (hn : n < 31) :
    CallW PP 7 [vl, .int .i64 n] S (fun v S' => (∃ M, IsC n M ∧ Mat S' v (mrows n n M)) ∧ Plain v n ∧ Ext S S') := by
  refine CallW_of hTT fn7 rfl (by simp [Tryz.f7]) ?_
  unfold Tryz.f7
  repeat (first | with_reducible (first | refine W_seq ?_ | refine W_scope ?_ | refine W_regionV hTT ?_ | refine W_condV ?_ | refine W_ret ?_ | refine W_exit ?_ | refine W_skip ?_ | refine W_label ?_ | refine W_drawV hTT (by kernel_rfl) ?_) | simp only [H0, J86, J87, und3, und4, und22, und26, und29, und45, und64, info3, info4, info22, info26, info29, info45, info64, info50, aggT, gv, dstAt, aop, evalsA, partsA, evalO, updO, ofArgs, binV, intBin, unV, mmV, builtinA, Nat.reduceLT, Nat.reduceEqDiff, Nat.reduceAdd, Nat.reduceSub, Nat.reduceMul, ↓reduceIte, reduceCtorEq])
  refine W_cut (fun τ ds S' => Ext S S' ∧ ds = [] ∧ ∃ (v5 : Value) (bs : List Nat), bs.length = n ∧ τ 0 = vl ∧ τ 1 = .int .i64 n ∧ τ 5 = v5 ∧ Mine S' 26 1 S.n v5 (bs.map (rowv n)) n ∧ OwnR S' S.n n 3 bs (fun _ _ => 0)) ?_ ?_
  · refine W_block ?_
    refine W_loopI (fun m τ ds S' => Ext S S' ∧ ds = [] ∧ ∃ (k : Nat) (v5 : Value) (bs : List Nat), m = n - k ∧ k ≤ n ∧ bs.length = k ∧ τ 0 = vl ∧ τ 1 = .int .i64 n ∧ τ 5 = v5 ∧ τ 6 = .int .i64 k ∧ Mine S' 26 1 S.n v5 (bs.map (rowv n)) k ∧ OwnR S' S.n n 3 bs (fun _ _ => 0)) n ?_ ?_
    · refine ⟨Ext.refl hok, rfl, 0, .slice none 0 0, [], by simp, by simp, rfl, ?_, ?_, ?_, ?_, Mine.nil _ _ _ _, ⟨by simp, by simp, by simp⟩⟩ <;> first | rfl | simp only [H0, J86, J87, und3, und4, und22, und26, und29, und45, und64, info3, info4, info22, info26, info29, info45, info64, info50, aggT, gv, dstAt, aop, evalsA, partsA, evalO, updO, ofArgs, binV, intBin, unV, mmV, builtinA, Nat.reduceLT, Nat.reduceEqDiff, Nat.reduceAdd, Nat.reduceSub, Nat.reduceMul, ↓reduceIte, reduceCtorEq]
    · rintro m τ ds S' ⟨hE, rfl, k, v5, bs, rfl, hk, hbs, t0, t1, t5, t6, hM, hR⟩
      by_cases hlt : k < n
      · have e1 : decide ((k : Int) < n) = true := by simpa using hlt
        have hw := wrap_succ (k := k) (by omega)
        have hmk := make_one (T := TT) (S := S') (m := n) (k := .i64) (k' := .i64) und26 info3 rfl rfl (by omega) (by omega)
        rw [mrow_zero] at hmk
        change _ = some (rowv n S'.n, _) at hmk
        have hok1 : (S'.push (.cells (iv (mrow n fun _ => 0)) 3 0)).ok := by rw [ok_push_iff]; exact hE.ok
        have hE1 : Ext S (S'.push (.cells (iv (mrow n fun _ => 0)) 3 0)) := hE.push _
        have hM1 : Mine (S'.push (.cells (iv (mrow n fun _ => 0)) 3 0)) 26 1 S.n v5 (bs.map (rowv n)) k := hM.same fun b hb => get_push_ne _ (by have := (hM.base hb).2; omega)
        have b1 := bs_one (T := TT) (S := S'.push (.cells (iv (mrow n fun _ => 0)) 3 0)) (x := rowv n S'.n) und22 info26 rfl rfl rfl
        obtain ⟨v', S2, a1, a2, a3, a4⟩ := hM1.push_one (T := TT) (x := rowv n S'.n) hok1 hE1.n und22 info26 rfl rfl (by omega) (by omega)
        have hE2 : Ext S S2 := a3.ext hE1 fun b hb => (hM1.base hb).1
        repeat (first | with_reducible (first | refine W_seq ?_ | refine W_block ?_ | refine W_scope ?_ | refine W_regionV hTT ?_ | refine W_condV ?_ | refine W_ret ?_ | refine W_exit ?_ | refine W_skip ?_ | refine W_label ?_ | refine W_drawV hTT (by kernel_rfl) ?_) | simp only [H0, J86, J87, und3, und4, und22, und26, und29, und45, und64, info3, info4, info22, info26, info29, info45, info64, info50, aggT, gv, dstAt, aop, evalsA, partsA, evalO, updO, ofArgs, binV, intBin, unV, mmV, builtinA, Nat.reduceLT, Nat.reduceEqDiff, Nat.reduceAdd, Nat.reduceSub, Nat.reduceMul, ↓reduceIte, reduceCtorEq, t0, t1, t5, t6, e1, hmk, b1, a1, hw])
        refine LoopQ_intro (n - (k + 1)) (by omega) ⟨hE2, rfl, k + 1, v', bs ++ [S'.n], rfl, by omega, by simp [hbs], by simp only [H0, J86, J87, und3, und4, und22, und26, und29, und45, und64, info3, info4, info22, info26, info29, info45, info64, info50, aggT, gv, dstAt, aop, evalsA, partsA, evalO, updO, ofArgs, binV, intBin, unV, mmV, builtinA, Nat.reduceLT, Nat.reduceEqDiff, Nat.reduceAdd, Nat.reduceSub, Nat.reduceMul, ↓reduceIte, reduceCtorEq, t0], by simp only [H0, J86, J87, und3, und4, und22, und26, und29, und45, und64, info3, info4, info22, info26, info29, info45, info64, info50, aggT, gv, dstAt, aop, evalsA, partsA, evalO, updO, ofArgs, binV, intBin, unV, mmV, builtinA, Nat.reduceLT, Nat.reduceEqDiff, Nat.reduceAdd, Nat.reduceSub, Nat.reduceMul, ↓reduceIte, reduceCtorEq, t1], by simp only [H0, J86, J87, und3, und4, und22, und26, und29, und45, und64, info3, info4, info22, info26, info29, info45, info64, info50, aggT, gv, dstAt, aop, evalsA, partsA, evalO, updO, ofArgs, binV, intBin, unV, mmV, builtinA, Nat.reduceLT, Nat.reduceEqDiff, Nat.reduceAdd, Nat.reduceSub, Nat.reduceMul, ↓reduceIte, reduceCtorEq], by simp only [H0, J86, J87, und3, und4, und22, und26, und29, und45, und64, info3, info4, info22, info26, info29, info45, info64, info50, aggT, gv, dstAt, aop, evalsA, partsA, evalO, updO, ofArgs, binV, intBin, unV, mmV, builtinA, Nat.reduceLT, Nat.reduceEqDiff, Nat.reduceAdd, Nat.reduceSub, Nat.reduceMul, ↓reduceIte, reduceCtorEq, t6, hw], by rw [List.map_append]; exact a2, ?_⟩
        have hnew : ∀ b, b < (S'.push (.cells (iv (mrow n fun _ => 0)) 3 0)).n → (∃ cs, (S'.push (.cells (iv (mrow n fun _ => 0)) 3 0)).get b = some (.cells cs 3 0)) → S2.get b = (S'.push (.cells (iv (mrow n fun _ => 0)) 3 0)).get b := by
          intro b hb ⟨cs, hcs⟩
          refine a3.same b hb fun e => ?_
          rcases hM1 with ⟨rfl, _⟩ | ⟨b1, rfl, _, h2, _⟩
          · cases e
          · cases e
            rw [hcs] at h2
            cases h2
        refine hR.more (fun _ => rfl) (fun i hi => ?_) (b := S'.n) ?_ hE.n (fun i hi => ?_)
        · have hg := hR.get i hi
          have hl := lt_of_get hg
          have hp : (S'.push (.cells (iv (mrow n fun _ => 0)) 3 0)).get bs[i] = S'.get bs[i] := get_push_ne _ (by omega)
          rw [hnew _ (by rw [push_n]; omega) ⟨_, by rw [hp]; exact hg⟩, hp]
        · rw [hnew _ (by rw [push_n]; omega) ⟨_, get_push_new _ rfl⟩]
          exact get_push_new _ rfl
        · have := lt_of_get (hR.get i hi)
          omega
      · have e1 : decide ((k : Int) < n) = false := by simpa using hlt
        have hkk : k = n := by omega
        subst hkk
        repeat (first | with_reducible (first | refine W_seq ?_ | refine W_block ?_ | refine W_scope ?_ | refine W_regionV hTT ?_ | refine W_condV ?_ | refine W_ret ?_ | refine W_exit ?_ | refine W_skip ?_ | refine W_label ?_ | refine W_drawV hTT (by kernel_rfl) ?_) | simp only [H0, J86, J87, und3, und4, und22, und26, und29, und45, und64, info3, info4, info22, info26, info29, info45, info64, info50, aggT, gv, dstAt, aop, evalsA, partsA, evalO, updO, ofArgs, binV, intBin, unV, mmV, builtinA, Nat.reduceLT, Nat.reduceEqDiff, Nat.reduceAdd, Nat.reduceSub, Nat.reduceMul, ↓reduceIte, reduceCtorEq, t0, t1, t5, t6, e1])
        refine NQ_intro ⟨hE, rfl, v5, bs, hbs, by simp only [H0, J86, J87, und3, und4, und22, und26, und29, und45, und64, info3, info4, info22, info26, info29, info45, info64, info50, aggT, gv, dstAt, aop, evalsA, partsA, evalO, updO, ofArgs, binV, intBin, unV, mmV, builtinA, Nat.reduceLT, Nat.reduceEqDiff, Nat.reduceAdd, Nat.reduceSub, Nat.reduceMul, ↓reduceIte, reduceCtorEq, t0], by simp only [H0, J86, J87, und3, und4, und22, und26, und29, und45, und64, info3, info4, info22, info26, info29, info45, info64, info50, aggT, gv, dstAt, aop, evalsA, partsA, evalO, updO, ofArgs, binV, intBin, unV, mmV, builtinA, Nat.reduceLT, Nat.reduceEqDiff, Nat.reduceAdd, Nat.reduceSub, Nat.reduceMul, ↓reduceIte, reduceCtorEq, t1], by simp only [H0, J86, J87, und3, und4, und22, und26, und29, und45, und64, info3, info4, info22, info26, info29, info45, info64, info50, aggT, gv, dstAt, aop, evalsA, partsA, evalO, updO, ofArgs, binV, intBin, unV, mmV, builtinA, Nat.reduceLT, Nat.reduceEqDiff, Nat.reduceAdd, Nat.reduceSub, Nat.reduceMul, ↓reduceIte, reduceCtorEq, t5], hM, hR⟩
  · rintro τ ds S1 ⟨hE, rfl, v5, bs, hbs, t0, t1, t5, hM, hR⟩
    repeat (first | with_reducible (first | refine W_seq ?_ | refine W_scope ?_ | refine W_regionV hTT ?_ | refine W_condV ?_ | refine W_ret ?_ | refine W_exit ?_ | refine W_skip ?_ | refine W_label ?_ | refine W_drawV hTT (by kernel_rfl) ?_) | simp only [H0, J86, J87, und3, und4, und22, und26, und29, und45, und64, info3, info4, info22, info26, info29, info45, info64, info50, aggT, gv, dstAt, aop, evalsA, partsA, evalO, updO, ofArgs, binV, intBin, unV, mmV, builtinA, Nat.reduceLT, Nat.reduceEqDiff, Nat.reduceAdd, Nat.reduceSub, Nat.reduceMul, ↓reduceIte, reduceCtorEq, t0, t1, t5])
    refine W_block ?_
    refine W_loopI (fun m τ ds S' => Ext S S' ∧ ds = [] ∧ ∃ (i : Nat) (M : Nat → Nat → Int), m = n - i ∧ i ≤ n ∧ τ 0 = vl ∧ τ 1 = .int .i64 n ∧ τ 5 = v5 ∧ τ 7 = .int .i64 i ∧ Mine S' 26 1 S.n v5 (bs.map (rowv n)) n ∧ OwnR S' S.n n 3 bs M ∧ PlayedTo n i (i + 1) M) n ?_ ?_
    · refine ⟨hE, rfl, 0, _, by simp, by simp, ?_, ?_, ?_, ?_, hM, hR, ⟨fun _ => rfl, fun a b h1 h2 h3 => by omega⟩⟩ <;> first | rfl | simp only [H0, J86, J87, und3, und4, und22, und26, und29, und45, und64, info3, info4, info22, info26, info29, info45, info64, info50, aggT, gv, dstAt, aop, evalsA, partsA, evalO, updO, ofArgs, binV, intBin, unV, mmV, builtinA, Nat.reduceLT, Nat.reduceEqDiff, Nat.reduceAdd, Nat.reduceSub, Nat.reduceMul, ↓reduceIte, reduceCtorEq, t0, t1, t5]
    · rintro m τ ds S' ⟨hE, rfl, i, M, rfl, hi, t0, t1, t5, t7, hM, hR, hP⟩
      by_cases hlt : i < n
      · have e1 : decide ((i : Int) < n) = true := by simpa using hlt
        have hw := wrap_succ (k := i) (by omega)
        repeat (first | with_reducible (first | refine W_seq ?_ | refine W_scope ?_ | refine W_regionV hTT ?_ | refine W_condV ?_ | refine W_ret ?_ | refine W_exit ?_ | refine W_skip ?_ | refine W_label ?_ | refine W_drawV hTT (by kernel_rfl) ?_) | simp only [H0, J86, J87, und3, und4, und22, und26, und29, und45, und64, info3, info4, info22, info26, info29, info45, info64, info50, aggT, gv, dstAt, aop, evalsA, partsA, evalO, updO, ofArgs, binV, intBin, unV, mmV, builtinA, Nat.reduceLT, Nat.reduceEqDiff, Nat.reduceAdd, Nat.reduceSub, Nat.reduceMul, ↓reduceIte, reduceCtorEq, t0, t1, t5, t7, e1, hw])
        refine W_block ?_
        repeat (first | with_reducible (first | refine W_seq ?_ | refine W_scope ?_ | refine W_regionV hTT ?_ | refine W_condV ?_ | refine W_ret ?_ | refine W_exit ?_ | refine W_skip ?_ | refine W_label ?_ | refine W_drawV hTT (by kernel_rfl) ?_) | simp only [H0, J86, J87, und3, und4, und22, und26, und29, und45, und64, info3, info4, info22, info26, info29, info45, info64, info50, aggT, gv, dstAt, aop, evalsA, partsA, evalO, updO, ofArgs, binV, intBin, unV, mmV, builtinA, Nat.reduceLT, Nat.reduceEqDiff, Nat.reduceAdd, Nat.reduceSub, Nat.reduceMul, ↓reduceIte, reduceCtorEq, t0, t1, t5, t7, hw])
        refine W_block ?_
        refine W_loopI (fun m τ ds S' => Ext S S' ∧ ds = [] ∧ ∃ (j : Nat) (M : Nat → Nat → Int), m = n - j ∧ i < j ∧ j ≤ n ∧ τ 0 = vl ∧ τ 1 = .int .i64 n ∧ τ 5 = v5 ∧ τ 7 = .int .i64 i ∧ τ 8 = .int .i64 j ∧ Mine S' 26 1 S.n v5 (bs.map (rowv n)) n ∧ OwnR S' S.n n 3 bs M ∧ PlayedTo n i j M) (n - (i + 1)) ?_ ?_
        · refine ⟨hE, rfl, i + 1, M, rfl, by omega, by omega, ?_, ?_, ?_, ?_, ?_, hM, hR, hP⟩ <;> first | rfl | simp only [H0, J86, J87, und3, und4, und22, und26, und29, und45, und64, info3, info4, info22, info26, info29, info45, info64, info50, aggT, gv, dstAt, aop, evalsA, partsA, evalO, updO, ofArgs, binV, intBin, unV, mmV, builtinA, Nat.reduceLT, Nat.reduceEqDiff, Nat.reduceAdd, Nat.reduceSub, Nat.reduceMul, ↓reduceIte, reduceCtorEq, t0, t1, t5, t7, hw]
        · rintro m τ ds S' ⟨hE, rfl, j, M, rfl, hij, hj, t0, t1, t5, t7, t8, hM, hR, hP⟩
          by_cases hjn : j < n
          · have e1 : decide ((j : Int) < n) = true := by simpa using hjn
            have hw := wrap_succ (k := j) (by omega)
            repeat (first | with_reducible (first | refine W_seq ?_ | refine W_scope ?_ | refine W_regionV hTT ?_ | refine W_condV ?_ | refine W_ret ?_ | refine W_exit ?_ | refine W_skip ?_ | refine W_label ?_ | refine W_drawV hTT (by kernel_rfl) ?_) | simp only [H0, J86, J87, und3, und4, und22, und26, und29, und45, und64, info3, info4, info22, info26, info29, info45, info64, info50, aggT, gv, dstAt, aop, evalsA, partsA, evalO, updO, ofArgs, binV, intBin, unV, mmV, builtinA, Nat.reduceLT, Nat.reduceEqDiff, Nat.reduceAdd, Nat.reduceSub, Nat.reduceMul, ↓reduceIte, reduceCtorEq, t0, t1, t5, t7, t8, e1, hw])
            refine W_block ?_
            with_reducible refine W_seq ?_
            with_reducible refine W_regionV hTT ?_
            simp only [H0, J86, J87, und3, und4, und22, und26, und29, und45, und64, info3, info4, info22, info26, info29, info45, info64, info50, aggT, gv, dstAt, aop, evalsA, partsA, evalO, updO, ofArgs, binV, intBin, unV, mmV, builtinA, Nat.reduceLT, Nat.reduceEqDiff, Nat.reduceAdd, Nat.reduceSub, Nat.reduceMul, ↓reduceIte, reduceCtorEq, t0, t1, t5, t7, t8]
            with_reducible refine W_seq ?_
            refine W_cut (fun τ' ds' S'' => S'' = S' ∧ ds' = [] ∧ (∃ r : Nat, r < 2 ∧ τ' 9 = .int .i64 r) ∧ τ' 0 = vl ∧ τ' 1 = .int .i64 n ∧ τ' 5 = v5 ∧ τ' 7 = .int .i64 i ∧ τ' 8 = .int .i64 j) ?_ ?_
            · have hx' := hx.extd hE
              have hla := hx'.len (T := TT) und22
              by_cases hi1 : i < ls.length
              · have e2 : decide ((i : Int) < ls.length) = true := by simpa using hi1
                obtain ⟨p, rv, p1, p2, hrow, _⟩ := hx'.row (T := TT) (k := .i64) und22 info26 und26 rfl hi1
                have hlb := hrow.len (T := TT) und26
                by_cases hj1 : j < ls[i].length
                · have e3 : decide ((j : Int) < ls[i].length) = true := by simpa using hj1
                  obtain ⟨q, q1, q2, _⟩ := hrow.at1 (T := TT) (k := .i64) und26 info3 und3 rfl rfl hj1
                  rw [iv_get, List.getElem?_eq_getElem hj1] at q2
                  repeat (first | with_reducible (first | refine W_seq ?_ | refine W_block ?_ | refine W_scope ?_ | refine W_regionV hTT ?_ | refine W_condV ?_ | refine W_ret ?_ | refine W_exit ?_ | refine W_skip ?_ | refine W_label ?_ | refine W_drawV hTT (by kernel_rfl) ?_) | simp only [H0, J86, J87, und3, und4, und22, und26, und29, und45, und64, info3, info4, info22, info26, info29, info45, info64, info50, aggT, gv, dstAt, aop, evalsA, partsA, evalO, updO, ofArgs, binV, intBin, unV, mmV, builtinA, Nat.reduceLT, Nat.reduceEqDiff, Nat.reduceAdd, Nat.reduceSub, Nat.reduceMul, ↓reduceIte, reduceCtorEq, t0, t1, t5, t7, t8, hla, e2, p1, p2, hlb, e3, q1, q2])
                  refine VCall_intro (mod_call _ _ (n := 2) (by omega) (by omega)) ?_
                  rintro v S3 ⟨⟨r, hr, rfl⟩, rfl⟩
                  repeat (first | with_reducible (first | refine W_seq ?_ | refine W_block ?_ | refine W_scope ?_ | refine W_regionV hTT ?_ | refine W_condV ?_ | refine W_ret ?_ | refine W_exit ?_ | refine W_skip ?_ | refine W_label ?_ | refine W_drawV hTT (by kernel_rfl) ?_) | simp only [H0, J86, J87, und3, und4, und22, und26, und29, und45, und64, info3, info4, info22, info26, info29, info45, info64, info50, aggT, gv, dstAt, aop, evalsA, partsA, evalO, updO, ofArgs, binV, intBin, unV, mmV, builtinA, Nat.reduceLT, Nat.reduceEqDiff, Nat.reduceAdd, Nat.reduceSub, Nat.reduceMul, ↓reduceIte, reduceCtorEq, t0, t1, t5, t7, t8])
                  refine NQ_intro ⟨rfl, rfl, ⟨r, hr, by simp only [H0, J86, J87, und3, und4, und22, und26, und29, und45, und64, info3, info4, info22, info26, info29, info45, info64, info50, aggT, gv, dstAt, aop, evalsA, partsA, evalO, updO, ofArgs, binV, intBin, unV, mmV, builtinA, Nat.reduceLT, Nat.reduceEqDiff, Nat.reduceAdd, Nat.reduceSub, Nat.reduceMul, ↓reduceIte, reduceCtorEq]⟩, by simp only [H0, J86, J87, und3, und4, und22, und26, und29, und45, und64, info3, info4, info22, info26, info29, info45, info64, info50, aggT, gv, dstAt, aop, evalsA, partsA, evalO, updO, ofArgs, binV, intBin, unV, mmV, builtinA, Nat.reduceLT, Nat.reduceEqDiff, Nat.reduceAdd, Nat.reduceSub, Nat.reduceMul, ↓reduceIte, reduceCtorEq, t0], by simp only [H0, J86, J87, und3, und4, und22, und26, und29, und45, und64, info3, info4, info22, info26, info29, info45, info64, info50, aggT, gv, dstAt, aop, evalsA, partsA, evalO, updO, ofArgs, binV, intBin, unV, mmV, builtinA, Nat.reduceLT, Nat.reduceEqDiff, Nat.reduceAdd, Nat.reduceSub, Nat.reduceMul, ↓reduceIte, reduceCtorEq, t1], by simp only [H0, J86, J87, und3, und4, und22, und26, und29, und45, und64, info3, info4, info22, info26, info29, info45, info64, info50, aggT, gv, dstAt, aop, evalsA, partsA, evalO, updO, ofArgs, binV, intBin, unV, mmV, builtinA, Nat.reduceLT, Nat.reduceEqDiff, Nat.reduceAdd, Nat.reduceSub, Nat.reduceMul, ↓reduceIte, reduceCtorEq, t5], by simp only [H0, J86, J87, und3, und4, und22, und26, und29, und45, und64, info3, info4, info22, info26, info29, info45, info64, info50, aggT, gv, dstAt, aop, evalsA, partsA, evalO, updO, ofArgs, binV, intBin, unV, mmV, builtinA, Nat.reduceLT, Nat.reduceEqDiff, Nat.reduceAdd, Nat.reduceSub, Nat.reduceMul, ↓reduceIte, reduceCtorEq, t7], by simp only [H0, J86, J87, und3, und4, und22, und26, und29, und45, und64, info3, info4, info22, info26, info29, info45, info64, info50, aggT, gv, dstAt, aop, evalsA, partsA, evalO, updO, ofArgs, binV, intBin, unV, mmV, builtinA, Nat.reduceLT, Nat.reduceEqDiff, Nat.reduceAdd, Nat.reduceSub, Nat.reduceMul, ↓reduceIte, reduceCtorEq, t8]⟩
                · have e3 : decide ((j : Int) < ls[i].length) = false := by simpa using hj1
                  repeat (first | with_reducible (first | refine W_seq ?_ | refine W_block ?_ | refine W_scope ?_ | refine W_regionV hTT ?_ | refine W_condV ?_ | refine W_ret ?_ | refine W_exit ?_ | refine W_skip ?_ | refine W_label ?_ | refine W_drawV hTT (by kernel_rfl) ?_) | simp only [H0, J86, J87, und3, und4, und22, und26, und29, und45, und64, info3, info4, info22, info26, info29, info45, info64, info50, aggT, gv, dstAt, aop, evalsA, partsA, evalO, updO, ofArgs, binV, intBin, unV, mmV, builtinA, Nat.reduceLT, Nat.reduceEqDiff, Nat.reduceAdd, Nat.reduceSub, Nat.reduceMul, ↓reduceIte, reduceCtorEq, t0, t1, t5, t7, t8, hla, e2, p1, p2, hlb, e3])
                  refine NQ_intro ⟨rfl, rfl, ⟨1, by omega, by simp only [H0, J86, J87, und3, und4, und22, und26, und29, und45, und64, info3, info4, info22, info26, info29, info45, info64, info50, aggT, gv, dstAt, aop, evalsA, partsA, evalO, updO, ofArgs, binV, intBin, unV, mmV, builtinA, Nat.reduceLT, Nat.reduceEqDiff, Nat.reduceAdd, Nat.reduceSub, Nat.reduceMul, ↓reduceIte, reduceCtorEq]; rfl⟩, by simp only [H0, J86, J87, und3, und4, und22, und26, und29, und45, und64, info3, info4, info22, info26, info29, info45, info64, info50, aggT, gv, dstAt, aop, evalsA, partsA, evalO, updO, ofArgs, binV, intBin, unV, mmV, builtinA, Nat.reduceLT, Nat.reduceEqDiff, Nat.reduceAdd, Nat.reduceSub, Nat.reduceMul, ↓reduceIte, reduceCtorEq, t0], by simp only [H0, J86, J87, und3, und4, und22, und26, und29, und45, und64, info3, info4, info22, info26, info29, info45, info64, info50, aggT, gv, dstAt, aop, evalsA, partsA, evalO, updO, ofArgs, binV, intBin, unV, mmV, builtinA, Nat.reduceLT, Nat.reduceEqDiff, Nat.reduceAdd, Nat.reduceSub, Nat.reduceMul, ↓reduceIte, reduceCtorEq, t1], by simp only [H0, J86, J87, und3, und4, und22, und26, und29, und45, und64, info3, info4, info22, info26, info29, info45, info64, info50, aggT, gv, dstAt, aop, evalsA, partsA, evalO, updO, ofArgs, binV, intBin, unV, mmV, builtinA, Nat.reduceLT, Nat.reduceEqDiff, Nat.reduceAdd, Nat.reduceSub, Nat.reduceMul, ↓reduceIte, reduceCtorEq, t5], by simp only [H0, J86, J87, und3, und4, und22, und26, und29, und45, und64, info3, info4, info22, info26, info29, info45, info64, info50, aggT, gv, dstAt, aop, evalsA, partsA, evalO, updO, ofArgs, binV, intBin, unV, mmV, builtinA, Nat.reduceLT, Nat.reduceEqDiff, Nat.reduceAdd, Nat.reduceSub, Nat.reduceMul, ↓reduceIte, reduceCtorEq, t7], by simp only [H0, J86, J87, und3, und4, und22, und26, und29, und45, und64, info3, info4, info22, info26, info29, info45, info64, info50, aggT, gv, dstAt, aop, evalsA, partsA, evalO, updO, ofArgs, binV, intBin, unV, mmV, builtinA, Nat.reduceLT, Nat.reduceEqDiff, Nat.reduceAdd, Nat.reduceSub, Nat.reduceMul, ↓reduceIte, reduceCtorEq, t8]⟩
              · have e2 : decide ((i : Int) < ls.length) = false := by simpa using hi1
                repeat (first | with_reducible (first | refine W_seq ?_ | refine W_block ?_ | refine W_scope ?_ | refine W_regionV hTT ?_ | refine W_condV ?_ | refine W_ret ?_ | refine W_exit ?_ | refine W_skip ?_ | refine W_label ?_ | refine W_drawV hTT (by kernel_rfl) ?_) | simp only [H0, J86, J87, und3, und4, und22, und26, und29, und45, und64, info3, info4, info22, info26, info29, info45, info64, info50, aggT, gv, dstAt, aop, evalsA, partsA, evalO, updO, ofArgs, binV, intBin, unV, mmV, builtinA, Nat.reduceLT, Nat.reduceEqDiff, Nat.reduceAdd, Nat.reduceSub, Nat.reduceMul, ↓reduceIte, reduceCtorEq, t0, t1, t5, t7, t8, hla, e2])
                refine NQ_intro ⟨rfl, rfl, ⟨1, by omega, by simp only [H0, J86, J87, und3, und4, und22, und26, und29, und45, und64, info3, info4, info22, info26, info29, info45, info64, info50, aggT, gv, dstAt, aop, evalsA, partsA, evalO, updO, ofArgs, binV, intBin, unV, mmV, builtinA, Nat.reduceLT, Nat.reduceEqDiff, Nat.reduceAdd, Nat.reduceSub, Nat.reduceMul, ↓reduceIte, reduceCtorEq]; rfl⟩, by simp only [H0, J86, J87, und3, und4, und22, und26, und29, und45, und64, info3, info4, info22, info26, info29, info45, info64, info50, aggT, gv, dstAt, aop, evalsA, partsA, evalO, updO, ofArgs, binV, intBin, unV, mmV, builtinA, Nat.reduceLT, Nat.reduceEqDiff, Nat.reduceAdd, Nat.reduceSub, Nat.reduceMul, ↓reduceIte, reduceCtorEq, t0], by simp only [H0, J86, J87, und3, und4, und22, und26, und29, und45, und64, info3, info4, info22, info26, info29, info45, info64, info50, aggT, gv, dstAt, aop, evalsA, partsA, evalO, updO, ofArgs, binV, intBin, unV, mmV, builtinA, Nat.reduceLT, Nat.reduceEqDiff, Nat.reduceAdd, Nat.reduceSub, Nat.reduceMul, ↓reduceIte, reduceCtorEq, t1], by simp only [H0, J86, J87, und3, und4, und22, und26, und29, und45, und64, info3, info4, info22, info26, info29, info45, info64, info50, aggT, gv, dstAt, aop, evalsA, partsA, evalO, updO, ofArgs, binV, intBin, unV, mmV, builtinA, Nat.reduceLT, Nat.reduceEqDiff, Nat.reduceAdd, Nat.reduceSub, Nat.reduceMul, ↓reduceIte, reduceCtorEq, t5], by simp only [H0, J86, J87, und3, und4, und22, und26, und29, und45, und64, info3, info4, info22, info26, info29, info45, info64, info50, aggT, gv, dstAt, aop, evalsA, partsA, evalO, updO, ofArgs, binV, intBin, unV, mmV, builtinA, Nat.reduceLT, Nat.reduceEqDiff, Nat.reduceAdd, Nat.reduceSub, Nat.reduceMul, ↓reduceIte, reduceCtorEq, t7], by simp only [H0, J86, J87, und3, und4, und22, und26, und29, und45, und64, info3, info4, info22, info26, info29, info45, info64, info50, aggT, gv, dstAt, aop, evalsA, partsA, evalO, updO, ofArgs, binV, intBin, unV, mmV, builtinA, Nat.reduceLT, Nat.reduceEqDiff, Nat.reduceAdd, Nat.reduceSub, Nat.reduceMul, ↓reduceIte, reduceCtorEq, t8]⟩
            · rintro τ' ds' S2 ⟨rfl, rfl, ⟨r, hr, t9⟩, t0, t1, t5, t7, t8⟩
              have ib : i < bs.length := by omega
              have jb : j < bs.length := by omega
              obtain ⟨p, p1, p2⟩ := rows_at (T := TT) (k := .i64) hM.sl hbs und22 info26 und26 rfl ib
              obtain ⟨q, q1, q2⟩ := rows_at (T := TT) (k := .i64) hM.sl hbs und22 info26 und26 rfl jb
              have a1 : indexAddrA TT 26 (.int .i64 j) (rowv n bs[i]) = some (.pointer (some ⟨bs[i], j, none⟩)) := arr_index und26 info3 rfl hjn
              have a2 : indexAddrA TT 26 (.int .i64 i) (rowv n bs[j]) = some (.pointer (some ⟨bs[j], i, none⟩)) := arr_index und26 info3 rfl hlt
              obtain ⟨s1, hR1⟩ := hR.store (T := TT) hE.ok info3 ib hjn r
              have g1 := lt_of_get (hR.get i ib)
              have hE1 := hE.set (.cells (iv (mrow n (setM M i j r i))) 3 0) (hR.lo i ib) g1
              have hM1 : Mine (S2.set bs[i] (.cells (iv (mrow n (setM M i j r i))) 3 0)) 26 1 S.n v5 (bs.map (rowv n)) n := hM.same fun b hb => get_set_ne _ g1 fun e => by
                subst e
                rcases hM with ⟨rfl, _⟩ | ⟨b1, rfl, _, h2, _⟩
                · cases hb
                · cases hb
                  rw [hR.get i ib] at h2
                  simp at h2
              obtain ⟨s2, hR2⟩ := hR1.store (T := TT) hE1.ok info3 jb hlt (1 - r)
              have g2 := lt_of_get (hR1.get j jb)
              have hE2 := hE1.set (.cells (iv (mrow n (setM (setM M i j r) j i (1 - r) j))) 3 0) (hR.lo j jb) g2
              have hM2 := hM1.same (S' := (S2.set bs[i] (.cells (iv (mrow n (setM M i j r i))) 3 0)).set bs[j] (.cells (iv (mrow n (setM (setM M i j r) j i (1 - r) j))) 3 0)) fun b hb => get_set_ne _ g2 fun e => by
                subst e
                rcases hM1 with ⟨rfl, _⟩ | ⟨b1, rfl, _, h2, _⟩
                · cases hb
                · cases hb
                  rw [hR1.get j jb] at h2
                  simp at h2
              have hw1 : IntKind.i64.wrap (1 - (r : Int)) = 1 - r := wrap_id (by omega) (by omega)
              repeat (first | with_reducible (first | refine W_seq ?_ | refine W_block ?_ | refine W_scope ?_ | refine W_regionV hTT ?_ | refine W_condV ?_ | refine W_ret ?_ | refine W_exit ?_ | refine W_skip ?_ | refine W_label ?_ | refine W_drawV hTT (by kernel_rfl) ?_) | simp only [H0, J86, J87, und3, und4, und22, und26, und29, und45, und64, info3, info4, info22, info26, info29, info45, info64, info50, aggT, gv, dstAt, aop, evalsA, partsA, evalO, updO, ofArgs, binV, intBin, unV, mmV, builtinA, Nat.reduceLT, Nat.reduceEqDiff, Nat.reduceAdd, Nat.reduceSub, Nat.reduceMul, ↓reduceIte, reduceCtorEq, t0, t1, t5, t7, t8, t9, p1, p2, q1, q2, a1, a2, s1, s2, hw1, hw])
              refine LoopQ_intro (n - (j + 1)) (by omega) ⟨hE2, rfl, j + 1, _, rfl, by omega, by omega, by simp only [H0, J86, J87, und3, und4, und22, und26, und29, und45, und64, info3, info4, info22, info26, info29, info45, info64, info50, aggT, gv, dstAt, aop, evalsA, partsA, evalO, updO, ofArgs, binV, intBin, unV, mmV, builtinA, Nat.reduceLT, Nat.reduceEqDiff, Nat.reduceAdd, Nat.reduceSub, Nat.reduceMul, ↓reduceIte, reduceCtorEq, t0], by simp only [H0, J86, J87, und3, und4, und22, und26, und29, und45, und64, info3, info4, info22, info26, info29, info45, info64, info50, aggT, gv, dstAt, aop, evalsA, partsA, evalO, updO, ofArgs, binV, intBin, unV, mmV, builtinA, Nat.reduceLT, Nat.reduceEqDiff, Nat.reduceAdd, Nat.reduceSub, Nat.reduceMul, ↓reduceIte, reduceCtorEq, t1], by simp only [H0, J86, J87, und3, und4, und22, und26, und29, und45, und64, info3, info4, info22, info26, info29, info45, info64, info50, aggT, gv, dstAt, aop, evalsA, partsA, evalO, updO, ofArgs, binV, intBin, unV, mmV, builtinA, Nat.reduceLT, Nat.reduceEqDiff, Nat.reduceAdd, Nat.reduceSub, Nat.reduceMul, ↓reduceIte, reduceCtorEq, t5], by simp only [H0, J86, J87, und3, und4, und22, und26, und29, und45, und64, info3, info4, info22, info26, info29, info45, info64, info50, aggT, gv, dstAt, aop, evalsA, partsA, evalO, updO, ofArgs, binV, intBin, unV, mmV, builtinA, Nat.reduceLT, Nat.reduceEqDiff, Nat.reduceAdd, Nat.reduceSub, Nat.reduceMul, ↓reduceIte, reduceCtorEq, t7], by simp only [H0, J86, J87, und3, und4, und22, und26, und29, und45, und64, info3, info4, info22, info26, info29, info45, info64, info50, aggT, gv, dstAt, aop, evalsA, partsA, evalO, updO, ofArgs, binV, intBin, unV, mmV, builtinA, Nat.reduceLT, Nat.reduceEqDiff, Nat.reduceAdd, Nat.reduceSub, Nat.reduceMul, ↓reduceIte, reduceCtorEq, t8, hw], hM2, hR2, hP.step hij (by omega)⟩
          · have e1 : decide ((j : Int) < n) = false := by simpa using hjn
            have hjj : j = n := by omega
            subst hjj
            have hw := wrap_succ (k := i) (by omega)
            repeat (first | with_reducible (first | refine W_seq ?_ | refine W_block ?_ | refine W_scope ?_ | refine W_regionV hTT ?_ | refine W_condV ?_ | refine W_ret ?_ | refine W_exit ?_ | refine W_skip ?_ | refine W_label ?_ | refine W_drawV hTT (by kernel_rfl) ?_) | simp only [H0, J86, J87, und3, und4, und22, und26, und29, und45, und64, info3, info4, info22, info26, info29, info45, info64, info50, aggT, gv, dstAt, aop, evalsA, partsA, evalO, updO, ofArgs, binV, intBin, unV, mmV, builtinA, Nat.reduceLT, Nat.reduceEqDiff, Nat.reduceAdd, Nat.reduceSub, Nat.reduceMul, ↓reduceIte, reduceCtorEq, t0, t1, t5, t7, t8, e1, hw])
            refine LoopQ_intro (j - (i + 1)) (by omega) ⟨hE, rfl, i + 1, M, rfl, by omega, by simp only [H0, J86, J87, und3, und4, und22, und26, und29, und45, und64, info3, info4, info22, info26, info29, info45, info64, info50, aggT, gv, dstAt, aop, evalsA, partsA, evalO, updO, ofArgs, binV, intBin, unV, mmV, builtinA, Nat.reduceLT, Nat.reduceEqDiff, Nat.reduceAdd, Nat.reduceSub, Nat.reduceMul, ↓reduceIte, reduceCtorEq, t0], by simp only [H0, J86, J87, und3, und4, und22, und26, und29, und45, und64, info3, info4, info22, info26, info29, info45, info64, info50, aggT, gv, dstAt, aop, evalsA, partsA, evalO, updO, ofArgs, binV, intBin, unV, mmV, builtinA, Nat.reduceLT, Nat.reduceEqDiff, Nat.reduceAdd, Nat.reduceSub, Nat.reduceMul, ↓reduceIte, reduceCtorEq, t1], by simp only [H0, J86, J87, und3, und4, und22, und26, und29, und45, und64, info3, info4, info22, info26, info29, info45, info64, info50, aggT, gv, dstAt, aop, evalsA, partsA, evalO, updO, ofArgs, binV, intBin, unV, mmV, builtinA, Nat.reduceLT, Nat.reduceEqDiff, Nat.reduceAdd, Nat.reduceSub, Nat.reduceMul, ↓reduceIte, reduceCtorEq, t5], by simp only [H0, J86, J87, und3, und4, und22, und26, und29, und45, und64, info3, info4, info22, info26, info29, info45, info64, info50, aggT, gv, dstAt, aop, evalsA, partsA, evalO, updO, ofArgs, binV, intBin, unV, mmV, builtinA, Nat.reduceLT, Nat.reduceEqDiff, Nat.reduceAdd, Nat.reduceSub, Nat.reduceMul, ↓reduceIte, reduceCtorEq, t7, hw], hM, hR, hP.next⟩
      · have e1 : decide ((i : Int) < n) = false := by simpa using hlt
        repeat (first | with_reducible (first | refine W_seq ?_ | refine W_block ?_ | refine W_scope ?_ | refine W_regionV hTT ?_ | refine W_condV ?_ | refine W_ret ?_ | refine W_exit ?_ | refine W_skip ?_ | refine W_label ?_ | refine W_drawV hTT (by kernel_rfl) ?_) | simp only [H0, J86, J87, und3, und4, und22, und26, und29, und45, und64, info3, info4, info22, info26, info29, info45, info64, info50, aggT, gv, dstAt, aop, evalsA, partsA, evalO, updO, ofArgs, binV, intBin, unV, mmV, builtinA, Nat.reduceLT, Nat.reduceEqDiff, Nat.reduceAdd, Nat.reduceSub, Nat.reduceMul, ↓reduceIte, reduceCtorEq, t0, t1, t5, t7, e1])
        exact ⟨⟨M, hP.all (by omega), hR.mat hM.sl hbs (by omega)⟩, hM.plain, hE⟩
end Go.Proofs.Sz
end
/- part Zo -/
section
namespace Go.Proofs.Sz
open Go Go.Ax Go.Proofs Go.RowKit
theorem sum_map_get (rows : List (List Int)) (k : Nat) (h : k < rows.length) : (rows.take (k + 1)).map List.sum = (rows.take k).map List.sum ++ [rows[k].sum] := by
  rw [List.take_succ_eq_append_getElem h, List.map_append]
  rfl
theorem fn9 : TT.fn 9 = some Tryz.f9 := by kernel_rfl
/-- the reference's Scores -/
theorem scores_call {S : St} (hok : S.ok) {vl : Value} {rows : List (List Int)} (hx : Mat S vl rows) (hl : rows.length < 31) (hr : ∀ r ∈ rows, r.length < 31 ∧ ∀ x ∈ r, 0 ≤ x ∧ x < 1000) :
    CallW PP 9 [vl] S (fun v S' => Mine S' 3 1 S.n v (iv (rows.map List.sum)) rows.length ∧ Ext S S') := by
  refine CallW_of hTT fn9 rfl (by simp [Tryz.f9]) ?_
  unfold Tryz.f9
  repeat (first | with_reducible (first | refine W_seq ?_ | refine W_block ?_ | refine W_scope ?_ | refine W_regionV hTT ?_ | refine W_condV ?_ | refine W_ret ?_ | refine W_exit ?_ | refine W_skip ?_ | refine W_label ?_ | refine W_drawV hTT (by kernel_rfl) ?_) | simp only [H0, J86, J87, und3, und4, und22, und26, und29, und45, und64, info3, info4, info22, info26, info29, info45, info64, info50, aggT, gv, dstAt, aop, evalsA, partsA, evalO, updO, ofArgs, binV, intBin, unV, mmV, builtinA, Nat.reduceLT, Nat.reduceEqDiff, Nat.reduceAdd, Nat.reduceSub, Nat.reduceMul, ↓reduceIte, reduceCtorEq])
  refine W_loopI (fun m τ ds S' => Ext S S' ∧ ds = [] ∧ ∃ (k : Nat) (v3 : Value), m = rows.length - k ∧ k ≤ rows.length ∧ τ 0 = vl ∧ τ 3 = v3 ∧ τ 4 = .int .i64 k ∧ Mine S' 3 1 S.n v3 (iv ((rows.take k).map List.sum)) k) rows.length ?_ ?_
  · refine ⟨Ext.refl hok, rfl, 0, .slice none 0 0, by simp, by simp, ?_, ?_, ?_, Mine.nil _ _ _ _⟩ <;> first | rfl | simp only [H0, J86, J87, und3, und4, und22, und26, und29, und45, und64, info3, info4, info22, info26, info29, info45, info64, info50, aggT, gv, dstAt, aop, evalsA, partsA, evalO, updO, ofArgs, binV, intBin, unV, mmV, builtinA, Nat.reduceLT, Nat.reduceEqDiff, Nat.reduceAdd, Nat.reduceSub, Nat.reduceMul, ↓reduceIte, reduceCtorEq]
  · rintro m τ ds S' ⟨hE, rfl, k, v3, rfl, hk, t0, t3, t4, hM⟩
    have hx' := hx.extd hE
    have hla := hx'.len (T := TT) und22
    by_cases hlt : k < rows.length
    · have e1 : decide ((k : Int) < rows.length) = true := by simpa using hlt
      obtain ⟨p, rv, p1, p2, hrow, _⟩ := hx'.row (T := TT) (k := .i64) und22 info26 und26 rfl hlt
      have hrl := hr _ (List.getElem_mem hlt)
      have hw := wrap_succ (k := k) (by omega)
      repeat (first | with_reducible (first | refine W_seq ?_ | refine W_block ?_ | refine W_scope ?_ | refine W_regionV hTT ?_ | refine W_condV ?_ | refine W_ret ?_ | refine W_exit ?_ | refine W_skip ?_ | refine W_label ?_ | refine W_drawV hTT (by kernel_rfl) ?_) | simp only [H0, J86, J87, und3, und4, und22, und26, und29, und45, und64, info3, info4, info22, info26, info29, info45, info64, info50, aggT, gv, dstAt, aop, evalsA, partsA, evalO, updO, ofArgs, binV, intBin, unV, mmV, builtinA, Nat.reduceLT, Nat.reduceEqDiff, Nat.reduceAdd, Nat.reduceSub, Nat.reduceMul, ↓reduceIte, reduceCtorEq, hla, t0, t3, t4, e1, p1, p2, hw])
      refine VCall_intro (total_call hrow (by omega) hrl.2) ?_
      rintro v S1 ⟨rfl, rfl⟩
      have b1 := bs_one (T := TT) (S := S1) (x := .int .i64 rows[k].sum) und26 info3 rfl rfl rfl
      obtain ⟨v', S2, a1, a2, a3, a4⟩ := hM.push_one (T := TT) (x := .int .i64 rows[k].sum) hE.ok hE.n und26 info3 rfl rfl (by omega) (by omega)
      have hE2 : Ext S S2 := a3.ext hE fun b hb => (hM.base hb).1
      repeat (first | with_reducible (first | refine W_seq ?_ | refine W_block ?_ | refine W_scope ?_ | refine W_regionV hTT ?_ | refine W_condV ?_ | refine W_ret ?_ | refine W_exit ?_ | refine W_skip ?_ | refine W_label ?_ | refine W_drawV hTT (by kernel_rfl) ?_) | simp only [H0, J86, J87, und3, und4, und22, und26, und29, und45, und64, info3, info4, info22, info26, info29, info45, info64, info50, aggT, gv, dstAt, aop, evalsA, partsA, evalO, updO, ofArgs, binV, intBin, unV, mmV, builtinA, Nat.reduceLT, Nat.reduceEqDiff, Nat.reduceAdd, Nat.reduceSub, Nat.reduceMul, ↓reduceIte, reduceCtorEq, t0, t3, t4, b1, a1, hw])
      refine LoopQ_intro (rows.length - (k + 1)) (by omega) ⟨hE2, rfl, k + 1, v', rfl, by omega, by simp only [H0, J86, J87, und3, und4, und22, und26, und29, und45, und64, info3, info4, info22, info26, info29, info45, info64, info50, aggT, gv, dstAt, aop, evalsA, partsA, evalO, updO, ofArgs, binV, intBin, unV, mmV, builtinA, Nat.reduceLT, Nat.reduceEqDiff, Nat.reduceAdd, Nat.reduceSub, Nat.reduceMul, ↓reduceIte, reduceCtorEq, t0], by simp only [H0, J86, J87, und3, und4, und22, und26, und29, und45, und64, info3, info4, info22, info26, info29, info45, info64, info50, aggT, gv, dstAt, aop, evalsA, partsA, evalO, updO, ofArgs, binV, intBin, unV, mmV, builtinA, Nat.reduceLT, Nat.reduceEqDiff, Nat.reduceAdd, Nat.reduceSub, Nat.reduceMul, ↓reduceIte, reduceCtorEq], by simp only [H0, J86, J87, und3, und4, und22, und26, und29, und45, und64, info3, info4, info22, info26, info29, info45, info64, info50, aggT, gv, dstAt, aop, evalsA, partsA, evalO, updO, ofArgs, binV, intBin, unV, mmV, builtinA, Nat.reduceLT, Nat.reduceEqDiff, Nat.reduceAdd, Nat.reduceSub, Nat.reduceMul, ↓reduceIte, reduceCtorEq, t4, hw], ?_⟩
      rw [sum_map_get _ _ hlt, ← iv_append]
      exact a2
    · have e1 : decide ((k : Int) < rows.length) = false := by simpa using hlt
      have hkk : k = rows.length := by omega
      subst hkk
      rw [List.take_length] at hM
      repeat (first | with_reducible (first | refine W_seq ?_ | refine W_block ?_ | refine W_scope ?_ | refine W_regionV hTT ?_ | refine W_condV ?_ | refine W_ret ?_ | refine W_exit ?_ | refine W_skip ?_ | refine W_label ?_ | refine W_drawV hTT (by kernel_rfl) ?_) | simp only [H0, J86, J87, und3, und4, und22, und26, und29, und45, und64, info3, info4, info22, info26, info29, info45, info64, info50, aggT, gv, dstAt, aop, evalsA, partsA, evalO, updO, ofArgs, binV, intBin, unV, mmV, builtinA, Nat.reduceLT, Nat.reduceEqDiff, Nat.reduceAdd, Nat.reduceSub, Nat.reduceMul, ↓reduceIte, reduceCtorEq, hla, t0, t3, t4, e1])
      exact ⟨hM, hE⟩
theorem fn54 : TT.fn 54 = some Tryz.f54 := by kernel_rfl
theorem fn48 : TT.fn 48 = some Tryz.f48 := by kernel_rfl
theorem notCoin_call (S : St) (x : Int) : CallW PP 54 ([.int .i64 x] ++ []) S (fun v S' => v = .bool (!decide (0 ≤ x ∧ x ≤ 1)) ∧ S' = S) := by
  refine CallW_of hTT fn54 rfl (by simp [Tryz.f54]) ?_
  unfold Tryz.f54
  repeat (first | with_reducible (first | refine W_seq ?_ | refine W_block ?_ | refine W_scope ?_ | refine W_regionV hTT ?_ | refine W_condV ?_ | refine W_ret ?_ | refine W_exit ?_ | refine W_skip ?_ | refine W_label ?_ | refine W_drawV hTT (by kernel_rfl) ?_) | simp only [H0, J86, J87, und3, und4, und22, und26, und29, und45, und64, info3, info4, info22, info26, info29, info45, info64, info50, aggT, gv, dstAt, aop, evalsA, partsA, evalO, updO, ofArgs, binV, intBin, unV, mmV, builtinA, Nat.reduceLT, Nat.reduceEqDiff, Nat.reduceAdd, Nat.reduceSub, Nat.reduceMul, ↓reduceIte, reduceCtorEq])
  refine VCall_intro (within_call S x 0 1) ?_
  rintro v S' ⟨rfl, rfl⟩
  repeat (first | with_reducible (first | refine W_seq ?_ | refine W_block ?_ | refine W_scope ?_ | refine W_regionV hTT ?_ | refine W_condV ?_ | refine W_ret ?_ | refine W_exit ?_ | refine W_skip ?_ | refine W_label ?_ | refine W_drawV hTT (by kernel_rfl) ?_) | simp only [H0, J86, J87, und3, und4, und22, und26, und29, und45, und64, info3, info4, info22, info26, info29, info45, info64, info50, aggT, gv, dstAt, aop, evalsA, partsA, evalO, updO, ofArgs, binV, intBin, unV, mmV, builtinA, Nat.reduceLT, Nat.reduceEqDiff, Nat.reduceAdd, Nat.reduceSub, Nat.reduceMul, ↓reduceIte, reduceCtorEq])
theorem notScore_call (S : St) (x : Int) : CallW PP 48 ([.int .i64 x] ++ []) S (fun v S' => v = .bool (!decide (0 ≤ x ∧ x ≤ 30)) ∧ S' = S) := by
  refine CallW_of hTT fn48 rfl (by simp [Tryz.f48]) ?_
  unfold Tryz.f48
  repeat (first | with_reducible (first | refine W_seq ?_ | refine W_block ?_ | refine W_scope ?_ | refine W_regionV hTT ?_ | refine W_condV ?_ | refine W_ret ?_ | refine W_exit ?_ | refine W_skip ?_ | refine W_label ?_ | refine W_drawV hTT (by kernel_rfl) ?_) | simp only [H0, J86, J87, und3, und4, und22, und26, und29, und45, und64, info3, info4, info22, info26, info29, info45, info64, info50, aggT, gv, dstAt, aop, evalsA, partsA, evalO, updO, ofArgs, binV, intBin, unV, mmV, builtinA, Nat.reduceLT, Nat.reduceEqDiff, Nat.reduceAdd, Nat.reduceSub, Nat.reduceMul, ↓reduceIte, reduceCtorEq])
  refine VCall_intro (within_call S x 0 30) ?_
  rintro v S' ⟨rfl, rfl⟩
  repeat (first | with_reducible (first | refine W_seq ?_ | refine W_block ?_ | refine W_scope ?_ | refine W_regionV hTT ?_ | refine W_condV ?_ | refine W_ret ?_ | refine W_exit ?_ | refine W_skip ?_ | refine W_label ?_ | refine W_drawV hTT (by kernel_rfl) ?_) | simp only [H0, J86, J87, und3, und4, und22, und26, und29, und45, und64, info3, info4, info22, info26, info29, info45, info64, info50, aggT, gv, dstAt, aop, evalsA, partsA, evalO, updO, ofArgs, binV, intBin, unV, mmV, builtinA, Nat.reduceLT, Nat.reduceEqDiff, Nat.reduceAdd, Nat.reduceSub, Nat.reduceMul, ↓reduceIte, reduceCtorEq])
theorem fn25 : TT.fn 25 = some Tryz.f25 := by kernel_rfl
/-- areNumbers, of numbers -/
theorem areNumbers_yes {S : St} {va : Value} {xs : List Int} (ha : Sl S 1 va (iv xs) xs.length) (hl : xs.length ≤ 30) (hb : ∀ x ∈ xs, 0 ≤ x ∧ x ≤ 30) :
    CallW PP 25 [va] S (fun v S' => v = .bool true ∧ S' = S) := by
  have hla := ha.len (T := TT) und26
  have e1 : decide ((xs.length : Int) ≤ 30) = true := by simp; omega
  refine CallW_of hTT fn25 rfl (by simp [Tryz.f25]) ?_
  unfold Tryz.f25
  repeat (first | with_reducible (first | refine W_seq ?_ | refine W_block ?_ | refine W_scope ?_ | refine W_regionV hTT ?_ | refine W_condV ?_ | refine W_ret ?_ | refine W_exit ?_ | refine W_skip ?_ | refine W_label ?_ | refine W_drawV hTT (by kernel_rfl) ?_) | simp only [H0, J86, J87, und3, und4, und22, und26, und29, und45, und64, info3, info4, info22, info26, info29, info45, info64, info50, aggT, gv, dstAt, aop, evalsA, partsA, evalO, updO, ofArgs, binV, intBin, unV, mmV, builtinA, Nat.reduceLT, Nat.reduceEqDiff, Nat.reduceAdd, Nat.reduceSub, Nat.reduceMul, ↓reduceIte, reduceCtorEq, hla, e1, fnOk_func])
  refine VCall_intro (containsFunc_call ha (by omega) (fun x _ => notScore_call S x)) ?_
  rintro v S' ⟨rfl, rfl⟩
  have h0 : xs.any (fun x => !decide (0 ≤ x ∧ x ≤ 30)) = false := by
    rw [List.any_eq_false]
    intro x hx
    simp only [Bool.not_eq_true', decide_eq_false_iff_not]
    exact fun h => h (hb x hx)
  repeat (first | with_reducible (first | refine W_seq ?_ | refine W_block ?_ | refine W_scope ?_ | refine W_regionV hTT ?_ | refine W_condV ?_ | refine W_ret ?_ | refine W_exit ?_ | refine W_skip ?_ | refine W_label ?_ | refine W_drawV hTT (by kernel_rfl) ?_) | simp only [H0, J86, J87, und3, und4, und22, und26, und29, und45, und64, info3, info4, info22, info26, info29, info45, info64, info50, aggT, gv, dstAt, aop, evalsA, partsA, evalO, updO, ofArgs, binV, intBin, unV, mmV, builtinA, Nat.reduceLT, Nat.reduceEqDiff, Nat.reduceAdd, Nat.reduceSub, Nat.reduceMul, ↓reduceIte, reduceCtorEq, h0])
theorem fn31 : TT.fn 31 = some Tryz.f31 := by kernel_rfl
theorem IsC.coin {n : Nat} {M : Nat → Nat → Int} (h : IsC n M) {i j : Nat} (hi : i < n) (hj : j < n) : M i j = 0 ∨ M i j = 1 := by
  by_cases e : i = j
  · exact .inl ((h i j hi hj).1 e)
  · exact ((h i j hi hj).2 e).1
theorem IsC.row {n : Nat} {M : Nat → Nat → Int} (h : IsC n M) {i : Nat} (hi : i < n) : ∀ x ∈ mrow n (M i), x = 0 ∨ x = 1 := by
  intro x hx
  unfold mrow at hx
  rw [List.mem_map] at hx
  obtain ⟨j, hj, rfl⟩ := hx
  exact h.coin hi (List.mem_range.1 hj)
set_option maxHeartbeats 4000000 in
/-- isContest, of a contest -/
theorem isContest_yes {S : St} {vl : Value} {n : Nat} {M : Nat → Nat → Int} (hx : Mat S vl (mrows n n M)) (hn : n < 31) (hC : IsC n M) :
    CallW PP 31 [vl] S (fun v S' => v = .bool true ∧ S' = S) := by
  have hla := hx.len (T := TT) und22
  rw [mrows_len] at hla
  have e0 : decide ((n : Int) > 30) = false := by simp; omega
  refine CallW_of hTT fn31 rfl (by simp [Tryz.f31]) ?_
  unfold Tryz.f31
  repeat (first | with_reducible (first | refine W_seq ?_ | refine W_scope ?_ | refine W_regionV hTT ?_ | refine W_condV ?_ | refine W_ret ?_ | refine W_exit ?_ | refine W_skip ?_ | refine W_label ?_ | refine W_drawV hTT (by kernel_rfl) ?_) | simp only [H0, J86, J87, und3, und4, und22, und26, und29, und45, und64, info3, info4, info22, info26, info29, info45, info64, info50, aggT, gv, dstAt, aop, evalsA, partsA, evalO, updO, ofArgs, binV, intBin, unV, mmV, builtinA, Nat.reduceLT, Nat.reduceEqDiff, Nat.reduceAdd, Nat.reduceSub, Nat.reduceMul, ↓reduceIte, reduceCtorEq, hla, e0])
  refine W_cut (fun τ ds S' => S' = S ∧ ds = [] ∧ τ 0 = vl) ?_ ?_
  · refine W_block ?_
    refine W_loopI (fun m τ ds S' => S' = S ∧ ds = [] ∧ ∃ k : Nat, m = n - k ∧ k ≤ n ∧ τ 0 = vl ∧ τ 12 = vl ∧ τ 13 = .int .i64 n ∧ τ 14 = .int .i64 k) n ?_ ?_
    · refine ⟨rfl, rfl, 0, by simp, by simp, ?_, ?_, ?_, ?_⟩ <;> first | rfl | simp only [H0, J86, J87, und3, und4, und22, und26, und29, und45, und64, info3, info4, info22, info26, info29, info45, info64, info50, aggT, gv, dstAt, aop, evalsA, partsA, evalO, updO, ofArgs, binV, intBin, unV, mmV, builtinA, Nat.reduceLT, Nat.reduceEqDiff, Nat.reduceAdd, Nat.reduceSub, Nat.reduceMul, ↓reduceIte, reduceCtorEq]
    · rintro m τ ds S' ⟨rfl, rfl, k, rfl, hk, t0, t12, t13, t14⟩
      by_cases hlt : k < n
      · have e1 : decide ((k : Int) < n) = true := by simpa using hlt
        obtain ⟨p, rv, p1, p2, hrow, _⟩ := hx.row (T := TT) (k := .i64) und22 info26 und26 rfl (by rw [mrows_len]; exact hlt)
        rw [mrows_get] at hrow
        have hlb := hrow.len (T := TT) und26
        rw [mrow_len] at hlb
        have hw := wrap_succ (k := k) (by omega)
        repeat (first | with_reducible (first | refine W_seq ?_ | refine W_block ?_ | refine W_scope ?_ | refine W_regionV hTT ?_ | refine W_condV ?_ | refine W_ret ?_ | refine W_exit ?_ | refine W_skip ?_ | refine W_label ?_ | refine W_drawV hTT (by kernel_rfl) ?_) | simp only [H0, J86, J87, und3, und4, und22, und26, und29, und45, und64, info3, info4, info22, info26, info29, info45, info64, info50, aggT, gv, dstAt, aop, evalsA, partsA, evalO, updO, ofArgs, binV, intBin, unV, mmV, builtinA, Nat.reduceLT, Nat.reduceEqDiff, Nat.reduceAdd, Nat.reduceSub, Nat.reduceMul, ↓reduceIte, reduceCtorEq, hla, t0, t12, t13, t14, e1, p1, p2, hlb, bne_self_eq_false, fnOk_func])
        refine VCall_intro (containsFunc_call hrow (by rw [mrow_len]; omega) (fun x _ => notCoin_call S' x)) ?_
        rintro v S3 ⟨rfl, rfl⟩
        have h0 : (mrow n (M k)).any (fun x => !decide (0 ≤ x ∧ x ≤ 1)) = false := by
          rw [List.any_eq_false]
          intro x hx
          simp only [Bool.not_eq_true', decide_eq_false_iff_not]
          have := hC.row hlt x hx
          exact fun h => h (by omega)
        repeat (first | with_reducible (first | refine W_seq ?_ | refine W_block ?_ | refine W_scope ?_ | refine W_regionV hTT ?_ | refine W_condV ?_ | refine W_ret ?_ | refine W_exit ?_ | refine W_skip ?_ | refine W_label ?_ | refine W_drawV hTT (by kernel_rfl) ?_) | simp only [H0, J86, J87, und3, und4, und22, und26, und29, und45, und64, info3, info4, info22, info26, info29, info45, info64, info50, aggT, gv, dstAt, aop, evalsA, partsA, evalO, updO, ofArgs, binV, intBin, unV, mmV, builtinA, Nat.reduceLT, Nat.reduceEqDiff, Nat.reduceAdd, Nat.reduceSub, Nat.reduceMul, ↓reduceIte, reduceCtorEq, h0, t0, t12, t13, t14, hw])
        refine LoopQ_intro (n - (k + 1)) (by omega) ⟨rfl, rfl, k + 1, rfl, by omega, by simp only [H0, J86, J87, und3, und4, und22, und26, und29, und45, und64, info3, info4, info22, info26, info29, info45, info64, info50, aggT, gv, dstAt, aop, evalsA, partsA, evalO, updO, ofArgs, binV, intBin, unV, mmV, builtinA, Nat.reduceLT, Nat.reduceEqDiff, Nat.reduceAdd, Nat.reduceSub, Nat.reduceMul, ↓reduceIte, reduceCtorEq, t0], by simp only [H0, J86, J87, und3, und4, und22, und26, und29, und45, und64, info3, info4, info22, info26, info29, info45, info64, info50, aggT, gv, dstAt, aop, evalsA, partsA, evalO, updO, ofArgs, binV, intBin, unV, mmV, builtinA, Nat.reduceLT, Nat.reduceEqDiff, Nat.reduceAdd, Nat.reduceSub, Nat.reduceMul, ↓reduceIte, reduceCtorEq, t12], by simp only [H0, J86, J87, und3, und4, und22, und26, und29, und45, und64, info3, info4, info22, info26, info29, info45, info64, info50, aggT, gv, dstAt, aop, evalsA, partsA, evalO, updO, ofArgs, binV, intBin, unV, mmV, builtinA, Nat.reduceLT, Nat.reduceEqDiff, Nat.reduceAdd, Nat.reduceSub, Nat.reduceMul, ↓reduceIte, reduceCtorEq, t13], by simp only [H0, J86, J87, und3, und4, und22, und26, und29, und45, und64, info3, info4, info22, info26, info29, info45, info64, info50, aggT, gv, dstAt, aop, evalsA, partsA, evalO, updO, ofArgs, binV, intBin, unV, mmV, builtinA, Nat.reduceLT, Nat.reduceEqDiff, Nat.reduceAdd, Nat.reduceSub, Nat.reduceMul, ↓reduceIte, reduceCtorEq, t14, hw]⟩
      · have e1 : decide ((k : Int) < n) = false := by simpa using hlt
        repeat (first | with_reducible (first | refine W_seq ?_ | refine W_block ?_ | refine W_scope ?_ | refine W_regionV hTT ?_ | refine W_condV ?_ | refine W_ret ?_ | refine W_exit ?_ | refine W_skip ?_ | refine W_label ?_ | refine W_drawV hTT (by kernel_rfl) ?_) | simp only [H0, J86, J87, und3, und4, und22, und26, und29, und45, und64, info3, info4, info22, info26, info29, info45, info64, info50, aggT, gv, dstAt, aop, evalsA, partsA, evalO, updO, ofArgs, binV, intBin, unV, mmV, builtinA, Nat.reduceLT, Nat.reduceEqDiff, Nat.reduceAdd, Nat.reduceSub, Nat.reduceMul, ↓reduceIte, reduceCtorEq, t0, t12, t13, t14, e1])
        exact NQ_intro ⟨rfl, rfl, by simp only [H0, J86, J87, und3, und4, und22, und26, und29, und45, und64, info3, info4, info22, info26, info29, info45, info64, info50, aggT, gv, dstAt, aop, evalsA, partsA, evalO, updO, ofArgs, binV, intBin, unV, mmV, builtinA, Nat.reduceLT, Nat.reduceEqDiff, Nat.reduceAdd, Nat.reduceSub, Nat.reduceMul, ↓reduceIte, reduceCtorEq, t0]⟩
  · rintro τ ds S' ⟨rfl, rfl, t0⟩
    repeat (first | with_reducible (first | refine W_seq ?_ | refine W_scope ?_ | refine W_regionV hTT ?_ | refine W_condV ?_ | refine W_ret ?_ | refine W_exit ?_ | refine W_skip ?_ | refine W_label ?_ | refine W_drawV hTT (by kernel_rfl) ?_) | simp only [H0, J86, J87, und3, und4, und22, und26, und29, und45, und64, info3, info4, info22, info26, info29, info45, info64, info50, aggT, gv, dstAt, aop, evalsA, partsA, evalO, updO, ofArgs, binV, intBin, unV, mmV, builtinA, Nat.reduceLT, Nat.reduceEqDiff, Nat.reduceAdd, Nat.reduceSub, Nat.reduceMul, ↓reduceIte, reduceCtorEq, hla, t0])
    refine W_block ?_
    refine W_loopI (fun m τ ds S'' => S'' = S' ∧ ds = [] ∧ ∃ i : Nat, m = n - i ∧ i ≤ n ∧ τ 0 = vl ∧ τ 28 = vl ∧ τ 29 = .int .i64 n ∧ τ 30 = .int .i64 i) n ?_ ?_
    · refine ⟨rfl, rfl, 0, by simp, by simp, ?_, ?_, ?_, ?_⟩ <;> first | rfl | simp only [H0, J86, J87, und3, und4, und22, und26, und29, und45, und64, info3, info4, info22, info26, info29, info45, info64, info50, aggT, gv, dstAt, aop, evalsA, partsA, evalO, updO, ofArgs, binV, intBin, unV, mmV, builtinA, Nat.reduceLT, Nat.reduceEqDiff, Nat.reduceAdd, Nat.reduceSub, Nat.reduceMul, ↓reduceIte, reduceCtorEq, t0]
    · rintro m τ ds S'' ⟨rfl, rfl, i, rfl, hi, t0, t28, t29, t30⟩
      by_cases hlt : i < n
      · have e1 : decide ((i : Int) < n) = true := by simpa using hlt
        obtain ⟨p, rv, p1, p2, hrow, _⟩ := hx.row (T := TT) (k := .i64) und22 info26 und26 rfl (by rw [mrows_len]; exact hlt)
        rw [mrows_get] at hrow
        have hlb := hrow.len (T := TT) und26
        rw [mrow_len] at hlb
        have hw := wrap_succ (k := i) (by omega)
        repeat (first | with_reducible (first | refine W_seq ?_ | refine W_scope ?_ | refine W_regionV hTT ?_ | refine W_condV ?_ | refine W_ret ?_ | refine W_exit ?_ | refine W_skip ?_ | refine W_label ?_ | refine W_drawV hTT (by kernel_rfl) ?_) | simp only [H0, J86, J87, und3, und4, und22, und26, und29, und45, und64, info3, info4, info22, info26, info29, info45, info64, info50, aggT, gv, dstAt, aop, evalsA, partsA, evalO, updO, ofArgs, binV, intBin, unV, mmV, builtinA, Nat.reduceLT, Nat.reduceEqDiff, Nat.reduceAdd, Nat.reduceSub, Nat.reduceMul, ↓reduceIte, reduceCtorEq, hla, t0, t28, t29, t30, e1, p1, p2, hlb])
        refine W_block ?_
        repeat (first | with_reducible (first | refine W_seq ?_ | refine W_scope ?_ | refine W_regionV hTT ?_ | refine W_condV ?_ | refine W_ret ?_ | refine W_exit ?_ | refine W_skip ?_ | refine W_label ?_ | refine W_drawV hTT (by kernel_rfl) ?_) | simp only [H0, J86, J87, und3, und4, und22, und26, und29, und45, und64, info3, info4, info22, info26, info29, info45, info64, info50, aggT, gv, dstAt, aop, evalsA, partsA, evalO, updO, ofArgs, binV, intBin, unV, mmV, builtinA, Nat.reduceLT, Nat.reduceEqDiff, Nat.reduceAdd, Nat.reduceSub, Nat.reduceMul, ↓reduceIte, reduceCtorEq, hla, t0, t28, t29, t30, p1, p2, hlb])
        refine W_block ?_
        refine W_loopI (fun m τ ds S3 => S3 = S'' ∧ ds = [] ∧ ∃ j : Nat, m = n - j ∧ j ≤ n ∧ τ 0 = vl ∧ τ 28 = vl ∧ τ 29 = .int .i64 n ∧ τ 30 = .int .i64 i ∧ τ 5 = .int .i64 i ∧ τ 35 = rv ∧ τ 36 = .int .i64 n ∧ τ 37 = .int .i64 j) n ?_ ?_
        · refine ⟨rfl, rfl, 0, by simp, by simp, ?_, ?_, ?_, ?_, ?_, ?_, ?_, ?_⟩ <;> first | rfl | simp only [H0, J86, J87, und3, und4, und22, und26, und29, und45, und64, info3, info4, info22, info26, info29, info45, info64, info50, aggT, gv, dstAt, aop, evalsA, partsA, evalO, updO, ofArgs, binV, intBin, unV, mmV, builtinA, Nat.reduceLT, Nat.reduceEqDiff, Nat.reduceAdd, Nat.reduceSub, Nat.reduceMul, ↓reduceIte, reduceCtorEq, t0, t28, t29, t30]
        · rintro m τ ds S3 ⟨rfl, rfl, j, rfl, hj, t0, t28, t29, t30, t5, t35, t36, t37⟩
          by_cases hjn : j < n
          · have e2 : decide ((j : Int) < n) = true := by simpa using hjn
            obtain ⟨q, q1, q2, _⟩ := hrow.at1 (T := TT) (k := .i64) und26 info3 und3 rfl rfl (i := j) (by rw [mrow_len]; exact hjn)
            rw [iv_get, mrow_get _ hjn] at q2
            obtain ⟨p', rv', p1', p2', hrow', _⟩ := hx.row (T := TT) (k := .i64) und22 info26 und26 rfl (i := j) (by rw [mrows_len]; exact hjn)
            rw [mrows_get] at hrow'
            obtain ⟨q', q1', q2', _⟩ := hrow'.at1 (T := TT) (k := .i64) und26 info3 und3 rfl rfl (i := i) (by rw [mrow_len]; exact hlt)
            rw [iv_get, mrow_get _ hlt] at q2'
            have hw2 := wrap_succ (k := j) (by omega)
            by_cases e : i = j
            · subst e
              have e4 : (M i i != 0) = false := by rw [(hC i i hlt hjn).1 rfl]; rfl
              repeat (first | with_reducible (first | refine W_seq ?_ | refine W_block ?_ | refine W_scope ?_ | refine W_regionV hTT ?_ | refine W_condV ?_ | refine W_ret ?_ | refine W_exit ?_ | refine W_skip ?_ | refine W_label ?_ | refine W_drawV hTT (by kernel_rfl) ?_) | simp only [H0, J86, J87, und3, und4, und22, und26, und29, und45, und64, info3, info4, info22, info26, info29, info45, info64, info50, aggT, gv, dstAt, aop, evalsA, partsA, evalO, updO, ofArgs, binV, intBin, unV, mmV, builtinA, Nat.reduceLT, Nat.reduceEqDiff, Nat.reduceAdd, Nat.reduceSub, Nat.reduceMul, ↓reduceIte, reduceCtorEq, t0, t28, t29, t30, t5, t35, t36, t37, e2, q1, q2, beq_self_eq_true, bne_self_eq_false, e4, hw2])
              refine LoopQ_intro (n - (i + 1)) (by omega) ⟨rfl, rfl, i + 1, rfl, by omega, by simp only [H0, J86, J87, und3, und4, und22, und26, und29, und45, und64, info3, info4, info22, info26, info29, info45, info64, info50, aggT, gv, dstAt, aop, evalsA, partsA, evalO, updO, ofArgs, binV, intBin, unV, mmV, builtinA, Nat.reduceLT, Nat.reduceEqDiff, Nat.reduceAdd, Nat.reduceSub, Nat.reduceMul, ↓reduceIte, reduceCtorEq, t0], by simp only [H0, J86, J87, und3, und4, und22, und26, und29, und45, und64, info3, info4, info22, info26, info29, info45, info64, info50, aggT, gv, dstAt, aop, evalsA, partsA, evalO, updO, ofArgs, binV, intBin, unV, mmV, builtinA, Nat.reduceLT, Nat.reduceEqDiff, Nat.reduceAdd, Nat.reduceSub, Nat.reduceMul, ↓reduceIte, reduceCtorEq, t28], by simp only [H0, J86, J87, und3, und4, und22, und26, und29, und45, und64, info3, info4, info22, info26, info29, info45, info64, info50, aggT, gv, dstAt, aop, evalsA, partsA, evalO, updO, ofArgs, binV, intBin, unV, mmV, builtinA, Nat.reduceLT, Nat.reduceEqDiff, Nat.reduceAdd, Nat.reduceSub, Nat.reduceMul, ↓reduceIte, reduceCtorEq, t29], by simp only [H0, J86, J87, und3, und4, und22, und26, und29, und45, und64, info3, info4, info22, info26, info29, info45, info64, info50, aggT, gv, dstAt, aop, evalsA, partsA, evalO, updO, ofArgs, binV, intBin, unV, mmV, builtinA, Nat.reduceLT, Nat.reduceEqDiff, Nat.reduceAdd, Nat.reduceSub, Nat.reduceMul, ↓reduceIte, reduceCtorEq, t30], by simp only [H0, J86, J87, und3, und4, und22, und26, und29, und45, und64, info3, info4, info22, info26, info29, info45, info64, info50, aggT, gv, dstAt, aop, evalsA, partsA, evalO, updO, ofArgs, binV, intBin, unV, mmV, builtinA, Nat.reduceLT, Nat.reduceEqDiff, Nat.reduceAdd, Nat.reduceSub, Nat.reduceMul, ↓reduceIte, reduceCtorEq, t5], by simp only [H0, J86, J87, und3, und4, und22, und26, und29, und45, und64, info3, info4, info22, info26, info29, info45, info64, info50, aggT, gv, dstAt, aop, evalsA, partsA, evalO, updO, ofArgs, binV, intBin, unV, mmV, builtinA, Nat.reduceLT, Nat.reduceEqDiff, Nat.reduceAdd, Nat.reduceSub, Nat.reduceMul, ↓reduceIte, reduceCtorEq, t35], by simp only [H0, J86, J87, und3, und4, und22, und26, und29, und45, und64, info3, info4, info22, info26, info29, info45, info64, info50, aggT, gv, dstAt, aop, evalsA, partsA, evalO, updO, ofArgs, binV, intBin, unV, mmV, builtinA, Nat.reduceLT, Nat.reduceEqDiff, Nat.reduceAdd, Nat.reduceSub, Nat.reduceMul, ↓reduceIte, reduceCtorEq, t36], by simp only [H0, J86, J87, und3, und4, und22, und26, und29, und45, und64, info3, info4, info22, info26, info29, info45, info64, info50, aggT, gv, dstAt, aop, evalsA, partsA, evalO, updO, ofArgs, binV, intBin, unV, mmV, builtinA, Nat.reduceLT, Nat.reduceEqDiff, Nat.reduceAdd, Nat.reduceSub, Nat.reduceMul, ↓reduceIte, reduceCtorEq, t37, hw2]⟩
            · have e3 : ((i : Int) == j) = false := by rw [beq_eq_false_iff_ne]; omega
              have e3' : ((i : Int) != j) = true := by rw [bne_iff_ne]; omega
              have e4 := (hC i j hlt hjn).2 e
              have hw3 : IntKind.i64.wrap (M i j + M j i) = 1 := by rw [e4.2]; rfl
              repeat (first | with_reducible (first | refine W_seq ?_ | refine W_block ?_ | refine W_scope ?_ | refine W_regionV hTT ?_ | refine W_condV ?_ | refine W_ret ?_ | refine W_exit ?_ | refine W_skip ?_ | refine W_label ?_ | refine W_drawV hTT (by kernel_rfl) ?_) | simp only [H0, J86, J87, und3, und4, und22, und26, und29, und45, und64, info3, info4, info22, info26, info29, info45, info64, info50, aggT, gv, dstAt, aop, evalsA, partsA, evalO, updO, ofArgs, binV, intBin, unV, mmV, builtinA, Nat.reduceLT, Nat.reduceEqDiff, Nat.reduceAdd, Nat.reduceSub, Nat.reduceMul, ↓reduceIte, reduceCtorEq, t0, t28, t29, t30, t5, t35, t36, t37, e2, q1, q2, p1', p2', q1', q2', e3, e3', bne_self_eq_false, hw3, hw2])
              refine LoopQ_intro (n - (j + 1)) (by omega) ⟨rfl, rfl, j + 1, rfl, by omega, by simp only [H0, J86, J87, und3, und4, und22, und26, und29, und45, und64, info3, info4, info22, info26, info29, info45, info64, info50, aggT, gv, dstAt, aop, evalsA, partsA, evalO, updO, ofArgs, binV, intBin, unV, mmV, builtinA, Nat.reduceLT, Nat.reduceEqDiff, Nat.reduceAdd, Nat.reduceSub, Nat.reduceMul, ↓reduceIte, reduceCtorEq, t0], by simp only [H0, J86, J87, und3, und4, und22, und26, und29, und45, und64, info3, info4, info22, info26, info29, info45, info64, info50, aggT, gv, dstAt, aop, evalsA, partsA, evalO, updO, ofArgs, binV, intBin, unV, mmV, builtinA, Nat.reduceLT, Nat.reduceEqDiff, Nat.reduceAdd, Nat.reduceSub, Nat.reduceMul, ↓reduceIte, reduceCtorEq, t28], by simp only [H0, J86, J87, und3, und4, und22, und26, und29, und45, und64, info3, info4, info22, info26, info29, info45, info64, info50, aggT, gv, dstAt, aop, evalsA, partsA, evalO, updO, ofArgs, binV, intBin, unV, mmV, builtinA, Nat.reduceLT, Nat.reduceEqDiff, Nat.reduceAdd, Nat.reduceSub, Nat.reduceMul, ↓reduceIte, reduceCtorEq, t29], by simp only [H0, J86, J87, und3, und4, und22, und26, und29, und45, und64, info3, info4, info22, info26, info29, info45, info64, info50, aggT, gv, dstAt, aop, evalsA, partsA, evalO, updO, ofArgs, binV, intBin, unV, mmV, builtinA, Nat.reduceLT, Nat.reduceEqDiff, Nat.reduceAdd, Nat.reduceSub, Nat.reduceMul, ↓reduceIte, reduceCtorEq, t30], by simp only [H0, J86, J87, und3, und4, und22, und26, und29, und45, und64, info3, info4, info22, info26, info29, info45, info64, info50, aggT, gv, dstAt, aop, evalsA, partsA, evalO, updO, ofArgs, binV, intBin, unV, mmV, builtinA, Nat.reduceLT, Nat.reduceEqDiff, Nat.reduceAdd, Nat.reduceSub, Nat.reduceMul, ↓reduceIte, reduceCtorEq, t5], by simp only [H0, J86, J87, und3, und4, und22, und26, und29, und45, und64, info3, info4, info22, info26, info29, info45, info64, info50, aggT, gv, dstAt, aop, evalsA, partsA, evalO, updO, ofArgs, binV, intBin, unV, mmV, builtinA, Nat.reduceLT, Nat.reduceEqDiff, Nat.reduceAdd, Nat.reduceSub, Nat.reduceMul, ↓reduceIte, reduceCtorEq, t35], by simp only [H0, J86, J87, und3, und4, und22, und26, und29, und45, und64, info3, info4, info22, info26, info29, info45, info64, info50, aggT, gv, dstAt, aop, evalsA, partsA, evalO, updO, ofArgs, binV, intBin, unV, mmV, builtinA, Nat.reduceLT, Nat.reduceEqDiff, Nat.reduceAdd, Nat.reduceSub, Nat.reduceMul, ↓reduceIte, reduceCtorEq, t36], by simp only [H0, J86, J87, und3, und4, und22, und26, und29, und45, und64, info3, info4, info22, info26, info29, info45, info64, info50, aggT, gv, dstAt, aop, evalsA, partsA, evalO, updO, ofArgs, binV, intBin, unV, mmV, builtinA, Nat.reduceLT, Nat.reduceEqDiff, Nat.reduceAdd, Nat.reduceSub, Nat.reduceMul, ↓reduceIte, reduceCtorEq, t37, hw2]⟩
          · have e2 : decide ((j : Int) < n) = false := by simpa using hjn
            repeat (first | with_reducible (first | refine W_seq ?_ | refine W_block ?_ | refine W_scope ?_ | refine W_regionV hTT ?_ | refine W_condV ?_ | refine W_ret ?_ | refine W_exit ?_ | refine W_skip ?_ | refine W_label ?_ | refine W_drawV hTT (by kernel_rfl) ?_) | simp only [H0, J86, J87, und3, und4, und22, und26, und29, und45, und64, info3, info4, info22, info26, info29, info45, info64, info50, aggT, gv, dstAt, aop, evalsA, partsA, evalO, updO, ofArgs, binV, intBin, unV, mmV, builtinA, Nat.reduceLT, Nat.reduceEqDiff, Nat.reduceAdd, Nat.reduceSub, Nat.reduceMul, ↓reduceIte, reduceCtorEq, t0, t28, t29, t30, t5, t35, t36, t37, e2, hw])
            refine LoopQ_intro (n - (i + 1)) (by omega) ⟨rfl, rfl, i + 1, rfl, by omega, by simp only [H0, J86, J87, und3, und4, und22, und26, und29, und45, und64, info3, info4, info22, info26, info29, info45, info64, info50, aggT, gv, dstAt, aop, evalsA, partsA, evalO, updO, ofArgs, binV, intBin, unV, mmV, builtinA, Nat.reduceLT, Nat.reduceEqDiff, Nat.reduceAdd, Nat.reduceSub, Nat.reduceMul, ↓reduceIte, reduceCtorEq, t0], by simp only [H0, J86, J87, und3, und4, und22, und26, und29, und45, und64, info3, info4, info22, info26, info29, info45, info64, info50, aggT, gv, dstAt, aop, evalsA, partsA, evalO, updO, ofArgs, binV, intBin, unV, mmV, builtinA, Nat.reduceLT, Nat.reduceEqDiff, Nat.reduceAdd, Nat.reduceSub, Nat.reduceMul, ↓reduceIte, reduceCtorEq, t28], by simp only [H0, J86, J87, und3, und4, und22, und26, und29, und45, und64, info3, info4, info22, info26, info29, info45, info64, info50, aggT, gv, dstAt, aop, evalsA, partsA, evalO, updO, ofArgs, binV, intBin, unV, mmV, builtinA, Nat.reduceLT, Nat.reduceEqDiff, Nat.reduceAdd, Nat.reduceSub, Nat.reduceMul, ↓reduceIte, reduceCtorEq, t29], by simp only [H0, J86, J87, und3, und4, und22, und26, und29, und45, und64, info3, info4, info22, info26, info29, info45, info64, info50, aggT, gv, dstAt, aop, evalsA, partsA, evalO, updO, ofArgs, binV, intBin, unV, mmV, builtinA, Nat.reduceLT, Nat.reduceEqDiff, Nat.reduceAdd, Nat.reduceSub, Nat.reduceMul, ↓reduceIte, reduceCtorEq, t30, hw]⟩
      · have e1 : decide ((i : Int) < n) = false := by simpa using hlt
        repeat (first | with_reducible (first | refine W_seq ?_ | refine W_block ?_ | refine W_scope ?_ | refine W_regionV hTT ?_ | refine W_condV ?_ | refine W_ret ?_ | refine W_exit ?_ | refine W_skip ?_ | refine W_label ?_ | refine W_drawV hTT (by kernel_rfl) ?_) | simp only [H0, J86, J87, und3, und4, und22, und26, und29, und45, und64, info3, info4, info22, info26, info29, info45, info64, info50, aggT, gv, dstAt, aop, evalsA, partsA, evalO, updO, ofArgs, binV, intBin, unV, mmV, builtinA, Nat.reduceLT, Nat.reduceEqDiff, Nat.reduceAdd, Nat.reduceSub, Nat.reduceMul, ↓reduceIte, reduceCtorEq, t0, t28, t29, t30, e1])
end Go.Proofs.Sz
end
/- part Zp -/
section
namespace Go.Proofs.Sz
open Go Go.Ax Go.Proofs Go.RowKit
/-- v beats one who beats w -/
def viaB (n : Nat) (M : Nat → Nat → Int) (v w : Nat) : Bool := (List.range n).any fun u => M v u == 1 && M u w == 1
def reachB (n : Nat) (M : Nat → Nat → Int) (v w : Nat) : Bool := viaB n M v w || (v == w || M v w == 1)
def kingB (n : Nat) (M : Nat → Nat → Int) (v : Nat) : Bool := (List.range n).all fun w => reachB n M v w
def kings (n : Nat) (M : Nat → Nat → Int) : List Int := ((List.range n).filter (kingB n M)).map fun v : Nat => (v : Int)
theorem viaB_true {n : Nat} {M : Nat → Nat → Int} {v w u : Nat} (hu : u < n) (h1 : M v u = 1) (h2 : M u w = 1) : viaB n M v w = true := by
  unfold viaB
  rw [List.any_eq_true]
  exact ⟨u, List.mem_range.2 hu, by simp [h1, h2]⟩
theorem viaB_false {n : Nat} {M : Nat → Nat → Int} {v w : Nat} (h : ∀ u, u < n → ¬ (M v u = 1 ∧ M u w = 1)) : viaB n M v w = false := by
  unfold viaB
  rw [List.any_eq_false]
  intro u hu
  have := h u (List.mem_range.1 hu)
  simpa using this
theorem fn35 : TT.fn 35 = some Tryz.f35 := by kernel_rfl
set_option maxHeartbeats 4000000 in
/-- Kings' closure -/
theorem reaches_call {S : St} {vl : Value} {n : Nat} {M : Nat → Nat → Int} (hx : Mat S vl (mrows n n M)) (hn : n < 31) (hC : IsC n M) {bl bv v w : Nat} (hl : S.get bl = some (.cells [vl] 22 0)) (hv : S.get bv = some (.cells [.int .i64 v] 3 0)) (h1 : v < n) (h2 : w < n) :
    CallW PP 35 [.int .i64 w, .pointer (some ⟨bl, 0, none⟩), .pointer (some ⟨bv, 0, none⟩)] S (fun r S' => r = .bool (reachB n M v w) ∧ S' = S) := by
  have hla := hx.len (T := TT) und22
  rw [mrows_len] at hla
  have r1 := load_one (o := 0) und22 info22 rfl hl
  have r2 := load_one (o := 0) und3 info3 rfl hv
  simp only [List.getElem?_cons_zero] at r1 r2
  obtain ⟨p, rv, p1, p2, hrow, _⟩ := hx.row (T := TT) (k := .i64) und22 info26 und26 rfl (i := v) (by rw [mrows_len]; exact h1)
  rw [mrows_get] at hrow
  refine CallW_of hTT fn35 rfl (by simp [Tryz.f35]) ?_
  unfold Tryz.f35
  repeat (first | with_reducible (first | refine W_seq ?_ | refine W_scope ?_ | refine W_regionV hTT ?_ | refine W_condV ?_ | refine W_ret ?_ | refine W_exit ?_ | refine W_skip ?_ | refine W_label ?_ | refine W_drawV hTT (by kernel_rfl) ?_) | simp only [H0, J86, J87, und3, und4, und22, und26, und29, und45, und64, info3, info4, info22, info26, info29, info45, info64, info50, aggT, gv, dstAt, aop, evalsA, partsA, evalO, updO, ofArgs, binV, intBin, unV, mmV, builtinA, Nat.reduceLT, Nat.reduceEqDiff, Nat.reduceAdd, Nat.reduceSub, Nat.reduceMul, ↓reduceIte, reduceCtorEq, r1, hla])
  refine W_block ?_
  refine W_loopI (fun m τ ds S' => S' = S ∧ ds = [] ∧ ∃ k : Nat, m = n - k ∧ k ≤ n ∧ τ 0 = .int .i64 w ∧ τ 1 = .pointer (some ⟨bl, 0, none⟩) ∧ τ 2 = .pointer (some ⟨bv, 0, none⟩) ∧ τ 7 = .int .i64 n ∧ τ 8 = .int .i64 k ∧ ∀ u, u < k → ¬ (M v u = 1 ∧ M u w = 1)) n ?_ ?_
  · refine ⟨rfl, rfl, 0, by simp, by simp, ?_, ?_, ?_, ?_, ?_, fun u hu => by omega⟩ <;> first | rfl | simp only [H0, J86, J87, und3, und4, und22, und26, und29, und45, und64, info3, info4, info22, info26, info29, info45, info64, info50, aggT, gv, dstAt, aop, evalsA, partsA, evalO, updO, ofArgs, binV, intBin, unV, mmV, builtinA, Nat.reduceLT, Nat.reduceEqDiff, Nat.reduceAdd, Nat.reduceSub, Nat.reduceMul, ↓reduceIte, reduceCtorEq]
  · rintro m τ ds S' ⟨rfl, rfl, k, rfl, hk, t0, t1, t2, t7, t8, hb⟩
    by_cases hlt : k < n
    · have e1 : decide ((k : Int) < n) = true := by simpa using hlt
      have hw := wrap_succ (k := k) (by omega)
      obtain ⟨q, q1, q2, _⟩ := hrow.at1 (T := TT) (k := .i64) und26 info3 und3 rfl rfl (i := k) (by rw [mrow_len]; exact hlt)
      rw [iv_get, mrow_get _ hlt] at q2
      obtain ⟨p', rv', p1', p2', hrow', _⟩ := hx.row (T := TT) (k := .i64) und22 info26 und26 rfl (i := k) (by rw [mrows_len]; exact hlt)
      rw [mrows_get] at hrow'
      obtain ⟨q', q1', q2', _⟩ := hrow'.at1 (T := TT) (k := .i64) und26 info3 und3 rfl rfl (i := w) (by rw [mrow_len]; exact h2)
      rw [iv_get, mrow_get _ h2] at q2'
      have c1 := hC.coin h1 hlt
      have c2 := hC.coin hlt h2
      have hw2 : IntKind.i64.wrap (M v k + M k w) = M v k + M k w := wrap_id (by omega) (by omega)
      by_cases e : M v k = 1 ∧ M k w = 1
      · have e2 : (M v k + M k w == 2) = true := by rw [e.1, e.2]; rfl
        repeat (first | with_reducible (first | refine W_seq ?_ | refine W_block ?_ | refine W_scope ?_ | refine W_regionV hTT ?_ | refine W_condV ?_ | refine W_ret ?_ | refine W_exit ?_ | refine W_skip ?_ | refine W_label ?_ | refine W_drawV hTT (by kernel_rfl) ?_) | simp only [H0, J86, J87, und3, und4, und22, und26, und29, und45, und64, info3, info4, info22, info26, info29, info45, info64, info50, aggT, gv, dstAt, aop, evalsA, partsA, evalO, updO, ofArgs, binV, intBin, unV, mmV, builtinA, Nat.reduceLT, Nat.reduceEqDiff, Nat.reduceAdd, Nat.reduceSub, Nat.reduceMul, ↓reduceIte, reduceCtorEq, r1, r2, t0, t1, t2, t7, t8, e1, p1, p2, q1, q2, p1', p2', q1', q2', hw2, e2])
        unfold reachB
        rw [viaB_true hlt e.1 e.2]
        rfl
      · have e2 : (M v k + M k w == 2) = false := by rw [beq_eq_false_iff_ne]; omega
        repeat (first | with_reducible (first | refine W_seq ?_ | refine W_block ?_ | refine W_scope ?_ | refine W_regionV hTT ?_ | refine W_condV ?_ | refine W_ret ?_ | refine W_exit ?_ | refine W_skip ?_ | refine W_label ?_ | refine W_drawV hTT (by kernel_rfl) ?_) | simp only [H0, J86, J87, und3, und4, und22, und26, und29, und45, und64, info3, info4, info22, info26, info29, info45, info64, info50, aggT, gv, dstAt, aop, evalsA, partsA, evalO, updO, ofArgs, binV, intBin, unV, mmV, builtinA, Nat.reduceLT, Nat.reduceEqDiff, Nat.reduceAdd, Nat.reduceSub, Nat.reduceMul, ↓reduceIte, reduceCtorEq, r1, r2, t0, t1, t2, t7, t8, e1, p1, p2, q1, q2, p1', p2', q1', q2', hw2, e2, hw])
        refine LoopQ_intro (n - (k + 1)) (by omega) ⟨rfl, rfl, k + 1, rfl, by omega, by simp only [H0, J86, J87, und3, und4, und22, und26, und29, und45, und64, info3, info4, info22, info26, info29, info45, info64, info50, aggT, gv, dstAt, aop, evalsA, partsA, evalO, updO, ofArgs, binV, intBin, unV, mmV, builtinA, Nat.reduceLT, Nat.reduceEqDiff, Nat.reduceAdd, Nat.reduceSub, Nat.reduceMul, ↓reduceIte, reduceCtorEq, t0], by simp only [H0, J86, J87, und3, und4, und22, und26, und29, und45, und64, info3, info4, info22, info26, info29, info45, info64, info50, aggT, gv, dstAt, aop, evalsA, partsA, evalO, updO, ofArgs, binV, intBin, unV, mmV, builtinA, Nat.reduceLT, Nat.reduceEqDiff, Nat.reduceAdd, Nat.reduceSub, Nat.reduceMul, ↓reduceIte, reduceCtorEq, t1], by simp only [H0, J86, J87, und3, und4, und22, und26, und29, und45, und64, info3, info4, info22, info26, info29, info45, info64, info50, aggT, gv, dstAt, aop, evalsA, partsA, evalO, updO, ofArgs, binV, intBin, unV, mmV, builtinA, Nat.reduceLT, Nat.reduceEqDiff, Nat.reduceAdd, Nat.reduceSub, Nat.reduceMul, ↓reduceIte, reduceCtorEq, t2], by simp only [H0, J86, J87, und3, und4, und22, und26, und29, und45, und64, info3, info4, info22, info26, info29, info45, info64, info50, aggT, gv, dstAt, aop, evalsA, partsA, evalO, updO, ofArgs, binV, intBin, unV, mmV, builtinA, Nat.reduceLT, Nat.reduceEqDiff, Nat.reduceAdd, Nat.reduceSub, Nat.reduceMul, ↓reduceIte, reduceCtorEq, t7], by simp only [H0, J86, J87, und3, und4, und22, und26, und29, und45, und64, info3, info4, info22, info26, info29, info45, info64, info50, aggT, gv, dstAt, aop, evalsA, partsA, evalO, updO, ofArgs, binV, intBin, unV, mmV, builtinA, Nat.reduceLT, Nat.reduceEqDiff, Nat.reduceAdd, Nat.reduceSub, Nat.reduceMul, ↓reduceIte, reduceCtorEq, t8, hw], fun u hu => ?_⟩
        by_cases eu : u = k
        · subst eu; exact e
        · exact hb u (by omega)
    · have e1 : decide ((k : Int) < n) = false := by simpa using hlt
      have hkk : k = n := by omega
      subst hkk
      have hvia := viaB_false hb
      obtain ⟨q, q1, q2, _⟩ := hrow.at1 (T := TT) (k := .i64) und26 info3 und3 rfl rfl (i := w) (by rw [mrow_len]; exact h2)
      rw [iv_get, mrow_get _ h2] at q2
      by_cases e : v = w
      · subst e
        repeat (first | with_reducible (first | refine W_seq ?_ | refine W_block ?_ | refine W_scope ?_ | refine W_regionV hTT ?_ | refine W_condV ?_ | refine W_ret ?_ | refine W_exit ?_ | refine W_skip ?_ | refine W_label ?_ | refine W_drawV hTT (by kernel_rfl) ?_) | simp only [H0, J86, J87, und3, und4, und22, und26, und29, und45, und64, info3, info4, info22, info26, info29, info45, info64, info50, aggT, gv, dstAt, aop, evalsA, partsA, evalO, updO, ofArgs, binV, intBin, unV, mmV, builtinA, Nat.reduceLT, Nat.reduceEqDiff, Nat.reduceAdd, Nat.reduceSub, Nat.reduceMul, ↓reduceIte, reduceCtorEq, r1, r2, t0, t1, t2, t7, t8, e1, beq_self_eq_true])
        unfold reachB
        rw [hvia]
        simp
      · have e2 : ((v : Int) == w) = false := by rw [beq_eq_false_iff_ne]; omega
        repeat (first | with_reducible (first | refine W_seq ?_ | refine W_block ?_ | refine W_scope ?_ | refine W_regionV hTT ?_ | refine W_condV ?_ | refine W_ret ?_ | refine W_exit ?_ | refine W_skip ?_ | refine W_label ?_ | refine W_drawV hTT (by kernel_rfl) ?_) | simp only [H0, J86, J87, und3, und4, und22, und26, und29, und45, und64, info3, info4, info22, info26, info29, info45, info64, info50, aggT, gv, dstAt, aop, evalsA, partsA, evalO, updO, ofArgs, binV, intBin, unV, mmV, builtinA, Nat.reduceLT, Nat.reduceEqDiff, Nat.reduceAdd, Nat.reduceSub, Nat.reduceMul, ↓reduceIte, reduceCtorEq, r1, r2, t0, t1, t2, t7, t8, e1, e2, p1, p2, q1, q2])
        unfold reachB
        rw [hvia]
        simp [e]
theorem fn13 : TT.fn 13 = some Tryz.f13 := by kernel_rfl
theorem kings_step (n : Nat) (M : Nat → Nat → Int) (k : Nat) : ((List.range (k + 1)).filter (kingB n M)).map (fun v : Nat => (v : Int)) = ((List.range k).filter (kingB n M)).map (fun v : Nat => (v : Int)) ++ (if kingB n M k = true then [(k : Int)] else []) := by
  rw [List.range_succ, List.filter_append, List.map_append]
  congr 1
  by_cases h : kingB n M k = true <;> simp [h]
theorem all_step (p : Nat → Bool) (k : Nat) : (List.range (k + 1)).all p = ((List.range k).all p && p k) := by
  rw [List.range_succ, List.all_append]
  simp
theorem kings_len (n : Nat) (M : Nat → Nat → Int) (k : Nat) : (((List.range k).filter (kingB n M)).map (fun v : Nat => (v : Int))).length ≤ k := by
  rw [List.length_map]
  have := List.length_filter_le (kingB n M) (List.range k)
  simpa using this
theorem al3 (S : St) : allocA TT S 3 = some (.pointer (some ⟨S.n, 0, none⟩), S.push (.cells [.int .i64 0] 3 0)) := by
  simp only [allocA, info3, boxA, Value.cells, plain_int, if_true]
set_option maxHeartbeats 4000000 in
/-- Kings, of a contest -/
theorem kings_call {S : St} (hok : S.ok) {vl : Value} {n : Nat} {M : Nat → Nat → Int} (hx0 : Mat S vl (mrows n n M)) (hpl : Plain vl n) (hn : n < 31) (hC : IsC n M) :
    CallW PP 13 [vl] S (fun v S' => ∃ u, v = .tuple #[u, .int .i64 0] ∧ Mine S' 3 1 S.n u (iv (kings n M)) (kings n M).length ∧ Ext S S') := by
  have hcp := hpl.cells
  have hE0 : Ext S (S.push (.cells [vl] 22 0)) := (Ext.refl hok).push _
  have hx := hx0.extd hE0
  have hla := hx.len (T := TT) und22
  rw [mrows_len] at hla
  have hl : (S.push (.cells [vl] 22 0)).get S.n = some (.cells [vl] 22 0) := get_push_new _ rfl
  have r1 := load_one (o := 0) und22 info22 rfl hl
  simp only [List.getElem?_cons_zero] at r1
  refine CallW_of hTT fn13 rfl (by simp [Tryz.f13]) ?_
  unfold Tryz.f13
  repeat (first | with_reducible (first | refine W_seq ?_ | refine W_block ?_ | refine W_scope ?_ | refine W_regionV hTT ?_ | refine W_condV ?_ | refine W_ret ?_ | refine W_exit ?_ | refine W_skip ?_ | refine W_label ?_ | refine W_drawV hTT (by kernel_rfl) ?_) | simp only [H0, J86, J87, und3, und4, und22, und26, und29, und45, und64, info3, info4, info22, info26, info29, info45, info64, info50, aggT, gv, dstAt, aop, evalsA, partsA, evalO, updO, ofArgs, binV, intBin, unV, mmV, builtinA, Nat.reduceLT, Nat.reduceEqDiff, Nat.reduceAdd, Nat.reduceSub, Nat.reduceMul, ↓reduceIte, reduceCtorEq, boxA, hcp.1, r1])
  refine VCall_intro (isContest_yes hx hn hC) ?_
  rintro v S1 ⟨rfl, rfl⟩
  repeat (first | with_reducible (first | refine W_seq ?_ | refine W_scope ?_ | refine W_regionV hTT ?_ | refine W_condV ?_ | refine W_ret ?_ | refine W_exit ?_ | refine W_skip ?_ | refine W_label ?_ | refine W_drawV hTT (by kernel_rfl) ?_) | simp only [H0, J86, J87, und3, und4, und22, und26, und29, und45, und64, info3, info4, info22, info26, info29, info45, info64, info50, aggT, gv, dstAt, aop, evalsA, partsA, evalO, updO, ofArgs, binV, intBin, unV, mmV, builtinA, Nat.reduceLT, Nat.reduceEqDiff, Nat.reduceAdd, Nat.reduceSub, Nat.reduceMul, ↓reduceIte, reduceCtorEq, r1, hla])
  refine W_block ?_
  refine W_loopI (fun m τ ds S' => Ext (S.push (.cells [vl] 22 0)) S' ∧ ds = [] ∧ ∃ (k : Nat) (v4 : Value), m = n - k ∧ k ≤ n ∧ τ 1 = .pointer (some ⟨S.n, 0, none⟩) ∧ τ 4 = v4 ∧ τ 13 = .int .i64 n ∧ τ 14 = .int .i64 k ∧ Mine S' 3 1 (S.n + 1) v4 (iv (((List.range k).filter (kingB n M)).map (fun v : Nat => (v : Int)))) (((List.range k).filter (kingB n M)).map (fun v : Nat => (v : Int))).length) n ?_ ?_
  · refine ⟨Ext.refl hE0.ok, rfl, 0, .slice none 0 0, by simp, by simp, ?_, ?_, ?_, ?_, Mine.nil _ _ _ _⟩ <;> first | rfl | simp only [H0, J86, J87, und3, und4, und22, und26, und29, und45, und64, info3, info4, info22, info26, info29, info45, info64, info50, aggT, gv, dstAt, aop, evalsA, partsA, evalO, updO, ofArgs, binV, intBin, unV, mmV, builtinA, Nat.reduceLT, Nat.reduceEqDiff, Nat.reduceAdd, Nat.reduceSub, Nat.reduceMul, ↓reduceIte, reduceCtorEq]
  · rintro m τ ds S' ⟨hE, rfl, k, v4, rfl, hk, t1, t4, t13, t14, hM⟩
    have hnn := hE.n
    rw [push_n] at hnn
    by_cases hlt : k < n
    · have e1 : decide ((k : Int) < n) = true := by simpa using hlt
      have hw := wrap_succ (k := k) (by omega)
      have s1 := store_one (T := TT) (S := S'.push (.cells [.int .i64 0] 3 0)) (b := S'.n) (o := 0) (v := .int .i64 k) info3 (get_push_new _ rfl) rfl rfl (by simp)
      simp only [List.set_cons_zero] at s1
      generalize hS2 : (S'.push (.cells [.int .i64 0] 3 0)).set S'.n (.cells [.int .i64 k] 3 0) = S2 at s1
      have hE2 : Ext (S.push (.cells [vl] 22 0)) S2 := by
        rw [← hS2]
        exact (hE.push _).set _ (by rw [push_n]; omega) (by rw [push_n]; omega)
      have g5 : S2.get S'.n = some (.cells [.int .i64 k] 3 0) := by
        rw [← hS2]
        exact get_set_same _ (by rw [ok_push_iff]; exact hE.ok) (by rw [push_n]; omega) rfl
      have hM2 : Mine S2 3 1 (S.n + 1) v4 (iv (((List.range k).filter (kingB n M)).map (fun v : Nat => (v : Int)))) (((List.range k).filter (kingB n M)).map (fun v : Nat => (v : Int))).length := by
        refine hM.same fun b hb => ?_
        have := (hM.base hb).2
        rw [← hS2, get_set_ne _ (by rw [push_n]; omega) (by omega), get_push_ne _ (by omega)]
      have g1 := hE2.get hl
      have r2 := load_one (o := 0) und22 info22 rfl g1
      have r3 := load_one (o := 0) und3 info3 rfl g5
      simp only [List.getElem?_cons_zero] at r2 r3
      have hx2 := hx.extd hE2
      have hla2 := hx2.len (T := TT) und22
      rw [mrows_len] at hla2
      repeat (first | with_reducible (first | refine W_seq ?_ | refine W_scope ?_ | refine W_regionV hTT ?_ | refine W_condV ?_ | refine W_ret ?_ | refine W_exit ?_ | refine W_skip ?_ | refine W_label ?_ | refine W_drawV hTT (by kernel_rfl) ?_) | simp only [H0, J86, J87, und3, und4, und22, und26, und29, und45, und64, info3, info4, info22, info26, info29, info45, info64, info50, aggT, gv, dstAt, aop, evalsA, partsA, evalO, updO, ofArgs, binV, intBin, unV, mmV, builtinA, Nat.reduceLT, Nat.reduceEqDiff, Nat.reduceAdd, Nat.reduceSub, Nat.reduceMul, ↓reduceIte, reduceCtorEq, t1, t4, t13, t14, e1, al3, s1, fnOk_func, r2, hla2])
      refine W_block ?_
      repeat (first | with_reducible (first | refine W_seq ?_ | refine W_scope ?_ | refine W_regionV hTT ?_ | refine W_condV ?_ | refine W_ret ?_ | refine W_exit ?_ | refine W_skip ?_ | refine W_label ?_ | refine W_drawV hTT (by kernel_rfl) ?_) | simp only [H0, J86, J87, und3, und4, und22, und26, und29, und45, und64, info3, info4, info22, info26, info29, info45, info64, info50, aggT, gv, dstAt, aop, evalsA, partsA, evalO, updO, ofArgs, binV, intBin, unV, mmV, builtinA, Nat.reduceLT, Nat.reduceEqDiff, Nat.reduceAdd, Nat.reduceSub, Nat.reduceMul, ↓reduceIte, reduceCtorEq, t1, t4, t13, t14, al3, s1, fnOk_func, r2, hla2])
      refine W_block ?_
      refine W_loopI (fun m τ ds S3 => S3 = S2 ∧ ds = [] ∧ ∃ j : Nat, m = n - j ∧ j ≤ n ∧ τ 1 = .pointer (some ⟨S.n, 0, none⟩) ∧ τ 4 = v4 ∧ τ 13 = .int .i64 n ∧ τ 14 = .int .i64 k ∧ τ 5 = .pointer (some ⟨S'.n, 0, none⟩) ∧ τ 6 = .func (.func 35) #[] #[.pointer (some ⟨S.n, 0, none⟩), .pointer (some ⟨S'.n, 0, none⟩)] ∧ τ 19 = .int .i64 n ∧ τ 20 = .int .i64 j ∧ τ 7 = .bool ((List.range j).all (reachB n M k))) n ?_ ?_
      · refine ⟨rfl, rfl, 0, by simp, by simp, ?_, ?_, ?_, ?_, ?_, ?_, ?_, ?_, ?_⟩ <;> first | rfl | simp only [H0, J86, J87, und3, und4, und22, und26, und29, und45, und64, info3, info4, info22, info26, info29, info45, info64, info50, aggT, gv, dstAt, aop, evalsA, partsA, evalO, updO, ofArgs, binV, intBin, unV, mmV, builtinA, Nat.reduceLT, Nat.reduceEqDiff, Nat.reduceAdd, Nat.reduceSub, Nat.reduceMul, ↓reduceIte, reduceCtorEq, t1, t4, t13, t14]
      · rintro m τ ds S3 ⟨rfl, rfl, j, rfl, hj, t1, t4, t13, t14, t5, t6, t19, t20, t7⟩
        have hw2 := wrap_succ (k := j) (by omega)
        by_cases hjn : j < n
        · have e2 : decide ((j : Int) < n) = true := by simpa using hjn
          have hstep := all_step (reachB n M k) j
          cases hb : (List.range j).all (reachB n M k) with
          | true =>
            rw [hb] at t7 hstep
            repeat (first | with_reducible (first | refine W_seq ?_ | refine W_block ?_ | refine W_scope ?_ | refine W_regionV hTT ?_ | refine W_condV ?_ | refine W_ret ?_ | refine W_exit ?_ | refine W_skip ?_ | refine W_label ?_ | refine W_drawV hTT (by kernel_rfl) ?_) | simp only [H0, J86, J87, und3, und4, und22, und26, und29, und45, und64, info3, info4, info22, info26, info29, info45, info64, info50, aggT, gv, dstAt, aop, evalsA, partsA, evalO, updO, ofArgs, binV, intBin, unV, mmV, builtinA, Nat.reduceLT, Nat.reduceEqDiff, Nat.reduceAdd, Nat.reduceSub, Nat.reduceMul, ↓reduceIte, reduceCtorEq, t1, t4, t13, t14, t5, t6, t19, t20, t7, e2, hw2])
            refine VCall_intro (reaches_call hx2 hn hC g1 g5 hlt hjn) ?_
            rintro v S4 ⟨rfl, rfl⟩
            repeat (first | with_reducible (first | refine W_seq ?_ | refine W_block ?_ | refine W_scope ?_ | refine W_regionV hTT ?_ | refine W_condV ?_ | refine W_ret ?_ | refine W_exit ?_ | refine W_skip ?_ | refine W_label ?_ | refine W_drawV hTT (by kernel_rfl) ?_) | simp only [H0, J86, J87, und3, und4, und22, und26, und29, und45, und64, info3, info4, info22, info26, info29, info45, info64, info50, aggT, gv, dstAt, aop, evalsA, partsA, evalO, updO, ofArgs, binV, intBin, unV, mmV, builtinA, Nat.reduceLT, Nat.reduceEqDiff, Nat.reduceAdd, Nat.reduceSub, Nat.reduceMul, ↓reduceIte, reduceCtorEq, t1, t4, t13, t14, t5, t6, t19, t20, t7, hw2])
            refine LoopQ_intro (n - (j + 1)) (by omega) ⟨rfl, rfl, j + 1, rfl, by omega, by simp only [H0, J86, J87, und3, und4, und22, und26, und29, und45, und64, info3, info4, info22, info26, info29, info45, info64, info50, aggT, gv, dstAt, aop, evalsA, partsA, evalO, updO, ofArgs, binV, intBin, unV, mmV, builtinA, Nat.reduceLT, Nat.reduceEqDiff, Nat.reduceAdd, Nat.reduceSub, Nat.reduceMul, ↓reduceIte, reduceCtorEq, t1], by simp only [H0, J86, J87, und3, und4, und22, und26, und29, und45, und64, info3, info4, info22, info26, info29, info45, info64, info50, aggT, gv, dstAt, aop, evalsA, partsA, evalO, updO, ofArgs, binV, intBin, unV, mmV, builtinA, Nat.reduceLT, Nat.reduceEqDiff, Nat.reduceAdd, Nat.reduceSub, Nat.reduceMul, ↓reduceIte, reduceCtorEq, t4], by simp only [H0, J86, J87, und3, und4, und22, und26, und29, und45, und64, info3, info4, info22, info26, info29, info45, info64, info50, aggT, gv, dstAt, aop, evalsA, partsA, evalO, updO, ofArgs, binV, intBin, unV, mmV, builtinA, Nat.reduceLT, Nat.reduceEqDiff, Nat.reduceAdd, Nat.reduceSub, Nat.reduceMul, ↓reduceIte, reduceCtorEq, t13], by simp only [H0, J86, J87, und3, und4, und22, und26, und29, und45, und64, info3, info4, info22, info26, info29, info45, info64, info50, aggT, gv, dstAt, aop, evalsA, partsA, evalO, updO, ofArgs, binV, intBin, unV, mmV, builtinA, Nat.reduceLT, Nat.reduceEqDiff, Nat.reduceAdd, Nat.reduceSub, Nat.reduceMul, ↓reduceIte, reduceCtorEq, t14], by simp only [H0, J86, J87, und3, und4, und22, und26, und29, und45, und64, info3, info4, info22, info26, info29, info45, info64, info50, aggT, gv, dstAt, aop, evalsA, partsA, evalO, updO, ofArgs, binV, intBin, unV, mmV, builtinA, Nat.reduceLT, Nat.reduceEqDiff, Nat.reduceAdd, Nat.reduceSub, Nat.reduceMul, ↓reduceIte, reduceCtorEq, t5], by simp only [H0, J86, J87, und3, und4, und22, und26, und29, und45, und64, info3, info4, info22, info26, info29, info45, info64, info50, aggT, gv, dstAt, aop, evalsA, partsA, evalO, updO, ofArgs, binV, intBin, unV, mmV, builtinA, Nat.reduceLT, Nat.reduceEqDiff, Nat.reduceAdd, Nat.reduceSub, Nat.reduceMul, ↓reduceIte, reduceCtorEq, t6], by simp only [H0, J86, J87, und3, und4, und22, und26, und29, und45, und64, info3, info4, info22, info26, info29, info45, info64, info50, aggT, gv, dstAt, aop, evalsA, partsA, evalO, updO, ofArgs, binV, intBin, unV, mmV, builtinA, Nat.reduceLT, Nat.reduceEqDiff, Nat.reduceAdd, Nat.reduceSub, Nat.reduceMul, ↓reduceIte, reduceCtorEq, t19], by simp only [H0, J86, J87, und3, und4, und22, und26, und29, und45, und64, info3, info4, info22, info26, info29, info45, info64, info50, aggT, gv, dstAt, aop, evalsA, partsA, evalO, updO, ofArgs, binV, intBin, unV, mmV, builtinA, Nat.reduceLT, Nat.reduceEqDiff, Nat.reduceAdd, Nat.reduceSub, Nat.reduceMul, ↓reduceIte, reduceCtorEq, t20, hw2], ?_⟩
            rw [hstep, Bool.true_and]
            first | rfl | simp only [H0, J86, J87, und3, und4, und22, und26, und29, und45, und64, info3, info4, info22, info26, info29, info45, info64, info50, aggT, gv, dstAt, aop, evalsA, partsA, evalO, updO, ofArgs, binV, intBin, unV, mmV, builtinA, Nat.reduceLT, Nat.reduceEqDiff, Nat.reduceAdd, Nat.reduceSub, Nat.reduceMul, ↓reduceIte, reduceCtorEq]
          | false =>
            rw [hb] at t7 hstep
            repeat (first | with_reducible (first | refine W_seq ?_ | refine W_block ?_ | refine W_scope ?_ | refine W_regionV hTT ?_ | refine W_condV ?_ | refine W_ret ?_ | refine W_exit ?_ | refine W_skip ?_ | refine W_label ?_ | refine W_drawV hTT (by kernel_rfl) ?_) | simp only [H0, J86, J87, und3, und4, und22, und26, und29, und45, und64, info3, info4, info22, info26, info29, info45, info64, info50, aggT, gv, dstAt, aop, evalsA, partsA, evalO, updO, ofArgs, binV, intBin, unV, mmV, builtinA, Nat.reduceLT, Nat.reduceEqDiff, Nat.reduceAdd, Nat.reduceSub, Nat.reduceMul, ↓reduceIte, reduceCtorEq, t1, t4, t13, t14, t5, t6, t19, t20, t7, e2, hw2])
            refine LoopQ_intro (n - (j + 1)) (by omega) ⟨rfl, rfl, j + 1, rfl, by omega, by simp only [H0, J86, J87, und3, und4, und22, und26, und29, und45, und64, info3, info4, info22, info26, info29, info45, info64, info50, aggT, gv, dstAt, aop, evalsA, partsA, evalO, updO, ofArgs, binV, intBin, unV, mmV, builtinA, Nat.reduceLT, Nat.reduceEqDiff, Nat.reduceAdd, Nat.reduceSub, Nat.reduceMul, ↓reduceIte, reduceCtorEq, t1], by simp only [H0, J86, J87, und3, und4, und22, und26, und29, und45, und64, info3, info4, info22, info26, info29, info45, info64, info50, aggT, gv, dstAt, aop, evalsA, partsA, evalO, updO, ofArgs, binV, intBin, unV, mmV, builtinA, Nat.reduceLT, Nat.reduceEqDiff, Nat.reduceAdd, Nat.reduceSub, Nat.reduceMul, ↓reduceIte, reduceCtorEq, t4], by simp only [H0, J86, J87, und3, und4, und22, und26, und29, und45, und64, info3, info4, info22, info26, info29, info45, info64, info50, aggT, gv, dstAt, aop, evalsA, partsA, evalO, updO, ofArgs, binV, intBin, unV, mmV, builtinA, Nat.reduceLT, Nat.reduceEqDiff, Nat.reduceAdd, Nat.reduceSub, Nat.reduceMul, ↓reduceIte, reduceCtorEq, t13], by simp only [H0, J86, J87, und3, und4, und22, und26, und29, und45, und64, info3, info4, info22, info26, info29, info45, info64, info50, aggT, gv, dstAt, aop, evalsA, partsA, evalO, updO, ofArgs, binV, intBin, unV, mmV, builtinA, Nat.reduceLT, Nat.reduceEqDiff, Nat.reduceAdd, Nat.reduceSub, Nat.reduceMul, ↓reduceIte, reduceCtorEq, t14], by simp only [H0, J86, J87, und3, und4, und22, und26, und29, und45, und64, info3, info4, info22, info26, info29, info45, info64, info50, aggT, gv, dstAt, aop, evalsA, partsA, evalO, updO, ofArgs, binV, intBin, unV, mmV, builtinA, Nat.reduceLT, Nat.reduceEqDiff, Nat.reduceAdd, Nat.reduceSub, Nat.reduceMul, ↓reduceIte, reduceCtorEq, t5], by simp only [H0, J86, J87, und3, und4, und22, und26, und29, und45, und64, info3, info4, info22, info26, info29, info45, info64, info50, aggT, gv, dstAt, aop, evalsA, partsA, evalO, updO, ofArgs, binV, intBin, unV, mmV, builtinA, Nat.reduceLT, Nat.reduceEqDiff, Nat.reduceAdd, Nat.reduceSub, Nat.reduceMul, ↓reduceIte, reduceCtorEq, t6], by simp only [H0, J86, J87, und3, und4, und22, und26, und29, und45, und64, info3, info4, info22, info26, info29, info45, info64, info50, aggT, gv, dstAt, aop, evalsA, partsA, evalO, updO, ofArgs, binV, intBin, unV, mmV, builtinA, Nat.reduceLT, Nat.reduceEqDiff, Nat.reduceAdd, Nat.reduceSub, Nat.reduceMul, ↓reduceIte, reduceCtorEq, t19], by simp only [H0, J86, J87, und3, und4, und22, und26, und29, und45, und64, info3, info4, info22, info26, info29, info45, info64, info50, aggT, gv, dstAt, aop, evalsA, partsA, evalO, updO, ofArgs, binV, intBin, unV, mmV, builtinA, Nat.reduceLT, Nat.reduceEqDiff, Nat.reduceAdd, Nat.reduceSub, Nat.reduceMul, ↓reduceIte, reduceCtorEq, t20, hw2], ?_⟩
            rw [hstep, Bool.false_and]
            first | rfl | simp only [H0, J86, J87, und3, und4, und22, und26, und29, und45, und64, info3, info4, info22, info26, info29, info45, info64, info50, aggT, gv, dstAt, aop, evalsA, partsA, evalO, updO, ofArgs, binV, intBin, unV, mmV, builtinA, Nat.reduceLT, Nat.reduceEqDiff, Nat.reduceAdd, Nat.reduceSub, Nat.reduceMul, ↓reduceIte, reduceCtorEq]
        · have e2 : decide ((j : Int) < n) = false := by simpa using hjn
          have hjj : j = n := by omega
          rw [hjj] at t7
          change τ 7 = .bool (kingB n M k) at t7
          have hk1 := kings_step n M k
          have hkl := kings_len n M k
          cases hb : kingB n M k with
          | true =>
            rw [hb] at t7 hk1
            rw [if_pos rfl] at hk1
            have b1 := bs_one (T := TT) (S := S3) (x := .int .i64 k) und26 info3 rfl rfl rfl
            obtain ⟨v', S4, a1, a2, a3, a4⟩ := hM2.push_one (T := TT) (x := .int .i64 k) hE2.ok (by have := hE2.n; rw [push_n] at this; omega) und26 info3 rfl rfl (by omega) (by omega)
            have hE4 : Ext (S.push (.cells [vl] 22 0)) S4 := a3.ext hE2 fun b hb => by rw [push_n]; exact (hM2.base hb).1
            repeat (first | with_reducible (first | refine W_seq ?_ | refine W_block ?_ | refine W_scope ?_ | refine W_regionV hTT ?_ | refine W_condV ?_ | refine W_ret ?_ | refine W_exit ?_ | refine W_skip ?_ | refine W_label ?_ | refine W_drawV hTT (by kernel_rfl) ?_) | simp only [H0, J86, J87, und3, und4, und22, und26, und29, und45, und64, info3, info4, info22, info26, info29, info45, info64, info50, aggT, gv, dstAt, aop, evalsA, partsA, evalO, updO, ofArgs, binV, intBin, unV, mmV, builtinA, Nat.reduceLT, Nat.reduceEqDiff, Nat.reduceAdd, Nat.reduceSub, Nat.reduceMul, ↓reduceIte, reduceCtorEq, t1, t4, t13, t14, t5, t6, t19, t20, t7, e2, r3, b1, a1, hw])
            refine LoopQ_intro (n - (k + 1)) (by omega) ⟨hE4, rfl, k + 1, v', rfl, by omega, by simp only [H0, J86, J87, und3, und4, und22, und26, und29, und45, und64, info3, info4, info22, info26, info29, info45, info64, info50, aggT, gv, dstAt, aop, evalsA, partsA, evalO, updO, ofArgs, binV, intBin, unV, mmV, builtinA, Nat.reduceLT, Nat.reduceEqDiff, Nat.reduceAdd, Nat.reduceSub, Nat.reduceMul, ↓reduceIte, reduceCtorEq, t1], by simp only [H0, J86, J87, und3, und4, und22, und26, und29, und45, und64, info3, info4, info22, info26, info29, info45, info64, info50, aggT, gv, dstAt, aop, evalsA, partsA, evalO, updO, ofArgs, binV, intBin, unV, mmV, builtinA, Nat.reduceLT, Nat.reduceEqDiff, Nat.reduceAdd, Nat.reduceSub, Nat.reduceMul, ↓reduceIte, reduceCtorEq], by simp only [H0, J86, J87, und3, und4, und22, und26, und29, und45, und64, info3, info4, info22, info26, info29, info45, info64, info50, aggT, gv, dstAt, aop, evalsA, partsA, evalO, updO, ofArgs, binV, intBin, unV, mmV, builtinA, Nat.reduceLT, Nat.reduceEqDiff, Nat.reduceAdd, Nat.reduceSub, Nat.reduceMul, ↓reduceIte, reduceCtorEq, t13], by simp only [H0, J86, J87, und3, und4, und22, und26, und29, und45, und64, info3, info4, info22, info26, info29, info45, info64, info50, aggT, gv, dstAt, aop, evalsA, partsA, evalO, updO, ofArgs, binV, intBin, unV, mmV, builtinA, Nat.reduceLT, Nat.reduceEqDiff, Nat.reduceAdd, Nat.reduceSub, Nat.reduceMul, ↓reduceIte, reduceCtorEq, t14, hw], ?_⟩
            rw [hk1, ← iv_append, List.length_append]
            exact a2
          | false =>
            rw [hb] at t7 hk1
            rw [if_neg (by simp), List.append_nil] at hk1
            repeat (first | with_reducible (first | refine W_seq ?_ | refine W_block ?_ | refine W_scope ?_ | refine W_regionV hTT ?_ | refine W_condV ?_ | refine W_ret ?_ | refine W_exit ?_ | refine W_skip ?_ | refine W_label ?_ | refine W_drawV hTT (by kernel_rfl) ?_) | simp only [H0, J86, J87, und3, und4, und22, und26, und29, und45, und64, info3, info4, info22, info26, info29, info45, info64, info50, aggT, gv, dstAt, aop, evalsA, partsA, evalO, updO, ofArgs, binV, intBin, unV, mmV, builtinA, Nat.reduceLT, Nat.reduceEqDiff, Nat.reduceAdd, Nat.reduceSub, Nat.reduceMul, ↓reduceIte, reduceCtorEq, t1, t4, t13, t14, t5, t6, t19, t20, t7, e2, hw])
            refine LoopQ_intro (n - (k + 1)) (by omega) ⟨hE2, rfl, k + 1, v4, rfl, by omega, by simp only [H0, J86, J87, und3, und4, und22, und26, und29, und45, und64, info3, info4, info22, info26, info29, info45, info64, info50, aggT, gv, dstAt, aop, evalsA, partsA, evalO, updO, ofArgs, binV, intBin, unV, mmV, builtinA, Nat.reduceLT, Nat.reduceEqDiff, Nat.reduceAdd, Nat.reduceSub, Nat.reduceMul, ↓reduceIte, reduceCtorEq, t1], by simp only [H0, J86, J87, und3, und4, und22, und26, und29, und45, und64, info3, info4, info22, info26, info29, info45, info64, info50, aggT, gv, dstAt, aop, evalsA, partsA, evalO, updO, ofArgs, binV, intBin, unV, mmV, builtinA, Nat.reduceLT, Nat.reduceEqDiff, Nat.reduceAdd, Nat.reduceSub, Nat.reduceMul, ↓reduceIte, reduceCtorEq, t4], by simp only [H0, J86, J87, und3, und4, und22, und26, und29, und45, und64, info3, info4, info22, info26, info29, info45, info64, info50, aggT, gv, dstAt, aop, evalsA, partsA, evalO, updO, ofArgs, binV, intBin, unV, mmV, builtinA, Nat.reduceLT, Nat.reduceEqDiff, Nat.reduceAdd, Nat.reduceSub, Nat.reduceMul, ↓reduceIte, reduceCtorEq, t13], by simp only [H0, J86, J87, und3, und4, und22, und26, und29, und45, und64, info3, info4, info22, info26, info29, info45, info64, info50, aggT, gv, dstAt, aop, evalsA, partsA, evalO, updO, ofArgs, binV, intBin, unV, mmV, builtinA, Nat.reduceLT, Nat.reduceEqDiff, Nat.reduceAdd, Nat.reduceSub, Nat.reduceMul, ↓reduceIte, reduceCtorEq, t14, hw], ?_⟩
            rw [hk1]
            exact hM2
    · have e1 : decide ((k : Int) < n) = false := by simpa using hlt
      have hkk : k = n := by omega
      subst hkk
      repeat (first | with_reducible (first | refine W_seq ?_ | refine W_block ?_ | refine W_scope ?_ | refine W_regionV hTT ?_ | refine W_condV ?_ | refine W_ret ?_ | refine W_exit ?_ | refine W_skip ?_ | refine W_label ?_ | refine W_drawV hTT (by kernel_rfl) ?_) | simp only [H0, J86, J87, und3, und4, und22, und26, und29, und45, und64, info3, info4, info22, info26, info29, info45, info64, info50, aggT, gv, dstAt, aop, evalsA, partsA, evalO, updO, ofArgs, binV, intBin, unV, mmV, builtinA, Nat.reduceLT, Nat.reduceEqDiff, Nat.reduceAdd, Nat.reduceSub, Nat.reduceMul, ↓reduceIte, reduceCtorEq, t1, t4, t13, t14, e1])
      exact ⟨v4, rfl, hM.mono (Nat.le_succ _), hE0.trans hE⟩
end Go.Proofs.Sz
end
